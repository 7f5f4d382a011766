/- Trees in place of memory: one step for whatever can be told by reckoning alone. No condition. -/
import Derived.Test.YtckkkfgjgjoemaaTlR
import Derived.Test.YtckkkfgjgjoemaaTlZ
set_option linter.unusedVariables false
set_option linter.unusedSimpArgs false
namespace Go.TL

def lk {α : Type} : List (Nat × α) → Nat → Option α
  | [], _ => none
  | (k, a) :: r, t => match Nat.beq k t with
    | true => some a
    | false => lk r t
theorem lk_mem {α : Type} : ∀ {l : List (Nat × α)} {t : Nat} {a : α}, lk l t = some a → (t, a) ∈ l
  | [], _, _, h => by cases h
  | (k, b) :: r, t, a, h => by
    simp only [lk] at h
    split at h
    · rename_i e; cases h; rw [Nat.eq_of_beq_eq_true e]; simp
    · exact List.mem_cons_of_mem _ (lk_mem h)

/-- What the steps must know of types. -/
structure Tab where
  lay : List (Nat × Bool × Nat)
  fs : List (Nat × List (Nat × Bool × Nat))
  sel : List (Nat × Nat × Nat × Nat)
  str : List (Nat × Unit)
  boo : List (Nat × Unit)
  con : List (Nat × Unit)

structure TabOk (P : Program) (T : Tab) : Prop where
  lay : ∀ {t : Nat} {x : Bool × Nat}, lk T.lay t = some x → lay P t = some x
  fs : ∀ {t : Nat} {l : List (Nat × Bool × Nat)} {f : Nat} {x : Nat × Bool × Nat}, lk T.fs t = some l → l[f]? = some x → fld P t f = some x.1 ∧ fldv P t f = some x
  sel : ∀ {t : Nat} {x : Nat × Nat × Nat}, lk T.sel t = some x → sel P t = some x
  str : ∀ {t : Nat} {x : Unit}, lk T.str t = some x → P.underlying t = some .string
  boo : ∀ {t : Nat} {x : Unit}, lk T.boo t = some x → P.underlying t = some .bool
  con : ∀ {t : Nat} {x : Unit}, lk T.con t = some x → conc P t = true

def isStr (P : Program) (t : Nat) : Bool := match P.underlying t with
  | some .string => true
  | _ => false
def isBoo (P : Program) (t : Nat) : Bool := match P.underlying t with
  | some .bool => true
  | _ => false
def tabB (P : Program) (T : Tab) : Bool :=
  T.lay.all (fun e => lay P e.1 == some e.2) && T.fs.all (fun e => e.2.zipIdx.all fun x => fld P e.1 x.2 == some x.1.1 && fldv P e.1 x.2 == some x.1) && T.sel.all (fun e => sel P e.1 == some e.2) &&
  T.str.all (fun e => isStr P e.1) && T.boo.all (fun e => isBoo P e.1) && T.con.all (fun e => conc P e.1)
theorem tabB_ok {P : Program} {T : Tab} (h : tabB P T = true) : TabOk P T := by
  simp only [tabB, Bool.and_eq_true, List.all_eq_true] at h
  obtain ⟨⟨⟨⟨⟨h1, h2⟩, h3⟩, h4⟩, h5⟩, h6⟩ := h
  refine ⟨fun hl => ?_, fun {t l f x} hl hf => ?_, fun hl => ?_, fun hl => ?_, fun hl => ?_, fun hl => ?_⟩
  · simpa using h1 _ (lk_mem hl)
  · have := h2 _ (lk_mem hl) (x, f) (by rw [List.mem_zipIdx_iff_getElem?]; simpa using hf)
    simpa using this
  · simpa using h3 _ (lk_mem hl)
  · have := h4 _ (lk_mem hl)
    simp only [isStr] at this
    split at this
    · assumption
    · cases this
  · have := h5 _ (lk_mem hl)
    simp only [isBoo] at this
    split at this
    · assumption
    · cases this
  · exact h6 _ (lk_mem hl)

/-! ### Values in head form -/

def nf : AV → Option AV
  | .d d => some (.d d)
  | .msl i s o l => some (.msl i s o l)
  | .mptr i s x o => some (.mptr i s x o)
  | .mmap i => some (.mmap i)
  | .agg cs => some (.agg cs)
  | .tup vs => some (.tup vs)
  | .fnc f c => some (.fnc f c)
  | .ifc t v => some (.ifc t v)
  | _ => none
theorem nf_eq {v u : AV} (h : nf v = some u) : v = u := by cases v <;> first | (simp only [nf, Option.some.injEq] at h; exact h) | cases h

def normK (fr : Fr) : List Nat → Option Fr
  | [] => some []
  | k :: ks => match nf (fr.get k) with
    | some v => match normK fr ks with
      | some r => some ((k, v) :: r)
      | none => none
    | none => none
theorem normK_sub {fr : Fr} : ∀ {ks : List Nat} {r : Fr}, normK fr ks = some r → SubK fr ks r
  | [], r, h => by cases h; exact .nil
  | k :: ks, r, h => by
    simp only [normK] at h
    split at h
    · rename_i v hv
      split at h
      · rename_i r' hr; cases h; exact .cons k v ks r' (nf_eq hv) (normK_sub hr)
      · cases h
    · cases h

def normA : List AV → Option (List AV)
  | [] => some []
  | c :: r => match nf c with
    | some v => match normA r with
      | some r' => some (v :: r')
      | none => none
    | none => none
theorem normA_eq : ∀ {cs ds : List AV}, normA cs = some ds → cs = ds
  | [], _, h => by cases h; rfl
  | c :: r, ds, h => by
    simp only [normA] at h
    split at h
    · rename_i v hv
      split at h
      · rename_i r' hr; cases h; rw [nf_eq hv, normA_eq hr]
      · cases h
    · cases h

def normH : List Blk → Option (List Blk)
  | [] => some []
  | b :: r => match normH r with
    | some r' => match b with
      | .dead => some (.dead :: r')
      | .hole => some (.hole :: r')
      | .flat t s es => some (.flat t s es :: r')
      | .map k v es => some (.map k v es :: r')
      | .box t cs => match normA cs with
        | some cs' => some (.box t cs' :: r')
        | none => none
    | none => none
theorem normH_eq : ∀ {hp hp' : List Blk}, normH hp = some hp' → hp = hp'
  | [], _, h => by cases h; rfl
  | b :: r, hp', h => by
    simp only [normH] at h
    split at h
    · rename_i r' hr
      have e := normH_eq hr
      cases b with
      | box t cs =>
        simp only at h
        split at h
        · rename_i cs' hc; cases h; rw [normA_eq hc, e]
        · cases h
      | _ => simp only [Option.some.injEq] at h; rw [← h, e]
    · cases h

theorem w_norm {C : Ctx} {c : Code} {Q : Exit → St → Prop} {fr fr' : Fr} {hp hp' : List Blk} (ks : List Nat) (h1 : normK fr ks = some fr') (h2 : normH hp = some hp') (h : TWp C c ⟨fr', hp'⟩ Q) : TWp C c ⟨fr, hp⟩ Q :=
  twp_norm ks (normK_sub h1) (normH_eq h2) h

/-! ### Reading -/

def loadE (agg : Bool) (s : Nat) (hp : List Blk) : AV → Option AV
  | .d (.ptr e off) => match agg with
    | false => match e.cells[off]? with
      | some d => some (.d d)
      | none => none
    | true => match Nat.beq off 0, Nat.beq e.cells.length s, e.one with
      | true, true, false => some (.d e)
      | _, _, _ => match Nat.ble (off + s) e.cells.length with
        | true => some (.d (e.part off s))
        | false => none
  | .mptr id s' i off => match Nat.beq s' 0, Nat.beq i 0 with
    | true, true => match hp[id]? with
      | some (.box _ cs) => match agg with
        | false => match cs[off]? with
          | some c => nf c
          | none => none
        | true => match Nat.ble (off + s) cs.length with
          | true => nf (mkAgg ((cs.drop off).take s))
          | false => none
      | _ => none
    | _, _ => none
  | _ => none

def fieldE (fo : Nat) (agg : Bool) (n : Nat) (u : AV) : Option AV :=
  match u.isAgg with
  | true => match agg with
    | false => match u.cells[fo]? with
      | some c => nf c
      | none => none
    | true => match Nat.ble (fo + n) u.cells.length with
      | true => nf (mkAgg ((u.cells.drop fo).take n))
      | false => none
  | false => none

def cmpE (op : BinOp) (isB : Option Unit) : AV → AV → Option AV
  | .d (.int k m), .d (.int k' n) => match decide (k = k') with
    | true => match cmpInt op m n with
      | some b => some (.d (.bool b))
      | none => none
    | false => none
  | .d (.str p), .d (.str q) => match cmpStr op (decide (p = q)) with
    | some b => some (.d (.bool b))
    | none => none
  | .d (.bool p), .d (.bool q) => match isB with
    | some _ => match cmpBool op p q with
      | some b => some (.d (.bool b))
      | none => none
    | none => none
  | _, _ => none

def pickE : AV → AV → AV → Option AV
  | .d (.bool b), u, v => match b with
    | true => nf u
    | false => nf v
  | _, _, _ => none

def rdE (T : Tab) (op : Op) (ev : Operand → AV) (hp : List Blk) : Option AV :=
  match op with
  | .move x => nf (ev x)
  | .assign x => nf (ev x)
  | .load t x => match lk T.lay t with
    | some (b, s) => loadE b s hp (ev x)
    | none => none
  | .fieldAddr s x f => match lk T.fs s with
    | some l => match l[f]? with
      | some (fo, _, _) => match ev x with
        | .d (.ptr e off) => some (.d (.ptr e (off + fo)))
        | .mptr id sz i off => some (.mptr id sz i (off + fo))
        | _ => none
      | none => none
    | none => none
  | .field s x f => match lk T.fs s with
    | some l => match l[f]? with
      | some (fo, b, n) => fieldE fo b n (ev x)
      | none => none
    | none => none
  | .binOp op t x y _ => cmpE op (lk T.boo t) (ev x) (ev y)
  | .unOp .not _ x => match ev x with
    | .d (.bool b) => some (.d (.bool (!b)))
    | _ => none
  | .pick c x y => pickE (ev c) (ev x) (ev y)
  | .extract x i => match ev x with
    | .tup vs => match vs[i]? with
      | some v => nf v
      | none => none
    | _ => none
  | .nilCheck x => match (ev x).notNil with
    | true => nf (ev x)
    | false => none
  | .call { callee := .builtin .len, args := ⟨[x]⟩, argTypes := ⟨[t]⟩ } => match ev x with
    | .d (.str s) => match lk T.str t with
      | some _ => some (.d (.int .i64 s.size))
      | none => none
    | .msl _ _ _ n => match lk T.sel t with
      | some _ => some (.d (.int .i64 n))
      | none => none
    | _ => none
  | .makeInterface t x => match lk T.con t with
    | some _ => match ev x with
      | .d d => some (.d (.iface t d))
      | _ => none
    | none => none
  | .typeAssert x _ t true => match lk T.con t with
    | some _ => match ev x with
      | .d (.iface t' d) => match Nat.beq t' t with
        | true => some (.tup [.d d, .d (.bool true)])
        | false => none
      | _ => none
    | none => none
  | .makeFunc (.func F) ⟨[]⟩ caps => match evD (caps.toList.map ev) with
    | some ds => some (.d (.clo F ds))
    | none => none
  | _ => none

section rd
variable {C : Ctx} {T : Tab} {o : Oper} {ev : Operand → AV} {hp : List Blk} {v : AV}

theorem loadE_ok {t : TypeId} {x : Operand} {b : Bool} {s : Nat} (ho : o.op = .load t x) (hl : lay C.P t = some (b, s)) (h : loadE b s hp (ev x) = some v) : RdOk C o ev hp v := by
  cases hx : ev x with
  | d d =>
    rw [hx] at h
    cases d with
    | ptr e off =>
      cases b with
      | false =>
        simp only [loadE] at h
        split at h
        · rename_i d hd; cases h; exact rd_load_ptr e d off s ho hl hx hd
        · cases h
      | true =>
        simp only [loadE] at h
        split at h
        · rename_i h1 h2 h3
          cases h
          have h1 := Nat.eq_of_beq_eq_true h1
          subst h1
          exact load_ptrW ho hl hx (Nat.eq_of_beq_eq_true h2) h3
        · split at h
          · rename_i hb; cases h; exact rd_load_ptrAgg e off s ho hl hx (Nat.le_of_ble_eq_true hb)
          · cases h
    | _ => simp [loadE] at h
  | mptr id s' i off =>
    rw [hx] at h
    simp only [loadE] at h
    split at h
    · rename_i h1 h2
      have h1 := Nat.eq_of_beq_eq_true h1
      have h2 := Nat.eq_of_beq_eq_true h2
      subst h1 h2
      split at h
      · rename_i bt cs hb
        cases b with
        | false =>
          simp only at h
          split at h
          · rename_i c hc; rw [← nf_eq h]; exact rd_load_box id off s cs c ho hl hx hb hc
          · cases h
        | true =>
          simp only at h
          split at h
          · rename_i hc; rw [← nf_eq h]; exact rd_load_boxAgg id off s cs ho hl hx hb (Nat.le_of_ble_eq_true hc)
          · cases h
      · cases h
    · cases h
  | _ => rw [hx] at h; simp [loadE] at h

theorem fieldE_ok {s : TypeId} {x : Operand} {f fo n : Nat} {b : Bool} (ho : o.op = .field s x f) (hf : fldv C.P s f = some (fo, b, n)) (h : fieldE fo b n (ev x) = some v) : RdOk C o ev hp v := by
  simp only [fieldE] at h
  split at h
  · rename_i ha
    cases b with
    | false =>
      simp only at h
      split at h
      · rename_i c hc; rw [← nf_eq h]; exact rd_fieldv ho hf rfl ha hc
      · cases h
    | true =>
      simp only at h
      split at h
      · rename_i hc; exact rd_fieldvA ho hf rfl ha hc (nf_eq h)
      · cases h
  · cases h

theorem cmpE_ok {op : BinOp} {t t' : TypeId} {x y : Operand} {u : Option Unit} (hu : ∀ z, u = some z → C.P.underlying t = some .bool) (ho : o.op = .binOp op t x y t') (h : cmpE op u (ev x) (ev y) = some v) : RdOk C o ev hp v := by
  cases hx : ev x with
  | d d =>
    rw [hx] at h
    cases hy : ev y with
    | d e =>
      rw [hy] at h
      cases d with
      | int k m =>
        cases e with
        | int k' n =>
          simp only [cmpE] at h
          split at h
          · rename_i hk
            have hk := of_decide_eq_true hk
            subst hk
            split at h
            · rename_i b hb; cases h; exact rd_cmp k m n b ho hx hy hb
            · cases h
          · cases h
        | _ => simp [cmpE] at h
      | str p =>
        cases e with
        | str q =>
          simp only [cmpE] at h
          split at h
          · rename_i b hb; cases h; exact cmp_str ho hx hy hb
          · cases h
        | _ => simp [cmpE] at h
      | bool p =>
        cases e with
        | bool q =>
          simp only [cmpE] at h
          split at h
          · rename_i z
            split at h
            · rename_i b hb; cases h; exact cmp_bool (hu _ rfl) ho hx hy hb
            · cases h
          · cases h
        | _ => simp [cmpE] at h
      | _ => simp [cmpE] at h
    | _ => rw [hy] at h; simp [cmpE] at h
  | _ => rw [hx] at h; simp [cmpE] at h

theorem pickE_ok {c x y : Operand} (ho : o.op = .pick c x y) (h : pickE (ev c) (ev x) (ev y) = some v) : RdOk C o ev hp v := by
  cases hc : ev c with
  | d d =>
    rw [hc] at h
    cases d with
    | bool b =>
      cases b with
      | true => exact pick_T ho hc (nf_eq h)
      | false => exact pick_F ho hc (nf_eq h)
    | _ => simp [pickE] at h
  | _ => rw [hc] at h; simp [pickE] at h

theorem rdE_ok (hT : TabOk C.P T) (h : rdE T o.op ev hp = some v) : RdOk C o ev hp v := by
  unfold rdE at h
  split at h
  · rename_i x ho; rw [← nf_eq h]; exact rd_move (.inl ho)
  · rename_i x ho; rw [← nf_eq h]; exact rd_move (.inr ho)
  · rename_i t x ho
    split at h
    · rename_i b s hl; exact loadE_ok ho (hT.lay hl) h
    · cases h
  · rename_i s x f ho
    split at h
    · rename_i l hl
      split at h
      · rename_i fo b n hf
        split at h
        · rename_i e off hx; cases h; exact rd_fieldAddr_ptr e off fo ho (hT.fs hl hf).1 hx
        · rename_i id sz i off hx; cases h; exact rd_fieldAddr_mptr id sz i off fo ho (hT.fs hl hf).1 hx
        · cases h
      · cases h
    · cases h
  · rename_i s x f ho
    split at h
    · rename_i l hl
      split at h
      · rename_i fo b n hf; exact fieldE_ok ho (hT.fs hl hf).2 h
      · cases h
    · cases h
  · rename_i op t x y t' ho; exact cmpE_ok (fun z hz => hT.boo hz) ho h
  · rename_i t x ho
    split at h
    · rename_i b hx; cases h; exact not_b ho hx rfl
    · cases h
  · rename_i c x y ho; exact pickE_ok ho h
  · rename_i x i ho
    split at h
    · rename_i vs hx
      split at h
      · rename_i u hu; rw [← nf_eq h]; exact rd_extract vs u ho hx hu
      · cases h
    · cases h
  · rename_i x ho
    split at h
    · rename_i hn; rw [← nf_eq h]; exact rd_nilCheck _ ho rfl hn
    · cases h
  · rename_i x t ho
    split at h
    · rename_i s hx
      split at h
      · rename_i z hz; cases h; exact rd_len_str s ho (hT.str hz) hx
      · cases h
    · rename_i i s f n hx
      split at h
      · rename_i z hz; cases h; obtain ⟨e, sz, by'⟩ := z; exact rd_len_sl _ sz by' n ho (hT.sel hz) hx rfl
      · cases h
    · cases h
  · rename_i t x ho
    split at h
    · rename_i z hz
      split at h
      · rename_i d hx; cases h; exact rd_mkIface ho (hT.con hz) hx
      · cases h
    · cases h
  · rename_i x xt t ho
    split at h
    · rename_i z hz
      split at h
      · rename_i t' d hx
        split at h
        · rename_i he; cases h; have he := Nat.eq_of_beq_eq_true he; subst he; exact rd_assertYes ho (hT.con hz) hx
        · cases h
      · cases h
    · cases h
  · rename_i F caps ho
    split at h
    · rename_i ds hx; cases h; exact rd_makeFuncD ho hx
    · cases h
  · cases h
end rd

/-! ### Regions in the text's order -/

/-- Is the operation carried out? -/
def onE (ops : Array Oper) (gd : Option (Nat × Bool)) (fr : Fr) : Option Bool :=
  match gd with
  | none => some true
  | some (i, want) => match (ops[i]?).bind (·.dst) with
    | some t => match fr.get t with
      | .d (.bool b) => match b, want with
        | true, true => some true
        | false, false => some true
        | true, false => some false
        | false, true => some false
      | .und => some false
      | _ => none
    | none => none

def storeE (T : Tab) (t : TypeId) (hp : List Blk) (p v : AV) : Option (List Blk) :=
  match lk T.lay t with
  | some (_, s) => match p with
    | .mptr id s' i off => match Nat.beq s' 0, Nat.beq i 0 with
      | true, true => match hp[id]? with
        | some (.box bt cs) => match v.flat, Nat.beq v.cells.length s, Nat.ble (off + s) cs.length with
          | true, true, true => some (hp.set id (.box bt (spl cs off v.cells)))
          | _, _, _ => none
        | _ => none
      | _, _ => none
    | _ => none
  | none => none

def stE (T : Tab) (n : Nat) (ops : Array Oper) (o : Oper) (fr : Fr) (hp : List Blk) : Option (Fr × List Blk) :=
  match onE ops o.guard fr with
  | some true => match o.dst with
    | some d => match Nat.blt d n with
      | true => match rdE T o.op fr.ev hp with
        | some v => some ((d, v) :: fr, hp)
        | none => none
      | false => none
    | none => match o.op with
      | .store t x y => match storeE T t hp (fr.ev x) (fr.ev y) with
        | some hp' => some (fr, hp')
        | none => none
      | _ => none
  | some false => match o.dst with
    | some d => match Nat.blt d n with
      | true => some ((d, .und) :: fr, hp)
      | false => none
    | none => none
  | none => none

theorem blt_dec {d n : Nat} (h : Nat.blt d n = true) : decide (d < n) = true := by simpa [Nat.blt_eq] using h

theorem on_run {C : Ctx} {ops : Array Oper} {gd : Option (Nat × Bool)} {st : St} {g : Gh} {a : Act} {w : World} (hs : Sim C st g a w) {b : Bool} (h : onE ops gd st.fr = some b) : gd = none ∧ b = true ∨ ∃ i want, gd = some (i, want) ∧ ((yielded ops a.tmps i = some want ∧ b = true) ∨ (yielded ops a.tmps i ≠ some want ∧ b = false)) := by
  unfold onE at h
  split at h
  · cases h; exact .inl ⟨rfl, rfl⟩
  · rename_i i want
    right
    refine ⟨i, want, rfl, ?_⟩
    split at h
    · rename_i t ht
      split at h
      · rename_i c hc
        have hy := yielded_bool' hs ht hc
        split at h <;> cases h <;> simp [hy]
      · rename_i hc
        cases h
        have hy := yielded_und hs ht hc
        simp [hy]
      · cases h
    · cases h

theorem s_a {C : Ctx} {T : Tab} {ops : Array Oper} {o : Oper} {l : List Oper} {K : St → Prop} {fr fr' : Fr} {hp hp' : List Blk} (hT : TabOk C.P T) (h : stE T C.n ops o fr hp = some (fr', hp')) (k : TOps C ops l ⟨fr', hp'⟩ K) : TOps C ops (o :: l) ⟨fr, hp⟩ K := by
  intro g a w hs
  unfold stE at h
  split at h
  · rename_i hon
    have hrun : OpOk C o ⟨fr, hp⟩ (fun st'' => TOps C ops l st'' K) → wpList C.P ops (QN C K) (o :: l) a w := by
      intro hok
      unfold wpList
      have hw : Region.wanted o (yielded ops a.tmps) = true := by
        rcases on_run hs hon with ⟨hg, _⟩ | ⟨i, want, hg, ⟨hy, _⟩ | ⟨_, hc⟩⟩
        · simp [Region.wanted, hg]
        · simp [Region.wanted, hg, hy]
        · cases hc
      rw [if_pos hw]
      exact .inl (Oper.wp_mono (fun a w ⟨st', g', hK, hs'⟩ => hK g' a w hs') (hok g a w _ hs))
    split at h
    · rename_i d hd
      split at h
      · rename_i hlt
        split at h
        · rename_i v hv
          cases h
          exact hrun ((rdE_ok (hp := hp) hT hv).ok (st := ⟨fr, hp⟩) (by rw [hd]; exact blt_dec hlt) (by rw [hd]; exact k))
        · cases h
      · cases h
    · rename_i hd
      split at h
      · rename_i t x y ho
        split at h
        · rename_i hp' hst
          cases h
          unfold storeE at hst
          split at hst
          · rename_i bb s hl
            split at hst
            · rename_i id s' i off hx
              split at hst
              · rename_i e1 e2
                have e1 := Nat.eq_of_beq_eq_true e1
                have e2 := Nat.eq_of_beq_eq_true e2
                subst e1 e2
                split at hst
                · rename_i bt cs hb
                  split at hst
                  · rename_i f1 f2 f3
                    cases hst
                    exact hrun (ok_store_box id off s bb cs _ ho hd (hT.lay hl) hx rfl f1 (Nat.eq_of_beq_eq_true f2) hb (Nat.le_of_ble_eq_true f3) k)
                  · cases hst
                · cases hst
              · cases hst
            · cases hst
          · cases hst
        · cases h
      · cases h
  · rename_i hon
    have hw : ¬ Region.wanted o (yielded ops a.tmps) = true := by
      rcases on_run hs hon with ⟨_, hc⟩ | ⟨i, want, hg, ⟨_, hc⟩ | ⟨hy, _⟩⟩
      · cases hc
      · cases hc
      · simpa [Region.wanted, hg] using hy
    split at h
    · rename_i d hd
      split at h
      · rename_i hlt
        cases h
        unfold wpList
        rw [if_neg hw]
        refine k g _ w ?_
        rw [hd]
        exact hs.put (of_decide_eq_true (blt_dec hlt)) .und
      · cases h
    · cases h
  · cases h

/-- A truth, by a name of its own. -/
theorem s_b {C : Ctx} {T : Tab} {ops : Array Oper} {o : Oper} {l : List Oper} {K : St → Prop} {fr0 fr : Fr} {hp0 hp : List Blk} {d : Nat} {e : Bool} (hT : TabOk C.P T) (h : stE T C.n ops o fr0 hp0 = some ((d, .d (.bool e)) :: fr, hp)) (k : ∀ b, e = b → TOps C ops l ⟨(d, .d (.bool b)) :: fr, hp⟩ K) : TOps C ops (o :: l) ⟨fr0, hp0⟩ K :=
  s_a hT h (k e rfl)
/-- A slot's truth, by a name of its own. -/
theorem s_n {C : Ctx} {ops : Array Oper} {l : List Oper} {K : St → Prop} {fr : Fr} {hp : List Blk} {d : Nat} {e : Bool} (k : ∀ b, e = b → TOps C ops l ⟨(d, .d (.bool b)) :: fr, hp⟩ K) : TOps C ops l ⟨(d, .d (.bool e)) :: fr, hp⟩ K := k e rfl

theorem onE_A {ops : Array Oper} {o : Oper} {fr : Fr} {b : Bool} (h : onE ops o.guard fr = some b) : onA ops fr o = some b := by
  unfold onE at h
  unfold onA
  split at h
  · rename_i hg; rw [hg]; exact h
  · rename_i i want hg
    rw [hg]
    simp only
    split at h
    · rename_i t ht
      rw [ht]
      simp only
      split at h
      · rename_i c hc
        rw [hc]
        simp only
        split at h <;> exact h
      · rename_i hc
        rw [hc]; exact h
      · cases h
    · cases h

/-! ### Drawn regions -/

def drE (T : Tab) (n : Nat) (ops : Array Oper) (o : Oper) (fr : Fr) (hp : List Blk) : Option (Bool × Nat × AV) :=
  match onE ops o.guard fr with
  | some b => match o.dst with
    | some d => match Nat.blt d n with
      | true => match b with
        | true => match rdE T o.op fr.ev hp with
          | some v => some (true, d, v)
          | none => none
        | false => some (false, d, .und)
      | false => none
    | none => none
  | none => none

/-- In a region in which nothing is written: every operation may look at all blocks. -/
theorem d_a {C : Ctx} {T : Tab} {ops : Array Oper} {o : Oper} {l : List Oper} {K : St → Prop} {fr : Fr} {hp : List Blk} {acc : List Rec} {on : Bool} {d : Nat} {v : AV} (rs : List Nat) (hT : TabOk C.P T) (h : drE T C.n ops o fr (mask rs hp) = some (on, d, v))
    (k : TDr C ops K l ((d, v) :: fr) hp (acc ++ [⟨on, d, v, bif on then rs else [], []⟩])) : TDr C ops K (o :: l) fr hp acc := by
  unfold drE at h
  split at h
  · rename_i b hon
    split at h
    · rename_i d' hd
      split at h
      · rename_i hlt
        split at h
        · split at h
          · rename_i u hv
            cases h
            exact .step o l fr hp acc d v rs [] v (.inl ⟨hd, blt_dec hlt, rfl⟩) (onE_A hon) (fun p hp => by simp at hp) (rdE_ok hT hv).dok k
          · cases h
        · cases h
          exact .skip o l fr hp acc d _ (.inl ⟨hd, blt_dec hlt, rfl⟩) (onE_A hon) k
      · cases h
    · cases h
  · cases h
theorem d_b {C : Ctx} {T : Tab} {ops : Array Oper} {o : Oper} {l : List Oper} {K : St → Prop} {fr : Fr} {hp : List Blk} {acc : List Rec} {d : Nat} {e : Bool} (rs : List Nat) (hT : TabOk C.P T) (h : drE T C.n ops o fr (mask rs hp) = some (true, d, .d (.bool e)))
    (k : ∀ b, e = b → TDr C ops K l ((d, .d (.bool b)) :: fr) hp (acc ++ [⟨true, d, .d (.bool b), rs, []⟩])) : TDr C ops K (o :: l) fr hp acc :=
  d_a rs hT h (k e rfl)
theorem d_x {C : Ctx} {ops : Array Oper} {op : Op} {ty : TypeId} {pos : String} {after : Array Edge} {gd : Option (Nat × Bool)} {l : List Oper} {K : St → Prop} {fr : Fr} {hp : List Blk} {acc : List Rec} {d : Nat} {v : AV} (rs : List Nat) (hd : decide (d < C.n) = true) (hon : onE ops gd fr = some true)
    (hr : RdOk C ⟨some d, op, ty, pos, after, gd⟩ fr.ev (mask rs hp) v) (k : TDr C ops K l ((d, v) :: fr) hp (acc ++ [⟨true, d, v, rs, []⟩])) : TDr C ops K (⟨some d, op, ty, pos, after, gd⟩ :: l) fr hp acc :=
  .step _ l fr hp acc d v rs [] v (.inl ⟨rfl, hd, rfl⟩) (onE_A (o := ⟨some d, op, ty, pos, after, gd⟩) hon) (fun p hp => by simp at hp) hr.dok k
theorem d_xb {C : Ctx} {ops : Array Oper} {op : Op} {ty : TypeId} {pos : String} {after : Array Edge} {gd : Option (Nat × Bool)} {l : List Oper} {K : St → Prop} {fr : Fr} {hp : List Blk} {acc : List Rec} {d : Nat} {e : Bool} (rs : List Nat) (hd : decide (d < C.n) = true) (hon : onE ops gd fr = some true)
    (hr : RdOk C ⟨some d, op, ty, pos, after, gd⟩ fr.ev (mask rs hp) (.d (.bool e))) (k : ∀ b, e = b → TDr C ops K l ((d, .d (.bool b)) :: fr) hp (acc ++ [⟨true, d, .d (.bool b), rs, []⟩])) : TDr C ops K (⟨some d, op, ty, pos, after, gd⟩ :: l) fr hp acc :=
  d_x rs hd hon hr (k e rfl)
theorem s_x {C : Ctx} {ops : Array Oper} {op : Op} {ty : TypeId} {pos : String} {after : Array Edge} {gd : Option (Nat × Bool)} {l : List Oper} {K : St → Prop} {fr : Fr} {hp : List Blk} {d : Nat} {v : AV} (hd : decide (d < C.n) = true) (hon : onE ops gd fr = some true)
    (hr : RdOk C ⟨some d, op, ty, pos, after, gd⟩ fr.ev hp v) (k : TOps C ops l ⟨(d, v) :: fr, hp⟩ K) : TOps C ops (⟨some d, op, ty, pos, after, gd⟩ :: l) ⟨fr, hp⟩ K := by
  intro g a w hs
  unfold wpList
  have hw : Region.wanted ⟨some d, op, ty, pos, after, gd⟩ (yielded ops a.tmps) = true := by
    rcases on_run hs hon with ⟨hg, _⟩ | ⟨i, want, hg, ⟨hy, _⟩ | ⟨_, hc⟩⟩
    · simp [Region.wanted, hg]
    · simp [Region.wanted, hg, hy]
    · cases hc
  rw [if_pos hw]
  have hok : OpOk C ⟨some d, op, ty, pos, after, gd⟩ ⟨fr, hp⟩ (fun st'' => TOps C ops l st'' K) := hr.ok (st := ⟨fr, hp⟩) hd k
  exact .inl (Oper.wp_mono (fun a w ⟨st', g', hK, hs'⟩ => hK g' a w hs') (hok g a w _ hs))

/-! ### Nil slices taken for empty ones -/

/-- For each cell: how many cells an element has, where the cell is a slice. -/
def wkE : List D → List (Option Nat) → Option (List D)
  | [], _ => some []
  | d :: r, [] => some (d :: r)
  | d :: r, none :: s => match wkE r s with
    | some r' => some (d :: r')
    | none => none
  | d :: r, some n :: s => match wkE r s with
    | some r' => match d with
      | .nilsl => some (.sl n [] :: r')
      | _ => none
    | none => none
theorem wkE_le : ∀ {ds : List D} {s : List (Option Nat)} {ds' : List D}, wkE ds s = some ds' → ds.length = ds'.length ∧ ∀ (i : Nat) (c c' : D), ds[i]? = some c → ds'[i]? = some c' → DLe c c' ∧ c'.one = c.one
  | [], _, _, h => by cases h; exact ⟨rfl, fun i c c' h => by simp at h⟩
  | d :: r, [], _, h => by
    cases h
    exact ⟨rfl, fun i c c' h h' => by rw [h] at h'; cases h'; exact ⟨.refl _, rfl⟩⟩
  | d :: r, none :: s, _, h => by
    simp only [wkE] at h
    split at h
    · rename_i r' hr
      cases h
      obtain ⟨h1, h2⟩ := wkE_le hr
      refine ⟨by simp [h1], fun i c c' hc hc' => ?_⟩
      cases i with
      | zero => simp at hc hc'; subst hc hc'; exact ⟨.refl _, rfl⟩
      | succ i => exact h2 i c c' (by simpa using hc) (by simpa using hc')
    · cases h
  | d :: r, some n :: s, _, h => by
    simp only [wkE] at h
    split at h
    · rename_i r' hr
      obtain ⟨h1, h2⟩ := wkE_le hr
      cases d with
      | nilsl =>
        cases h
        refine ⟨by simp [h1], fun i c c' hc hc' => ?_⟩
        cases i with
        | zero => simp at hc hc'; subst hc hc'; exact ⟨.nil _, rfl⟩
        | succ i => exact h2 i c c' (by simpa using hc) (by simpa using hc')
      | _ => cases h
    · cases h

def wkV (s : List (Option Nat)) : AV → Option AV
  | .d (.agg ds) => match wkE ds s with
    | some ds' => some (.d (.agg ds'))
    | none => none
  | .d .nilsl => match s with
    | [some n] => some (.d (.sl n []))
    | _ => none
  | _ => none
theorem wkV_rep {w : World} {g : Gh} {s : List (Option Nat)} {v v' : AV} {u : Value} (h : wkV s v = some v') (hr : ARep w g v u) : ARep w g v' u := by
  cases v with
  | d d =>
    cases d with
    | agg ds =>
      simp only [wkV] at h
      split at h
      · rename_i ds' hw
        cases h
        obtain ⟨h1, h2⟩ := wkE_le hw
        cases hr with
        | d _ _ hr =>
          cases hr with
          | agg _ vs hl ho hc =>
            refine .d _ _ (.agg ds' vs (by rw [← h1]; exact hl) (fun c hc' => ?_) fun i c u hi hu => ?_)
            · obtain ⟨i, hi⟩ := List.getElem?_of_mem hc'
              have hlt := (List.getElem?_eq_some_iff.1 hi).1
              have hd : ds[i]? = some ds[i] := by simp
              rw [(h2 i _ c hd hi).2]
              exact ho _ (by simp)
            · have hlt := (List.getElem?_eq_some_iff.1 hi).1
              have hd : ds[i]? = some ds[i] := by simp
              exact (h2 i _ c hd hi).1 _ _ _ (hc i _ u hd hu)
      · cases h
    | nilsl =>
      simp only [wkV] at h
      split at h
      · cases h
        cases hr with
        | d _ _ hr => exact .d _ _ (DLe.nil _ _ _ _ hr)
      · cases h
    | _ => cases h
  | _ => cases h
theorem Sim.wk {C : Ctx} {fr : Fr} {hp : List Blk} {g : Gh} {a : Act} {w : World} (h : Sim C ⟨fr, hp⟩ g a w) {t : Nat} {s : List (Option Nat)} {v : AV} (hv : wkV s (fr.get t) = some v) : Sim C ⟨(t, v) :: fr, hp⟩ g a w := by
  refine { h with fr := fun u => ?_ }
  simp only [Fr.get]
  split
  · rename_i e; subst e; exact wkV_rep hv (h.fr t)
  · exact h.fr u
theorem c_wk {C : Ctx} {fr : Fr} {hp : List Blk} {c : Code} {Q : Exit → St → Prop} (t : Nat) (s : List (Option Nat)) {v : AV} (hv : wkV s (fr.get t) = some v) (h : TWp C c ⟨(t, v) :: fr, hp⟩ Q) : TWp C c ⟨fr, hp⟩ Q := fun g a w hs => h g a w (Sim.wk hs hv)
theorem s_wk {C : Ctx} {fr : Fr} {hp : List Blk} {ops : Array Oper} {l : List Oper} {K : St → Prop} (t : Nat) (s : List (Option Nat)) {v : AV} (hv : wkV s (fr.get t) = some v) (h : TOps C ops l ⟨(t, v) :: fr, hp⟩ K) : TOps C ops l ⟨fr, hp⟩ K := fun g a w hs => h g a w (Sim.wk hs hv)

/-- The same of a variable's cells. -/
def wkB : List AV → List (Option Nat) → Option (List AV)
  | [], _ => some []
  | d :: r, [] => some (d :: r)
  | d :: r, none :: s => match wkB r s with
    | some r' => some (d :: r')
    | none => none
  | d :: r, some n :: s => match wkB r s with
    | some r' => match d with
      | .d .nilsl => some (.d (.sl n []) :: r')
      | _ => none
    | none => none
theorem wkB_le : ∀ {ds : List AV} {s : List (Option Nat)} {ds' : List AV}, wkB ds s = some ds' → ds'.length = ds.length ∧ ∀ (i : Nat) (c' : AV), ds'[i]? = some c' → ∃ c, ds[i]? = some c ∧ ∀ (w : World) (g : Gh) (v : Value), ARep w g c v → ARep w g c' v
  | [], _, _, h => by cases h; exact ⟨rfl, fun i c h => by simp at h⟩
  | d :: r, [], _, h => by
    cases h
    exact ⟨rfl, fun i c' h' => ⟨c', h', fun _ _ _ h => h⟩⟩
  | d :: r, none :: s, _, h => by
    simp only [wkB] at h
    split at h
    · rename_i r' hr
      cases h
      obtain ⟨h1, h2⟩ := wkB_le hr
      refine ⟨by simp [h1], fun i c' hc' => ?_⟩
      cases i with
      | zero => simp at hc'; subst hc'; exact ⟨d, by simp, fun _ _ _ h => h⟩
      | succ i => obtain ⟨c, hc, hh⟩ := h2 i c' (by simpa using hc'); exact ⟨c, by simpa using hc, hh⟩
    · cases h
  | d :: r, some n :: s, _, h => by
    simp only [wkB] at h
    split at h
    · rename_i r' hr
      obtain ⟨h1, h2⟩ := wkB_le hr
      split at h
      · cases h
        refine ⟨by simp [h1], fun i c' hc' => ?_⟩
        cases i with
        | zero => simp at hc'; subst hc'; exact ⟨.d .nilsl, by simp, fun _ _ _ h => by cases h with | d _ _ h => exact .d _ _ (DLe.nil _ _ _ _ h)⟩
        | succ i => obtain ⟨c, hc, hh⟩ := h2 i c' (by simpa using hc'); exact ⟨c, by simpa using hc, hh⟩
      · cases h
    · cases h
theorem Sim.wkb {C : Ctx} {fr : Fr} {hp : List Blk} {g : Gh} {a : Act} {w : World} (h : Sim C ⟨fr, hp⟩ g a w) {id ty : Nat} {cs cs' : List AV} {s : List (Option Nat)} (hb : hp[id]? = some (.box ty cs)) (hv : wkB cs s = some cs') : Sim C ⟨fr, hp.set id (.box ty cs')⟩ g a w := by
  have hlen : id < hp.length := (List.getElem?_eq_some_iff.1 hb).1
  have hin : ∀ (i : Nat) (B : Blk), (hp.set id (.box ty cs'))[i]? = some B → ∃ B', hp[i]? = some B' ∧ (B ≠ .dead → B' ≠ .dead) := by
    intro i B hi
    rw [List.getElem?_set] at hi
    split at hi
    · rename_i e; subst e; exact ⟨_, hb, fun _ e => by cases e⟩
    · exact ⟨B, hi, fun h => h⟩
  refine { h with hp := fun i B hi => ?_, lt := ?_, inj := ?_, kle := ?_ }
  · simp only [List.getElem?_set] at hi
    split at hi
    · rename_i e
      subst e
      cases hi
      obtain ⟨b, cells, h1, h2, h3, h4, h5⟩ := h.hp _ _ hb
      obtain ⟨e1, e2⟩ := wkB_le hv
      refine ⟨b, cells, h1, h2, h3, by rw [e1]; exact h4, fun j c v hc hv => ?_⟩
      obtain ⟨c0, hc0, hm⟩ := e2 j c hc
      exact hm _ _ _ (h5 j c0 v hc0 hv)
    · exact h.hp i B hi
  · intro i b hp'
    have := h.lt i b hp'
    simp only [List.length_set]
    exact this
  · intro i j b Bi Bj hi hj di dj hpi hpj
    obtain ⟨Bi', hi', ei⟩ := hin i Bi hi
    obtain ⟨Bj', hj', ej⟩ := hin j Bj hj
    exact h.inj i j b Bi' Bj' hi' hj' (ei di) (ej dj) hpi hpj
  · have := h.kle
    simp only [List.length_set]
    exact this
theorem c_wkb {C : Ctx} {fr : Fr} {hp : List Blk} {c : Code} {Q : Exit → St → Prop} (id : Nat) (s : List (Option Nat)) {ty : Nat} {cs cs' : List AV} (hb : hp[id]? = some (.box ty cs)) (hv : wkB cs s = some cs') (h : TWp C c ⟨fr, hp.set id (.box ty cs')⟩ Q) : TWp C c ⟨fr, hp⟩ Q := fun g a w hs => h g a w (Sim.wkb hs hb hv)
theorem s_wkb {C : Ctx} {fr : Fr} {hp : List Blk} {ops : Array Oper} {l : List Oper} {K : St → Prop} (id : Nat) (s : List (Option Nat)) {ty : Nat} {cs cs' : List AV} (hb : hp[id]? = some (.box ty cs)) (hv : wkB cs s = some cs') (h : TOps C ops l ⟨fr, hp.set id (.box ty cs')⟩ K) : TOps C ops l ⟨fr, hp⟩ K := fun g a w hs => h g a w (Sim.wkb hs hb hv)

end Go.TL
