/- Trees in place of memory, part K: a region whose order Go leaves open: one walk in the text's order serves every order. No condition. -/
import Derived.Test.YtckkkfgjgjoemaaTlS
namespace Go.TL

variable {C : Ctx} {st : St} {g : Gh} {a : Act} {w : World}

def wr (ws : List (Nat × Blk)) (hp : List Blk) : List Blk := ws.foldl (fun h p => h.set p.1 p.2) hp

theorem wr_length : ∀ (ws : List (Nat × Blk)) (hp : List Blk), (wr ws hp).length = hp.length
  | [], _ => rfl
  | p :: r, hp => by simp only [wr, List.foldl_cons]; rw [← wr, wr_length r]; simp

/-- One operation of a region whose order is open: it yields x and writes the blocks 'ws'; of the blocks it knows those of 'hpn' alone. -/
def DOk (C : Ctx) (o : Oper) (ev : Operand → AV) (hpn : List Blk) (x : AV) (ws : List (Nat × Blk)) : Prop :=
  ∀ st : St, HpLe hpn st.hp → (∀ p ∈ ws, p.1 < st.hp.length) → (∀ p ∈ ws, hpn[p.1]? = some .dead → st.hp[p.1]? = some .dead) → (∀ y ∈ o.op.operands, st.fr.ev y = ev y) → ∀ g a w, Sim C st g a w →
    ∀ (Q : Exit → Act → World → Prop) (K' : Act → World → Prop), (∀ v w' g', Sim C ⟨st.fr, wr ws st.hp⟩ g' a w' → ARep w' g' x v → K' (a.put o.dst v) w') → o.wp C.P a w K' Q

theorem RdOk.dok {o : Oper} {ev : Operand → AV} {hp : List Blk} {x : AV} (h : RdOk C o ev hp x) : DOk C o ev hp x [] := fun st h1 _ _ h2 g a w hs Q K' hK => h st h1 h2 g a w hs Q K' hK

/-- A record of one operation: was it carried out; its slot; what it yielded; which blocks it looked at; what it wrote. -/
structure Rec where
  on : Bool
  d : Nat
  x : AV
  rs : List Nat
  ws : List (Nat × Blk)

def frAt (fr : Fr) (l : List Rec) : Fr := l.foldl (fun f r => (r.d, r.x) :: f) fr
def hpAt (hp : List Blk) (l : List Rec) : List Blk := l.foldl (fun h r => wr r.ws h) hp

def mask (rs : List Nat) (hp : List Blk) : List Blk := hp.zipIdx.map fun p => if rs.contains p.2 then p.1 else .dead

theorem mask_le {rs : List Nat} {hp : List Blk} {i : Nat} {B : Blk} (h : (mask rs hp)[i]? = some B) (hd : B ≠ .dead) : i ∈ rs ∧ hp[i]? = some B := by
  simp only [mask, List.getElem?_map, List.getElem?_zipIdx, Option.map_map, Option.map_eq_some_iff, Function.comp_def] at h
  obtain ⟨B', hB', e⟩ := h
  simp only [Nat.zero_add] at e
  split at e
  · rename_i hc; subst e; exact ⟨by simpa using hc, hB'⟩
  · exact absurd e.symm hd

theorem mask_range (hp : List Blk) : mask (List.range hp.length) hp = hp := by
  apply List.ext_getElem?
  intro i
  simp only [mask, List.getElem?_map, List.getElem?_zipIdx, Option.map_map, Function.comp_def, Nat.zero_add]
  cases h : hp[i]? with
  | none => rfl
  | some B =>
    have := (List.getElem?_eq_some_iff.1 h).1
    simp [this]

/-- Is the operation carried out? (By what its guard yielded.) -/
def onA (ops : Array Oper) (fr : Fr) (o : Oper) : Option Bool :=
  match o.guard with
  | none => some true
  | some (j, want) => match (ops[j]?).bind (·.dst) with
    | some t => match fr.get t with
      | .d (.bool b) => some (b == want)
      | .und => some false
      | _ => none
    | none => none

/-! ### What is asked of the region's edges -/

/-- For each operation, those that must have come before it. -/
def ancs (ops : List Oper) : List (List Nat) :=
  ops.foldl (fun acc o => acc ++ [(o.after.toList.filter (Region.binds .any ·)).foldl (fun s e => if s.contains e.on then s else (acc.getD e.on []).foldl (fun s i => if s.contains i then s else s ++ [i]) (s ++ [e.on])) []]) []

def slotsOf (ops : Array Oper) (o : Oper) : List Nat :=
  (o.op.operands.toList.filterMap fun | .tmp t => some t | _ => none) ++ (match o.guard with | some (j, _) => ((ops[j]?).bind (·.dst)).toList | none => [])

def related (an : List (List Nat)) (i j : Nat) : Bool := (an.getD i []).contains j || (an.getD j []).contains i

def nodupB : List Nat → Bool
  | [] => true
  | x :: r => !r.contains x && nodupB r

/-- The edges bind what must be bound: m operations are walked in any order, the others come behind them, one by one. -/
def edgesOk (ops : List Oper) (m : Nat) (ds : List Nat) (rw : List (List Nat × List Nat)) : Bool :=
  let an := ancs ops
  ops.zipIdx.all (fun p => p.1.after.toList.all fun e => !Region.binds .any e || decide (e.on < p.2)) && nodupB ds && nodupB (rw.flatMap (·.2)) &&
  ((List.range m).all fun j => (List.range m).all fun i => i == j || related an i j ||
      (!((ops[j]?).any fun o => (slotsOf ops.toArray o).contains (ds.getD i 0)) && !(((rw.getD j ([], [])).1 ++ (rw.getD j ([], [])).2).any fun r => (rw.getD i ([], [])).2.contains r))) &&
  ((List.range ops.length).all fun j => decide (j < m) || (List.range j).all fun i => (an.getD j []).contains i)

def recRW (r : Rec) : List Nat × List Nat := (r.rs, r.ws.map (·.1))

/-- Where an operation lays what it yields: in its slot, or, where it has none, nowhere ('d' is then a number that no slot bears). -/
def DstD (C : Ctx) (o : Oper) (d : Nat) (x y : AV) : Prop := (o.dst = some d ∧ decide (d < C.n) = true ∧ x = y) ∨ (o.dst = none ∧ x = .junk)

theorem DstD.sim {o : Oper} {d : Nat} {x y : AV} {v : Value} {st : St} {g : Gh} {a : Act} {w : World} (hd : DstD C o d x y) (hs : Sim C st g a w) (hx : ARep w g y v) : Sim C ⟨(d, x) :: st.fr, st.hp⟩ g (a.put o.dst v) w := by
  rcases hd with ⟨e, hn, rfl⟩ | ⟨e, rfl⟩
  · rw [e]; exact hs.put (by simpa using hn) hx
  · rw [e]
    refine Sim.forget (st := st) hs fun t => ?_
    simp only [Fr.get]
    split
    · exact .inr rfl
    · exact .inl rfl

/-- The walk in the text's order; where only operations are left that wait for all before them, they are walked as ever. -/
inductive TDr (C : Ctx) (ops : Array Oper) (K : St → Prop) : List Oper → Fr → List Blk → List Rec → Prop
  | tail (l : List Oper) (fr : Fr) (hp : List Blk) (acc : List Rec) (hE : edgesOk ops.toList acc.length (acc.map Rec.d) (acc.map recRW) = true) (h : TOps C ops l ⟨fr, hp⟩ K) : TDr C ops K l fr hp acc
  | step (o : Oper) (l : List Oper) (fr : Fr) (hp : List Blk) (acc : List Rec) (d : Nat) (x : AV) (rs : List Nat) (ws : List (Nat × Blk)) (y : AV) (hd : DstD C o d x y) (hon : onA ops fr o = some true)
      (hw : ∀ p ∈ ws, p.1 < hp.length ∧ (hp[p.1]? = some .dead ∨ p.1 ∈ rs)) (h : DOk C o fr.ev (mask rs hp) y ws) (hk : TDr C ops K l ((d, x) :: fr) (wr ws hp) (acc ++ [⟨true, d, x, rs, ws⟩])) : TDr C ops K (o :: l) fr hp acc
  | skip (o : Oper) (l : List Oper) (fr : Fr) (hp : List Blk) (acc : List Rec) (d : Nat) (x : AV) (hd : DstD C o d x .und) (hon : onA ops fr o = some false)
      (hk : TDr C ops K l ((d, x) :: fr) hp (acc ++ [⟨false, d, x, [], []⟩])) : TDr C ops K (o :: l) fr hp acc

/-! ### What the edges bind -/

inductive Anc (ops : List Oper) : Nat → Nat → Prop
  | one (j : Nat) (o : Oper) (e : Edge) (ho : ops[j]? = some o) (he : e ∈ o.after) (hb : Region.binds .any e = true) : Anc ops j e.on
  | more (j : Nat) (o : Oper) (e : Edge) (i : Nat) (ho : ops[j]? = some o) (he : e ∈ o.after) (hb : Region.binds .any e = true) (h : Anc ops e.on i) : Anc ops j i

theorem foldl_inv {α β : Type} (f : β → α → β) (I : β → Prop) (step : ∀ b x, I b → I (f b x)) : ∀ (l : List α) (b : β), I b → I (l.foldl f b)
  | [], _, h => h
  | x :: r, b, h => foldl_inv f I step r _ (step b x h)

theorem foldl_mem {α β : Type} (f : β → α → β) (I : β → Prop) : ∀ (l : List α) (b : β), (∀ b x, x ∈ l → I b → I (f b x)) → I b → I (l.foldl f b)
  | [], _, _, h => h
  | x :: r, b, step, h => foldl_mem f I r _ (fun b y hy hb => step b y (by simp [hy]) hb) (step b x (by simp) h)

theorem ancs_go (ops : List Oper) : ∀ (l pre : List Oper) (acc : List (List Nat)), ops = pre ++ l → acc.length = pre.length → (∀ (j i : Nat), i ∈ acc.getD j [] → Anc ops j i) →
    ∀ (j i : Nat), i ∈ (l.foldl (fun acc o => acc ++ [(o.after.toList.filter (Region.binds .any ·)).foldl (fun s e => if s.contains e.on then s else (acc.getD e.on []).foldl (fun s i => if s.contains i then s else s ++ [i]) (s ++ [e.on])) []]) acc).getD j [] → Anc ops j i
  | [], _, acc, _, _, h => h
  | o :: l, pre, acc, ho, hl, h => by
    simp only [List.foldl_cons]
    have hoj : ops[pre.length]? = some o := by rw [ho]; simp
    refine ancs_go ops l (pre ++ [o]) _ (by rw [ho]; simp) (by simp [hl]) ?_
    intro j i hi
    rw [List.getD_eq_getElem?_getD, List.getElem?_append] at hi
    split at hi
    · exact h j i (by rw [List.getD_eq_getElem?_getD]; exact hi)
    · rename_i hge
      by_cases hj : j = acc.length
      · subst hj
        simp only [Nat.sub_self, List.getElem?_cons_zero, Option.getD_some] at hi
        have key : ∀ i ∈ (o.after.toList.filter (Region.binds .any ·)).foldl (fun s e => if s.contains e.on then s else (acc.getD e.on []).foldl (fun s i => if s.contains i then s else s ++ [i]) (s ++ [e.on])) [], Anc ops acc.length i := by
          refine foldl_mem _ (fun s => ∀ i ∈ s, Anc ops acc.length i) _ _ ?_ (fun i hi => by simp at hi)
          intro s e he hs
          simp only [List.mem_filter, Array.mem_toList_iff] at he
          show ∀ i ∈ (if s.contains e.on then s else _), Anc ops acc.length i
          split
          · exact hs
          · refine foldl_mem _ (fun s => ∀ i ∈ s, Anc ops acc.length i) _ _ ?_ ?_
            · intro s' x hx hs'
              show ∀ i ∈ (if s'.contains x then s' else s' ++ [x]), Anc ops acc.length i
              split
              · exact hs'
              · intro i hi
                simp only [List.mem_append, List.mem_singleton] at hi
                rcases hi with hi | rfl
                · exact hs' i hi
                · exact .more _ o e _ (by rw [hl]; exact hoj) he.1 he.2 (h e.on i hx)
            · intro i hi
              simp only [List.mem_append, List.mem_singleton] at hi
              rcases hi with hi | rfl
              · exact hs i hi
              · exact .one _ o e (by rw [hl]; exact hoj) he.1 he.2
        exact key i hi
      · rw [List.getElem?_eq_none (by simp; omega)] at hi
        simp at hi

theorem ancs_spec (ops : List Oper) {j i : Nat} (h : i ∈ (ancs ops).getD j []) : Anc ops j i :=
  ancs_go ops ops [] [] rfl rfl (fun j i h => by simp at h) j i h

def Cl (ops : List Oper) (S : Nat → Bool) : Prop := ∀ (i : Nat) (o : Oper), ops[i]? = some o → S i = true → ∀ e ∈ o.after, Region.binds .any e = true → S e.on = true

theorem anc_listed {ops : List Oper} {S : Nat → Bool} (hc : Cl ops S) {j i : Nat} (h : Anc ops j i) : (∀ o, ops[j]? = some o → ∀ e ∈ o.after, Region.binds .any e = true → S e.on = true) → S i = true := by
  induction h with
  | one j o e ho he hb => intro hj; exact hj o ho e he hb
  | more j o e i ho he hb _ ih => intro hj; exact ih fun o' ho' => hc _ o' ho' (hj o ho e he hb)

/-! ### States of a region that has been carried out in part -/

structure Part (fr0 : Fr) (hp0 : List Blk) (recs : List Rec) (S : Nat → Bool) (st : St) : Prop where
  put : ∀ (i : Nat) (r : Rec), recs[i]? = some r → S i = true → st.fr.get r.d = r.x
  old : ∀ t, (∀ (i : Nat) (r : Rec), recs[i]? = some r → S i = true → r.d ≠ t) → st.fr.get t = fr0.get t
  wput : ∀ (i : Nat) (r : Rec) (p : Nat × Blk), recs[i]? = some r → S i = true → p ∈ r.ws → st.hp[p.1]? = some p.2
  wold : ∀ b, (∀ (i : Nat) (r : Rec), recs[i]? = some r → S i = true → ∀ p ∈ r.ws, p.1 ≠ b) → st.hp[b]? = hp0[b]?
  len : st.hp.length = hp0.length

/-- No slot and no block is written twice; what is written is there. -/
structure Apart (hp0 : List Blk) (recs : List Rec) : Prop where
  ds : ∀ (i j : Nat) (r s : Rec), recs[i]? = some r → recs[j]? = some s → r.d = s.d → i = j
  ws : ∀ (i j : Nat) (r s : Rec), recs[i]? = some r → recs[j]? = some s → ∀ p ∈ r.ws, ∀ q ∈ s.ws, p.1 = q.1 → i = j
  wn : ∀ (i : Nat) (r : Rec), recs[i]? = some r → (r.ws.map (·.1)).Nodup
  lt : ∀ (i : Nat) (r : Rec), recs[i]? = some r → ∀ p ∈ r.ws, p.1 < hp0.length

theorem wr_get : ∀ (ws : List (Nat × Blk)) (hp : List Blk) (b : Nat), (∀ p ∈ ws, p.1 < hp.length) → (ws.map (·.1)).Nodup → (∀ p ∈ ws, p.1 = b → (wr ws hp)[b]? = some p.2) ∧ ((∀ p ∈ ws, p.1 ≠ b) → (wr ws hp)[b]? = hp[b]?)
  | [], hp, b, _, _ => ⟨fun p hp' => by simp at hp', fun _ => rfl⟩
  | q :: r, hp, b, hl, hn => by
    simp only [List.map_cons, List.nodup_cons] at hn
    have ih := wr_get r (hp.set q.1 q.2) b (fun p hp' => by simpa using hl p (by simp [hp'])) hn.2
    refine ⟨fun p hp' e => ?_, fun h => ?_⟩
    · simp only [List.mem_cons] at hp'
      rcases hp' with rfl | hp'
      · subst e
        show (wr r (hp.set p.1 p.2))[p.1]? = some p.2
        rw [ih.2 fun q' hq' e => hn.1 (List.mem_map.2 ⟨q', hq', e⟩), List.getElem?_set, if_pos rfl, if_pos (hl p (by simp))]
      · exact ih.1 p hp' e
    · show (wr r (hp.set q.1 q.2))[b]? = hp[b]?
      rw [ih.2 fun p hp' => h p (by simp [hp']), List.getElem?_set, if_neg (h q (by simp))]

theorem Part.step {fr0 : Fr} {hp0 : List Blk} {recs : List Rec} {S : Nat → Bool} (h : Part fr0 hp0 recs S st) (ha : Apart hp0 recs) {j : Nat} {r : Rec} (hj : recs[j]? = some r) (hS : S j = false) {S' : Nat → Bool} (hS' : ∀ i, S' i = (S i || i == j)) :
    Part fr0 hp0 recs S' ⟨(r.d, r.x) :: st.fr, wr r.ws st.hp⟩ := by
  have hin : ∀ i, S' i = true → S i = true ∨ i = j := fun i hi => by rw [hS' i] at hi; simpa using hi
  have hwl : ∀ p ∈ r.ws, p.1 < st.hp.length := fun p hp => by rw [h.len]; exact ha.lt j r hj p hp
  refine ⟨fun i s hi hSi => ?_, fun t ht => ?_, fun i s p hi hSi hp => ?_, fun b hb => ?_, by rw [wr_length]; exact h.len⟩
  · simp only [Fr.get]
    by_cases e : r.d = s.d
    · have := ha.ds j i r s hj hi e
      subst this
      rw [hj] at hi; cases hi
      rw [if_pos rfl]
    · rw [if_neg e]
      rcases hin i hSi with h1 | rfl
      · exact h.put i s hi h1
      · rw [hj] at hi; cases hi; exact absurd rfl e
  · simp only [Fr.get]
    rw [if_neg (ht j r hj (by rw [hS']; simp))]
    exact h.old t fun i s hi hSi => ht i s hi (by rw [hS', hSi]; rfl)
  · rcases hin i hSi with h1 | rfl
    · have hne : ∀ q ∈ r.ws, q.1 ≠ p.1 := fun q hq e => by
        have := ha.ws j i r s hj hi q hq p hp e
        subst this
        rw [hS] at h1; cases h1
      show (wr r.ws st.hp)[p.1]? = some p.2
      rw [(wr_get r.ws st.hp p.1 hwl (ha.wn j r hj)).2 hne]
      exact h.wput i s p hi h1 hp
    · rw [hj] at hi; cases hi
      exact (wr_get r.ws st.hp p.1 hwl (ha.wn _ r hj)).1 p hp rfl
  · show (wr r.ws st.hp)[b]? = hp0[b]?
    rw [(wr_get r.ws st.hp b hwl (ha.wn j r hj)).2 fun p hp => hb j r hj (by rw [hS']; simp) p hp]
    exact h.wold b fun i s hi hSi => hb i s hi (by rw [hS', hSi]; rfl)

theorem Part.start (fr0 : Fr) (hp0 : List Blk) (recs : List Rec) {S : Nat → Bool} (hS : ∀ i, i < recs.length → S i = false) : Part fr0 hp0 recs S ⟨fr0, hp0⟩ :=
  ⟨fun i _ hi h => absurd ((hS i (List.getElem?_eq_some_iff.1 hi).1).symm.trans h) Bool.false_ne_true, fun _ _ => rfl, fun i _ _ hi h => absurd ((hS i (List.getElem?_eq_some_iff.1 hi).1).symm.trans h) Bool.false_ne_true, fun _ _ => rfl, rfl⟩

theorem Part.text {fr0 : Fr} {hp0 : List Blk} {recs : List Rec} (ha : Apart hp0 recs) : ∀ k, k ≤ recs.length → Part fr0 hp0 recs (fun i => decide (i < k)) ⟨frAt fr0 (recs.take k), hpAt hp0 (recs.take k)⟩
  | 0, _ => Part.start fr0 hp0 recs fun i _ => by simp
  | k + 1, hk => by
    have ih := Part.text (fr0 := fr0) ha k (by omega)
    have hj : recs[k]? = some recs[k] := List.getElem?_eq_getElem (by omega)
    have hstep := ih.step ha hj (by simp) (S' := fun i => decide (i < k + 1)) fun i => by
      rw [Bool.eq_iff_iff]; simp; omega
    have htake : recs.take (k + 1) = recs.take k ++ [recs[k]] := by rw [List.take_succ_eq_append_getElem]
    rw [htake]
    simp only [frAt, hpAt, List.foldl_append, List.foldl_cons, List.foldl_nil]
    exact hstep

theorem Part.getEq {fr0 : Fr} {hp0 : List Blk} {recs : List Rec} {S S' : Nat → Bool} {st st' : St} (h : Part fr0 hp0 recs S st) (h' : Part fr0 hp0 recs S' st') (t : Nat) (hS : ∀ (i : Nat) (r : Rec), recs[i]? = some r → r.d = t → S i = S' i) : st.fr.get t = st'.fr.get t := by
  by_cases hex : ∃ (i : Nat) (r : Rec), recs[i]? = some r ∧ S i = true ∧ r.d = t
  · obtain ⟨i, r, hi, hSi, rfl⟩ := hex
    rw [h.put i r hi hSi, h'.put i r hi (by rw [← hS i r hi rfl]; exact hSi)]
  · rw [h.old t fun i r hi hSi e => hex ⟨i, r, hi, hSi, e⟩, h'.old t fun i r hi hSi e => hex ⟨i, r, hi, by rw [hS i r hi e]; exact hSi, e⟩]

theorem Part.hpEq {fr0 : Fr} {hp0 : List Blk} {recs : List Rec} {S S' : Nat → Bool} {st st' : St} (h : Part fr0 hp0 recs S st) (h' : Part fr0 hp0 recs S' st') (b : Nat) (hS : ∀ (i : Nat) (r : Rec) (p : Nat × Blk), recs[i]? = some r → p ∈ r.ws → p.1 = b → S i = S' i) : st.hp[b]? = st'.hp[b]? := by
  by_cases hex : ∃ (i : Nat) (r : Rec) (p : Nat × Blk), recs[i]? = some r ∧ S i = true ∧ p ∈ r.ws ∧ p.1 = b
  · obtain ⟨i, r, p, hi, hSi, hp, rfl⟩ := hex
    rw [h.wput i r p hi hSi hp, h'.wput i r p hi (by rw [← hS i r p hi hp rfl]; exact hSi) hp]
  · rw [h.wold b fun i r hi hSi p hp e => hex ⟨i, r, p, hi, hSi, hp, e⟩, h'.wold b fun i r hi hSi p hp e => hex ⟨i, r, p, hi, by rw [hS i r p hi hp e]; exact hSi, hp, e⟩]

theorem Sim.same {st' : St} (h : Sim C st g a w) (hf : ∀ t, st'.fr.get t = st.fr.get t) (hh : st'.hp = st.hp) : Sim C st' g a w := by
  obtain ⟨fr', hp'⟩ := st'
  simp only at hh
  subst hh
  exact { h with fr := fun t => by have := h.fr t; rw [← hf t] at this; exact this }

/-! ### The walk, as a list of records -/

structure Good (C : Ctx) (ops : Array Oper) (fr0 : Fr) (hp0 : List Blk) (pre : List Rec) (o : Oper) (r : Rec) : Prop where
  on : onA ops (frAt fr0 pre) o = some r.on
  yes : r.on = true → (∀ p ∈ r.ws, p.1 < (hpAt hp0 pre).length ∧ ((hpAt hp0 pre)[p.1]? = some .dead ∨ p.1 ∈ r.rs)) ∧ ∃ y, DstD C o r.d r.x y ∧ DOk C o (frAt fr0 pre).ev (mask r.rs (hpAt hp0 pre)) y r.ws
  no : r.on = false → DstD C o r.d r.x .und ∧ r.ws = []

theorem tdr_recs {ops : Array Oper} {K : St → Prop} {fr0 : Fr} {hp0 : List Blk} {l : List Oper} {fr : Fr} {hp : List Blk} {acc : List Rec} (h : TDr C ops K l fr hp acc) : fr = frAt fr0 acc → hp = hpAt hp0 acc → ops.toList.drop acc.length = l →
    (∀ (i : Nat) (r : Rec), acc[i]? = some r → ∃ o, ops.toList[i]? = some o ∧ Good C ops fr0 hp0 (acc.take i) o r) →
    ∃ recs, (∀ (i : Nat) (r : Rec), recs[i]? = some r → ∃ o, ops.toList[i]? = some o ∧ Good C ops fr0 hp0 (recs.take i) o r) ∧ edgesOk ops.toList recs.length (recs.map Rec.d) (recs.map recRW) = true ∧ TOps C ops (ops.toList.drop recs.length) ⟨frAt fr0 recs, hpAt hp0 recs⟩ K := by
  induction h with
  | tail l fr hp acc hE h =>
    intro e1 e2 e3 hg
    refine ⟨acc, hg, hE, ?_⟩
    rw [e3, ← e1, ← e2]
    exact h
  | step o l fr hp acc d x rs ws y hd hon hw h hk ih =>
    intro e1 e2 e3 hg
    have ho : ops.toList[acc.length]? = some o := by
      have := congrArg (·[0]?) e3
      simpa using this
    refine ih (by rw [e1]; simp [frAt]) (by rw [e2]; simp [hpAt]) ?_ ?_
    · have := congrArg (List.drop 1) e3
      simpa [List.drop_drop] using this
    · intro i r hi
      rw [List.getElem?_append] at hi
      split at hi
      · rename_i hlt
        obtain ⟨o', ho', hG⟩ := hg i r hi
        exact ⟨o', ho', by rw [List.take_append_of_le_length (by omega)]; exact hG⟩
      · rename_i hge
        have hia : i = acc.length := by
          rcases Nat.lt_or_ge (i - acc.length) 1 with h1 | h1
          · omega
          · rw [List.getElem?_eq_none (by simpa using h1)] at hi; cases hi
        subst hia
        simp at hi
        subst hi
        refine ⟨o, ho, ?_⟩
        rw [List.take_append_of_le_length (Nat.le_refl _), List.take_length]
        exact ⟨by rw [← e1]; exact hon, fun _ => by rw [← e1, ← e2]; exact ⟨hw, y, hd, h⟩, fun h => by cases h⟩
  | skip o l fr hp acc d x hd hon hk ih =>
    intro e1 e2 e3 hg
    have ho : ops.toList[acc.length]? = some o := by
      have := congrArg (·[0]?) e3
      simpa using this
    refine ih (by rw [e1]; simp [frAt]) (by rw [e2]; simp [hpAt, wr]) ?_ ?_
    · have := congrArg (List.drop 1) e3
      simpa [List.drop_drop] using this
    · intro i r hi
      rw [List.getElem?_append] at hi
      split at hi
      · rename_i hlt
        obtain ⟨o', ho', hG⟩ := hg i r hi
        exact ⟨o', ho', by rw [List.take_append_of_le_length (by omega)]; exact hG⟩
      · rename_i hge
        have hia : i = acc.length := by
          rcases Nat.lt_or_ge (i - acc.length) 1 with h1 | h1
          · omega
          · rw [List.getElem?_eq_none (by simpa using h1)] at hi; cases hi
        subst hia
        simp at hi
        subst hi
        refine ⟨o, ho, ?_⟩
        rw [List.take_append_of_le_length (Nat.le_refl _), List.take_length]
        exact ⟨by rw [← e1]; exact hon, fun h => (by cases h), fun _ => ⟨hd, rfl⟩⟩

/-- Everything that the check of the edges says. -/
structure Edges (ops : List Oper) (recs : List Rec) : Prop where
  back : ∀ (i : Nat) (o : Oper), ops[i]? = some o → ∀ e ∈ o.after, Region.binds .any e = true → e.on < i
  slot : ∀ (i j : Nat) (o : Oper) (r : Rec), ops[j]? = some o → recs[i]? = some r → j < recs.length → i ≠ j → r.d ∈ slotsOf ops.toArray o → Anc ops i j ∨ Anc ops j i
  blk : ∀ (i j : Nat) (r s : Rec), recs[i]? = some r → recs[j]? = some s → i ≠ j → ∀ p ∈ r.ws, (p.1 ∈ s.rs ∨ p.1 ∈ s.ws.map (·.1)) → Anc ops i j ∨ Anc ops j i
  last : ∀ (i j : Nat), j < ops.length → recs.length ≤ j → i < j → Anc ops j i
  ds : ∀ (i j : Nat) (r s : Rec), recs[i]? = some r → recs[j]? = some s → r.d = s.d → i = j
  ws : ∀ (i j : Nat) (r s : Rec), recs[i]? = some r → recs[j]? = some s → ∀ p ∈ r.ws, ∀ q ∈ s.ws, p.1 = q.1 → i = j
  wn : ∀ (i : Nat) (r : Rec), recs[i]? = some r → (r.ws.map (·.1)).Nodup

theorem nodupB_spec : ∀ {l : List Nat}, nodupB l = true → l.Nodup
  | [], _ => List.nodup_nil
  | x :: r, h => by
    simp only [nodupB, Bool.and_eq_true, Bool.not_eq_true', List.contains_eq_mem, decide_eq_false_iff_not] at h
    exact List.nodup_cons.2 ⟨h.1, nodupB_spec h.2⟩

theorem flat_inj {α : Type} (f : α → List Nat) : ∀ (l : List α), (l.flatMap f).Nodup → ∀ (i j : Nat) (x y : α) (b : Nat), l[i]? = some x → l[j]? = some y → b ∈ f x → b ∈ f y → i = j
  | [], _, i, j, x, y, b, hx, _, _, _ => by simp at hx
  | z :: r, hn, i, j, x, y, b, hx, hy, hbx, hby => by
    simp only [List.flatMap_cons, List.nodup_append] at hn
    cases i with
    | zero =>
      cases j with
      | zero => rfl
      | succ j =>
        simp at hx hy; subst hx
        exact absurd rfl (hn.2.2 b hbx b (List.mem_flatMap.2 ⟨y, List.mem_of_getElem? hy, hby⟩))
    | succ i =>
      cases j with
      | zero =>
        simp at hx hy; subst hy
        exact absurd rfl (hn.2.2 b hby b (List.mem_flatMap.2 ⟨x, List.mem_of_getElem? hx, hbx⟩))
      | succ j => simp at hx hy; rw [flat_inj f r hn.2.1 i j x y b hx hy hbx hby]

theorem flat_one {α : Type} (f : α → List Nat) : ∀ (l : List α), (l.flatMap f).Nodup → ∀ (i : Nat) (x : α), l[i]? = some x → (f x).Nodup
  | [], _, i, x, hx => by simp at hx
  | z :: r, hn, i, x, hx => by
    simp only [List.flatMap_cons, List.nodup_append] at hn
    cases i with
    | zero => simp at hx; subst hx; exact hn.1
    | succ i => simp at hx; exact flat_one f r hn.2.1 i x hx

theorem related_anc {ops : List Oper} {i j : Nat} (h : related (ancs ops) i j = true) : Anc ops i j ∨ Anc ops j i := by
  simp only [related, Bool.or_eq_true, List.contains_eq_mem, decide_eq_true_eq] at h
  exact h.imp (ancs_spec ops) (ancs_spec ops)

theorem edges_of {ops : List Oper} {recs : List Rec} (h : edgesOk ops recs.length (recs.map Rec.d) (recs.map recRW) = true) : Edges ops recs := by
  simp only [edgesOk, Bool.and_eq_true, List.all_eq_true, List.mem_range, Bool.or_eq_true, beq_iff_eq, Bool.not_eq_true', decide_eq_true_eq] at h
  obtain ⟨⟨⟨⟨h1, h2⟩, h3⟩, h4⟩, h5⟩ := h
  have hds := nodupB_spec h2
  have hws := nodupB_spec h3
  have hws' : (recs.flatMap fun r => r.ws.map (·.1)).Nodup := by
    have : (recs.map recRW).flatMap (·.2) = recs.flatMap fun r => r.ws.map (·.1) := by rw [List.flatMap_map]; rfl
    rw [← this]; exact hws
  have hget : ∀ (i : Nat) (r : Rec), recs[i]? = some r → (recs.map Rec.d).getD i 0 = r.d ∧ (recs.map recRW).getD i ([], []) = recRW r := fun i r hi => by simp [hi]
  refine ⟨fun i o ho e he hb => ?_, fun i j o r ho hr hj hne hm => ?_, fun i j r s hr hs hne p hp hm => ?_, fun i j hj hm hij => ?_, fun i j r s hr hs e => nodup_inj (x := r.d) hds (by simp [hr]) (by simp [hs, e]), fun i j r s hr hs p hp q hq e => ?_, fun i r hr => flat_one _ _ hws' i r hr⟩
  · have := h1 (o, i) (by rw [List.mem_iff_getElem?]; exact ⟨i, by simp [List.getElem?_zipIdx, ho]⟩) e (Array.mem_toList_iff.2 he)
    rcases this with h | h
    · rw [hb] at h; cases h
    · exact h
  · have hi : i < recs.length := (List.getElem?_eq_some_iff.1 hr).1
    rcases h4 j hj i hi with (h | h) | h
    · exact absurd h hne
    · exact related_anc h
    · rw [(hget i r hr).1] at h
      have := h.1
      simp only [ho, Option.any_some, List.contains_eq_mem, decide_eq_false_iff_not] at this
      exact absurd hm this
  · have hi : i < recs.length := (List.getElem?_eq_some_iff.1 hr).1
    have hj : j < recs.length := (List.getElem?_eq_some_iff.1 hs).1
    rcases h4 j hj i hi with (h | h) | h
    · exact absurd h hne
    · exact related_anc h
    · have h6 := h.2
      rw [(hget i r hr).2, (hget j s hs).2] at h6
      simp only [List.any_eq_false, List.contains_eq_mem, decide_eq_true_eq] at h6
      refine absurd ?_ (h6 p.1 ?_)
      · simp only [recRW, List.mem_map]; exact ⟨p, hp, rfl⟩
      · simp only [recRW, List.mem_append]; exact hm
  · rcases h5 j hj with h | h
    · omega
    · have := h i hij
      simp only [List.contains_eq_mem, decide_eq_true_eq] at this
      exact ancs_spec ops this
  · exact flat_inj _ _ hws' i j r s p.1 hr hs (List.mem_map.2 ⟨p, hp, rfl⟩) (List.mem_map.2 ⟨q, hq, e.symm⟩)

end Go.TL
