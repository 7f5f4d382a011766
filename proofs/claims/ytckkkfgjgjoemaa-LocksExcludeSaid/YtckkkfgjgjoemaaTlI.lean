/- Trees in place of memory, part I: copy, cuts of slices, structs built, comparisons of structs and strings. No condition. -/
import Derived.Test.YtckkkfgjgjoemaaTlH
namespace Go.TL

variable {C : Ctx} {st : St} {g : Gh} {a : Act} {w : World} {P : Program}

theorem run_exec_copy {o : Oper} {t u : TypeId} {x y : Operand} (ho : o.op = .call { callee := .builtin .copy, args := #[x, y], argTypes := #[t, u] }) {v : Value} {w' : World} (hr : (Builtin.copy_ #[t, u] o.type #[a.eval x, a.eval y]).run P w = .ok v w') :
    (execOp a.eval o).run P w = .ok (.value v) w' := by
  simp only [execOp, ho]
  simp [resolve, invoke, builtin, hr]

theorem run_copy_zero {t e u : TypeId} {s by' : Nat} (h : sel P t = some (e, s, by')) (w : World) (ty : TypeId) (b b' : Option Addr) (n cap n' cap' : Nat) (hz : Nat.min n' n = 0) :
    (Builtin.copy_ #[t, u] ty #[.slice b n cap, .slice b' n' cap']).run P w = .ok (goInt 0) w := by
  obtain ⟨inf, hu, hi, hs, _⟩ := sel_inv h
  have hf : (Builtin.firstCells inf.size 0 (.slice b' n' cap')).run P w = .ok #[] w := by
    cases b' with
    | none => simp [Builtin.firstCells]
    | some ad => have := run_firstCells_some (P := P) w inf.size 0 ad n' cap' [] (by simp) (fun j v hv => by simp at hv); simpa using this
  cases b with
  | none => simp [Builtin.copy_, run_underlying hu, sizeOf, typeInfo, hi, Builtin.lenOf, hz, hf]
  | some ad => simp [Builtin.copy_, run_underlying hu, sizeOf, typeInfo, hi, Builtin.lenOf, hz, hf, storeCells]

theorem spl_get {α : Type} (L : List α) (off : Nat) (cs : List α) (h : off + cs.length ≤ L.length) (m : Nat) : (spl L off cs)[m]? = if m < off then L[m]? else if m < off + cs.length then cs[m - off]? else L[m]? := by
  simp only [spl, List.getElem?_append, List.length_take, List.getElem?_take, List.getElem?_drop]
  have hmin : min off L.length = off := by omega
  rw [hmin]
  by_cases m1 : m < off
  · simp [m1]
  · rw [if_neg m1, if_neg m1]
    by_cases m2 : m < off + cs.length
    · rw [if_pos (by omega), if_pos m2]
    · rw [if_neg (by omega), if_neg m2]
      congr 1
      omega

theorem ok_copy {o : Oper} {K : St → Prop} {t u e : TypeId} {x y : Operand} (id sz by' off len n : Nat) (v : AV) (es ds : List D) (ho : o.op = .call { callee := .builtin .copy, args := #[x, y], argTypes := #[t, u] }) (hd : dstOk C.n o.dst = true) (hl : sel C.P t = some (e, sz, by'))
    (hx : st.fr.ev x = .msl id sz off len) (hb : st.hp[id]? = some (.flat e sz es)) (hle : off + len ≤ es.length) (hy : st.fr.ev y = v) (hv : SrcA st.hp sz ds v) (hn : n = min ds.length len)
    (hK : K (St.put ⟨st.fr, st.hp.set id (.flat e sz (spl es off (ds.take n)))⟩ o.dst (.d (.int .i64 n)))) : OpOk C o st K :=
  OpOk.change fun g a w hsim => by
    obtain ⟨inf, hun, hi, hsz, hby⟩ := sel_inv hl
    have hid := (List.getElem?_eq_some_iff.1 hb).1
    have hvx := hsim.ev x
    rw [hx] at hvx
    have hvy := hsim.ev y
    rw [hy] at hvy
    have hsrc := src_ok hsim hvy hv
    have hsame : spl es off (List.take 0 ds) = es := by simp [spl]
    have hset : st.hp.set id (.flat e sz es) = st.hp := by
      apply List.ext_getElem?
      intro m
      rw [List.getElem?_set]
      split
      · rename_i hm; subst hm; rw [hb]
      · rfl
    have zero : n = 0 → (∃ b cap n' b' cap', a.eval x = .slice b len cap ∧ a.eval y = .slice b' n' cap' ∧ Nat.min n' len = 0) → ∃ v w', (execOp a.eval o).run C.P w = .ok (.value v) w' ∧ Sat C K (a.put o.dst v) w' := by
      rintro hn0 ⟨b, cap, n', b', cap', hex, hey, hz⟩
      have hr := run_copy_zero (u := u) hl w o.type b b' len cap n' cap' hz
      rw [← hex, ← hey] at hr
      refine ⟨_, _, run_exec_copy ho hr, _, g, hK, Sim.put' ?_ hd ?_⟩
      · rw [hn0, hsame, hset]; exact hsim
      · rw [hn0]; exact .d _ _ (.int _ _)
    have hexv : ∃ b cap, a.eval x = .slice b len cap := by
      generalize a.eval x = vx at *
      cases hvx with
      | msl0 => exact ⟨_, _, rfl⟩
      | msl => exact ⟨_, _, rfl⟩
    rcases hsrc with ⟨ad, cap, hey, hds⟩ | ⟨ad, cap, news, hey, n1, n2, n3, n4, n5, n6⟩
    · obtain ⟨b, cap', hex⟩ := hexv
      exact zero (by rw [hn, hds]; simp) ⟨b, cap', 0, ad, cap, hex, hey, by simp⟩
    by_cases hn0 : n = 0
    · obtain ⟨b, cap', hex⟩ := hexv
      exact zero hn0 ⟨b, cap', ds.length, some ad, cap, hex, hey, by rw [hn] at hn0; simpa using hn0⟩
    clear zero
    generalize hex : a.eval x = vx at hvx
    cases hvx with
    | msl0 => omega
    | msl _ _ _ _ cap0 b hbp hc hpsz =>
      rcases hsim.hp id _ hb with ⟨_, hn'⟩ | ⟨b', cells, hp', hw, hpsi, hl', h0, h1, hr0⟩
      · rw [hbp] at hn'; cases hn'
      cases hbp.symm.trans hp'
      have hnds : n ≤ ds.length := by omega
      have hnlen : n ≤ len := by omega
      have hmul : n * sz ≤ ds.length * sz := Nat.mul_le_mul_right _ hnds
      have hmul2 : (off + n) * sz ≤ es.length * sz := Nat.mul_le_mul_right _ (by omega)
      rw [Nat.add_mul] at hmul2
      have hl2 : (news.take (n * sz)).length = n * sz := by simp; omega
      have hfc := run_firstCells_some (P := C.P) w inf.size n ad ds.length cap (news.take (n * sz)) (by rw [hl2, hsz]) (fun j v hv => n2 j v (by rw [List.getElem?_take] at hv; split at hv; exact hv; cases hv))
      have hst := run_storeCells_at C.P b (off * sz) e (news.take (n * sz)) 0 cells w hw (by rw [hl2]; omega) (fun u hu => n3 u (List.mem_of_mem_take hu))
      have hr : (Builtin.copy_ #[t, u] o.type #[a.eval x, a.eval y]).run C.P w = .ok (goInt n) (w.setRow b (spl cells.toList (off * sz) (news.take (n * sz))).toArray) := by
        have hmin : Nat.min ds.length len = n := by rw [hn]
        rw [hex, hey]
        simp only [Nat.add_zero] at hst
        simp only [Builtin.copy_]
        simp [run_underlying hun, sizeOf, typeInfo, hi, Builtin.lenOf, hmin, hfc, hst, spl]
      refine ⟨_, _, run_exec_copy ho hr, _, g, hK, ?_⟩
      have hX : ∀ b', g.X b' → b' ≠ b := fun b' hX e => (hsim.lt id b hbp).2.2 (e ▸ hX)
      have hdl : (ds.take n).length = n := by simp; omega
      have hselem : ∀ k, (spl es off (ds.take n))[k]? = if k < off then es[k]? else if k < off + n then (ds.take n)[k - off]? else es[k]? := fun k => by rw [spl_get _ _ _ (by rw [hdl]; omega), hdl]
      have hscell : ∀ m, (spl cells.toList (off * sz) (news.take (n * sz))).toArray[m]? = if m < off * sz then cells[m]? else if m < off * sz + n * sz then (news.take (n * sz))[m - off * sz]? else cells[m]? := fun m => by
        rw [List.getElem?_toArray, spl_get _ _ _ (by rw [hl2]; simp; omega), hl2]; simp
      have hcase : ∀ k e', (spl es off (ds.take n))[k]? = some e' → (es[k]? = some e' ∧ (k < off ∨ off + n ≤ k)) ∨ (off ≤ k ∧ k < off + n ∧ ds[k - off]? = some e') := by
        intro k e' hk
        rw [hselem] at hk
        by_cases k1 : k < off
        · rw [if_pos k1] at hk; exact .inl ⟨hk, .inl k1⟩
        · rw [if_neg k1] at hk
          by_cases k2 : k < off + n
          · rw [if_pos k2, List.getElem?_take, if_pos (by omega)] at hk; exact .inr ⟨by omega, k2, hk⟩
          · rw [if_neg k2] at hk; exact .inl ⟨hk, .inr (by omega)⟩
      have hchange := hsim.change (i := id) (b := b) hb (fun e => by cases e) hbp (w' := w.setRow b (spl cells.toList (off * sz) (news.take (n * sz))).toArray) (setRow_size _ _ _) rfl rfl rfl (Nat.le_refl _) (fun b' hb' => setRow_other w b b' _ hb')
        (B := .flat e sz (spl es off (ds.take n))) (.inr ⟨b, _, hbp, setRow_heap w b cells _ e (0, 0) hw, ?_, ?_, ?_, ?_, ?_⟩)
      · exact hchange.put' hd (.d _ _ (.int _ _))
      · rw [hpsi]; simp [spl]; omega
      · have : (spl es off (ds.take n)).length = es.length := by simp [spl]; omega
        rw [this]
        have : (spl cells.toList (off * sz) (news.take (n * sz))).toArray.size = cells.size := by simp [spl]; omega
        rw [this]; exact hl'
      · intro k e' hk
        rcases hcase k e' hk with ⟨h, _⟩ | ⟨_, _, h⟩
        · exact h0 k e' h
        · exact n4 _ e' h
      · intro k e' j c hk hj
        rcases hcase k e' hk with ⟨h, _⟩ | ⟨_, _, h⟩
        · exact h1 k e' j c h hj
        · exact n5 _ e' j c h hj
      · intro k e' j c hk hj
        rw [hscell]
        rcases hcase k e' hk with ⟨h, hk'⟩ | ⟨k1, k2, h⟩
        · have hjlt : j < sz := by rw [← h0 k e' h]; exact (List.getElem?_eq_some_iff.1 hj).1
          obtain ⟨v, hv, hdv⟩ := hr0 k e' j c h hj
          refine ⟨v, ?_, hdv.mono (fun _ h => h) fun b' hb' => setRow_other w b b' _ (hX b' hb')⟩
          rcases hk' with hk' | hk'
          · have := Nat.mul_le_mul_right sz hk'
            rw [Nat.succ_mul] at this
            rw [if_pos (by omega)]; exact hv
          · have := Nat.mul_le_mul_right sz hk'
            rw [Nat.add_mul] at this
            rw [if_neg (by omega), if_neg (by omega)]; exact hv
        · have hjlt : j < sz := by rw [← n4 _ e' h]; exact (List.getElem?_eq_some_iff.1 hj).1
          obtain ⟨v, hv, hdv⟩ := n6 _ e' j c h hj
          refine ⟨v, ?_, hdv.mono (fun _ h => h) fun b' hb' => setRow_other w b b' _ (hX b' hb')⟩
          have e1 : k * sz = off * sz + (k - off) * sz := by rw [← Nat.add_mul]; congr 1; omega
          have e2 : (k - off + 1) * sz ≤ n * sz := Nat.mul_le_mul_right _ (by omega)
          rw [Nat.succ_mul] at e2
          rw [if_neg (by omega), if_pos (by omega), List.getElem?_take, if_pos (by omega)]
          rw [← hv]; congr 1; omega

/-! ### Cuts -/

/-- The bounds of a cut, as numbers. -/
def bnd (d : Nat) : Option AV → Option Int
  | none => some d
  | some (.d (.int _ n)) => some n
  | _ => none

theorem run_cut {t e : TypeId} {s by' : Nat} (h : sel P t = some (e, s, by')) (w : World) (ad : Option Addr) (len cap : Nat) (lo hi : Option Value) (l r : Nat)
    (hlo : (lo = none ∧ l = 0) ∨ ∃ k, lo = some (.int k l)) (hhi : (hi = none ∧ r = len) ∨ ∃ k, hi = some (.int k r)) (h1 : l ≤ r) (h2 : r ≤ cap) :
    (Instr.sliceAt t (.slice ad len cap) lo hi none).run P w = .ok (.slice (if cap = l then ad else ad.map (·.add (l * s))) (r - l) (cap - l)) w := by
  obtain ⟨inf, hu, hi', hs, _⟩ := sel_inv h
  have e1 : ∀ k : IntKind, ∀ (n y : Nat) (c : BoundsCode), n ≤ y → (Instr.sliceBound (.int k (n : Int)) y c).run P w = .ok n w := fun k n y c hle => by
    have := run_sliceBound (P := P) (w := w) k (n : Int) y c (by omega) (by omega)
    simpa using this
  rcases hlo with ⟨rfl, rfl⟩ | ⟨k, rfl⟩ <;> rcases hhi with ⟨rfl, rfl⟩ | ⟨k', rfl⟩ <;>
    simp [Instr.sliceAt, Instr.slice, run_underlying hu, Instr.sliceBounds, sizeOf, typeInfo, hi', hs, e1, h1, h2]

theorem rd_cut {o : Oper} {ev : Operand → AV} {hp : List Blk} {t e : TypeId} {x : Operand} {lo hi : Option Operand} (sz by' : Nat) (es : List D) (l r : Nat) (ho : o.op = .slice t x lo hi none) (hl : sel C.P t = some (e, sz, by')) (hx : ev x = .d (.sl sz es))
    (hlo : bnd 0 (lo.map ev) = some l) (hhi : bnd es.length (hi.map ev) = some r) (h1 : l ≤ r) (h2 : r ≤ es.length) : RdOk C o ev hp (.d (.sl sz ((es.drop l).take (r - l)))) :=
  RdOk.mk fun st hhp hag g a w hs => by
    have h := hs.ev x
    rw [hag x (by simp [ho, Op.operands]), hx] at h
    have bound : ∀ (d n : Nat) (q : Option Operand), (∀ y, q = some y → y ∈ o.op.operands) → bnd d (q.map ev) = some (n : Int) → (q.map a.eval = none ∧ n = d) ∨ ∃ k, q.map a.eval = some (.int k n) := by
      intro d n q hq hb
      cases q with
      | none => simp [bnd] at hb; exact .inl ⟨rfl, by omega⟩
      | some y =>
        have hy := hs.ev y
        rw [hag y (hq y rfl)] at hy
        simp only [Option.map_some] at hb ⊢
        unfold bnd at hb
        split at hb
        · rename_i e; cases e
        · rename_i k m e
          rw [Option.some.inj e] at hy
          cases hb
          exact .inr ⟨k, by rw [int_inv hy]⟩
        · cases hb
    have hlo' := bound 0 l lo (fun y hy => by subst hy; simp [ho, Op.operands]) hlo
    have hhi' := bound es.length r hi (fun y hy => by subst hy; simp [ho, Op.operands]) hhi
    generalize hev : a.eval x = vx at *
    have hrun : ∀ ad cap, vx = .slice ad es.length cap → es.length ≤ cap → (execOp a.eval o).run C.P w = .ok (.value (.slice (if cap = l then ad else ad.map (·.add (l * sz))) (r - l) (cap - l))) w := by
      intro ad cap hv hc
      have := run_cut hl w ad es.length cap (lo.map a.eval) (hi.map a.eval) l r hlo' hhi' h1 (by omega)
      simp only [execOp, ho, hev, hv, Option.map_none, Sem.run_bind, this, Result.andThen_ok, Sem.run_pure]
    have hlen : ((es.drop l).take (r - l)).length = r - l := by simp; omega
    cases h with
    | d _ _ h =>
      cases h with
      | sl0 _ ad cap =>
        simp only [List.length_nil] at *
        refine ⟨_, hrun ad cap rfl (Nat.zero_le _), .d _ _ ?_⟩
        have : r - l = 0 := by omega
        rw [this]
        simp only [List.take_zero]
        exact .sl0 _ _ _
      | sl _ _ ad cap val hX hc hs' h1' hv hr =>
        refine ⟨_, hrun (some ad) cap rfl hc, .d _ _ ?_⟩
        by_cases he : (es.drop l).take (r - l) = []
        · have : r - l = 0 := by rw [← hlen, he]; rfl
          rw [he, this]
          exact .sl0 _ _ _
        · have hpos : 0 < r - l := by rw [← hlen]; exact List.length_pos_iff.2 he
          rw [if_neg (by omega)]
          have hds : ∀ (i : Nat) (e : D), ((es.drop l).take (r - l))[i]? = some e → es[l + i]? = some e := by
            intro i e he
            rw [List.getElem?_take] at he
            split at he
            · rwa [List.getElem?_drop] at he
            · cases he
          have := DRep.sl (w := w) (X := g.X) sz ((es.drop l).take (r - l)) (ad.add (l * sz)) (cap - l) (fun i j => val (l + i) j) (by rw [add_block]; exact hX) (by omega) (fun i e he => hs' _ e (hds i e he)) (fun i e j c he hc => h1' _ e j c (hds i e he) hc)
            (fun i e j c he hc => by rw [add_add', show l * sz + (i * sz + j) = (l + i) * sz + j by rw [Nat.add_mul]; omega]; exact hv _ e j c (hds i e he) hc) (fun i e j c he hc => hr _ e j c (hds i e he) hc)
          rw [hlen] at this
          exact this

theorem rd_cut_msl {o : Oper} {ev : Operand → AV} {hp : List Blk} {t e : TypeId} {x : Operand} {lo hi : Option Operand} (id sz by' off len l r : Nat) (ho : o.op = .slice t x lo hi none) (hl : sel C.P t = some (e, sz, by')) (hx : ev x = .msl id sz off len)
    (hlo : bnd 0 (lo.map ev) = some l) (hhi : bnd len (hi.map ev) = some r) (h1 : l ≤ r) (h2 : r ≤ len) : RdOk C o ev hp (.msl id sz (off + l) (r - l)) :=
  RdOk.mk fun st hhp hag g a w hs => by
    have h := hs.ev x
    rw [hag x (by simp [ho, Op.operands]), hx] at h
    have bound : ∀ (d n : Nat) (q : Option Operand), (∀ y, q = some y → y ∈ o.op.operands) → bnd d (q.map ev) = some (n : Int) → (q.map a.eval = none ∧ n = d) ∨ ∃ k, q.map a.eval = some (.int k n) := by
      intro d n q hq hb
      cases q with
      | none => simp [bnd] at hb; exact .inl ⟨rfl, by omega⟩
      | some y =>
        have hy := hs.ev y
        rw [hag y (hq y rfl)] at hy
        simp only [Option.map_some] at hb ⊢
        unfold bnd at hb
        split at hb
        · rename_i e; cases e
        · rename_i k m e
          rw [Option.some.inj e] at hy
          cases hb
          exact .inr ⟨k, by rw [int_inv hy]⟩
        · cases hb
    have hlo' := bound 0 l lo (fun y hy => by subst hy; simp [ho, Op.operands]) hlo
    have hhi' := bound len r hi (fun y hy => by subst hy; simp [ho, Op.operands]) hhi
    generalize hev : a.eval x = vx at *
    have hrun : ∀ ad cap, vx = .slice ad len cap → len ≤ cap → (execOp a.eval o).run C.P w = .ok (.value (.slice (if cap = l then ad else ad.map (·.add (l * sz))) (r - l) (cap - l))) w := by
      intro ad cap hv hc
      have := run_cut hl w ad len cap (lo.map a.eval) (hi.map a.eval) l r hlo' hhi' h1 (by omega)
      simp only [execOp, ho, hev, hv, Option.map_none, Sem.run_bind, this, Result.andThen_ok, Sem.run_pure]
    cases h with
    | msl0 _ _ _ ad =>
      refine ⟨_, hrun ad 0 rfl (Nat.zero_le _), ?_⟩
      have e1 : l = 0 := by omega
      have e2 : r = 0 := by omega
      subst e1 e2
      exact .msl0 _ _ _ _
    | msl _ _ _ _ cap b hb hc hp =>
      refine ⟨_, hrun _ cap rfl hc, ?_⟩
      by_cases hcl : cap = l
      · have : r - l = 0 := by omega
        have e3 : cap - l = 0 := by omega
        rw [this, e3]
        exact .msl0 _ _ _ _
      · rw [if_neg hcl]
        simp only [Option.map_some, add_mk, ← Nat.add_mul]
        exact .msl id sz (off + l) (r - l) (cap - l) b hb (by omega) (by rw [show off + l + (cap - l) = off + cap by omega]; exact hp)

end Go.TL
