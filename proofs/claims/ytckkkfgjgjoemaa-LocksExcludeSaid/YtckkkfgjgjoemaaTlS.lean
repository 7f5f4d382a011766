/- Trees in place of memory, steps: each operation, as it stands in a region, with what its operands hold laid beside it. No condition. -/
import Derived.Test.YtckkkfgjgjoemaaTlI
namespace Go.TL

variable {C : Ctx} {ops : Array Oper} {l : List Oper} {K : St → Prop} {fr : Fr} {hp : List Blk} {d : Nat} {ty : TypeId} {pos : String} {after : Array Edge}

theorem dst_of (h : decide (d < C.n) = true) : dstOk C.n (some d) = true := h

theorem s_rd {op : Op} (v : AV) (hd : decide (d < C.n) = true) (hr : RdOk C ⟨some d, op, ty, pos, after, none⟩ fr.ev hp v) (h : TOps C ops l ⟨(d, v) :: fr, hp⟩ K) : TOps C ops (⟨some d, op, ty, pos, after, none⟩ :: l) ⟨fr, hp⟩ K :=
  tops_cons rfl (hr.ok hd h)

theorem s_move {x : Operand} {v : AV} (hd : decide (d < C.n) = true) (hx : fr.ev x = v) (h : TOps C ops l ⟨(d, v) :: fr, hp⟩ K) : TOps C ops (⟨some d, .move x, ty, pos, after, none⟩ :: l) ⟨fr, hp⟩ K := by
  subst hx; exact s_rd _ hd (rd_move (.inl rfl)) h
theorem s_assign {x : Operand} {v : AV} (hd : decide (d < C.n) = true) (hx : fr.ev x = v) (h : TOps C ops l ⟨(d, v) :: fr, hp⟩ K) : TOps C ops (⟨some d, .assign x, ty, pos, after, none⟩ :: l) ⟨fr, hp⟩ K := by
  subst hx; exact s_rd _ hd (rd_move (.inr rfl)) h

/-- The nil slice, laid down as a block of the call's own that is still empty. -/
theorem s_assignNil {x : Operand} (ety sz : Nat) (hd : decide (d < C.n) = true) (hx : fr.ev x = .d .nilsl) (h : TOps C ops l ⟨(d, .msl hp.length sz 0 0) :: fr, hp ++ [.flat ety sz []]⟩ K) : TOps C ops (⟨some d, .assign x, ty, pos, after, none⟩ :: l) ⟨fr, hp⟩ K := by
  refine s_assign hd hx fun g a w hs => h g a w ?_
  have h1 := hs.upgrade d ety sz (by simp [Fr.get])
  refine { h1 with fr := fun t => ?_ }
  have h2 := h1.fr t
  simp only [Fr.get] at h2 ⊢
  split
  · rename_i e; rw [if_pos e] at h2; exact h2
  · rename_i e; rw [if_neg e, if_neg e] at h2; exact h2

theorem s_pickB {c x y : Operand} {t p q : Bool} (hd : decide (d < C.n) = true) (hc : fr.ev c = .d (.bool t)) (hx : fr.ev x = .d (.bool p)) (hy : fr.ev y = .d (.bool q)) (h : TOps C ops l ⟨(d, .d (.bool (bif t then p else q))) :: fr, hp⟩ K) :
    TOps C ops (⟨some d, .pick c x y, ty, pos, after, none⟩ :: l) ⟨fr, hp⟩ K := s_rd _ hd (rd_pickBool t p q rfl hc hx hy) h
theorem s_pickT {c x y : Operand} {v : AV} (hd : decide (d < C.n) = true) (hc : fr.ev c = .d (.bool true)) (hx : fr.ev x = v) (h : TOps C ops l ⟨(d, v) :: fr, hp⟩ K) : TOps C ops (⟨some d, .pick c x y, ty, pos, after, none⟩ :: l) ⟨fr, hp⟩ K := by
  subst hx; exact s_rd _ hd (rd_pick true _ rfl hc rfl) h
theorem s_pickF {c x y : Operand} {v : AV} (hd : decide (d < C.n) = true) (hc : fr.ev c = .d (.bool false)) (hy : fr.ev y = v) (h : TOps C ops l ⟨(d, v) :: fr, hp⟩ K) : TOps C ops (⟨some d, .pick c x y, ty, pos, after, none⟩ :: l) ⟨fr, hp⟩ K := by
  subst hy; exact s_rd _ hd (rd_pick false _ rfl hc rfl) h

theorem s_load_ptr {t : TypeId} {x : Operand} {e c : D} {off s : Nat} (hd : decide (d < C.n) = true) (hl : lay C.P t = some (false, s)) (hx : fr.ev x = .d (.ptr e off)) (hc : e.cells[off]? = some c) (h : TOps C ops l ⟨(d, .d c) :: fr, hp⟩ K) :
    TOps C ops (⟨some d, .load t x, ty, pos, after, none⟩ :: l) ⟨fr, hp⟩ K := s_rd _ hd (rd_load_ptr e c off s rfl hl hx hc) h
theorem s_load_ptrA {t : TypeId} {x : Operand} {e v : D} {off s : Nat} (hd : decide (d < C.n) = true) (hl : lay C.P t = some (true, s)) (hx : fr.ev x = .d (.ptr e off)) (hc : off + s ≤ e.cells.length) (hv : e.part off s = v) (h : TOps C ops l ⟨(d, .d v) :: fr, hp⟩ K) :
    TOps C ops (⟨some d, .load t x, ty, pos, after, none⟩ :: l) ⟨fr, hp⟩ K := by
  subst hv; exact s_rd _ hd (rd_load_ptrAgg e off s rfl hl hx hc) h
theorem s_load_box {t bt : TypeId} {x : Operand} {id off s : Nat} {cs : List AV} {c : AV} (hd : decide (d < C.n) = true) (hl : lay C.P t = some (false, s)) (hx : fr.ev x = .mptr id 0 0 off) (hb : hp[id]? = some (.box bt cs)) (hc : cs[off]? = some c) (h : TOps C ops l ⟨(d, c) :: fr, hp⟩ K) :
    TOps C ops (⟨some d, .load t x, ty, pos, after, none⟩ :: l) ⟨fr, hp⟩ K := s_rd _ hd (rd_load_box id off s cs c rfl hl hx hb hc) h
theorem s_load_boxA {t bt : TypeId} {x : Operand} {id off s : Nat} {cs : List AV} {v : AV} (hd : decide (d < C.n) = true) (hl : lay C.P t = some (true, s)) (hx : fr.ev x = .mptr id 0 0 off) (hb : hp[id]? = some (.box bt cs)) (hc : off + s ≤ cs.length) (hv : mkAgg ((cs.drop off).take s) = v) (h : TOps C ops l ⟨(d, v) :: fr, hp⟩ K) :
    TOps C ops (⟨some d, .load t x, ty, pos, after, none⟩ :: l) ⟨fr, hp⟩ K := by
  subst hv; exact s_rd _ hd (rd_load_boxAgg id off s cs rfl hl hx hb hc) h
theorem s_load_flat {t bt : TypeId} {x : Operand} {id sz idx off s : Nat} {es : List D} {e c : D} (hd : decide (d < C.n) = true) (hl : lay C.P t = some (false, s)) (hx : fr.ev x = .mptr id sz idx off) (hb : hp[id]? = some (.flat bt sz es)) (he : es[idx]? = some e) (hc : e.cells[off]? = some c) (h : TOps C ops l ⟨(d, .d c) :: fr, hp⟩ K) :
    TOps C ops (⟨some d, .load t x, ty, pos, after, none⟩ :: l) ⟨fr, hp⟩ K := s_rd _ hd (rd_load_flat id sz idx off s es e c rfl hl hx hb he hc) h
theorem s_load_flatA {t bt : TypeId} {x : Operand} {id sz idx off s : Nat} {es : List D} {e v : D} (hd : decide (d < C.n) = true) (hl : lay C.P t = some (true, s)) (hx : fr.ev x = .mptr id sz idx off) (hb : hp[id]? = some (.flat bt sz es)) (he : es[idx]? = some e) (hc : off + s ≤ e.cells.length) (hv : e.part off s = v) (h : TOps C ops l ⟨(d, .d v) :: fr, hp⟩ K) :
    TOps C ops (⟨some d, .load t x, ty, pos, after, none⟩ :: l) ⟨fr, hp⟩ K := by
  subst hv; exact s_rd _ hd (rd_load_flatAgg id sz idx off s es e rfl hl hx hb he hc) h

theorem s_store_box {t bt : TypeId} {x y : Operand} {id off s : Nat} {bb : Bool} {cs cs' : List AV} {v : AV} (hl : lay C.P t = some (bb, s)) (hx : fr.ev x = .mptr id 0 0 off) (hy : fr.ev y = v) (hf : v.flat = true) (hs : v.cells.length = s) (hb : hp[id]? = some (.box bt cs)) (hc : off + s ≤ cs.length)
    (hv : spl cs off v.cells = cs') (h : TOps C ops l ⟨fr, hp.set id (.box bt cs')⟩ K) : TOps C ops (⟨none, .store t x y, ty, pos, after, none⟩ :: l) ⟨fr, hp⟩ K := by
  subst hv; exact tops_cons rfl (ok_store_box id off s bb cs v rfl rfl hl hx hy hf hs hb hc h)
theorem s_store_flat {t bt : TypeId} {x y : Operand} {id sz idx off s : Nat} {bb : Bool} {es : List D} {e v e' : D} (hl : lay C.P t = some (bb, s)) (hx : fr.ev x = .mptr id sz idx off) (hy : fr.ev y = .d v) (hs : v.cells.length = s) (hb : hp[id]? = some (.flat bt sz es)) (he : es[idx]? = some e)
    (hone : e.one = false ∨ v.one = true) (hc : off + s ≤ e.cells.length) (hv : e.upd off v = e') (h : TOps C ops l ⟨fr, hp.set id (.flat bt sz (es.set idx e'))⟩ K) : TOps C ops (⟨none, .store t x y, ty, pos, after, none⟩ :: l) ⟨fr, hp⟩ K := by
  subst hv; exact tops_cons rfl (ok_store_flat id sz idx off s bb es e v rfl rfl hl hx hy hs hb he hone hc h)

theorem s_alloc {t : TypeId} {z : Value} {cs : List AV} (hd : decide (d < C.n) = true) (hz : (C.P.info? t).bind (·.zero) = some z) (hf : (ofConst z).flat = true) (hc : (ofConst z).cells = cs) (h : TOps C ops l ⟨(d, .mptr hp.length 0 0 0) :: fr, hp ++ [.box t cs]⟩ K) :
    TOps C ops (⟨some d, .alloc t, ty, pos, after, none⟩ :: l) ⟨fr, hp⟩ K := by
  subst hc; exact tops_cons rfl (ok_alloc z rfl hd hz hf h)
theorem s_box {t : TypeId} {x : Operand} {v : AV} {cs : List AV} (hd : decide (d < C.n) = true) (hx : fr.ev x = v) (hf : v.flat = true) (hc : v.cells = cs) (h : TOps C ops l ⟨(d, .mptr hp.length 0 0 0) :: fr, hp ++ [.box t cs]⟩ K) : TOps C ops (⟨some d, .box t x, ty, pos, after, none⟩ :: l) ⟨fr, hp⟩ K := by
  subst hc; exact tops_cons rfl (ok_box v rfl hd hx hf h)

theorem s_fieldAddr_ptr {s : TypeId} {x : Operand} {f off fo : Nat} {e : D} (hd : decide (d < C.n) = true) (hl : fld C.P s f = some fo) (hx : fr.ev x = .d (.ptr e off)) (h : TOps C ops l ⟨(d, .d (.ptr e (off + fo))) :: fr, hp⟩ K) : TOps C ops (⟨some d, .fieldAddr s x f, ty, pos, after, none⟩ :: l) ⟨fr, hp⟩ K :=
  s_rd _ hd (rd_fieldAddr_ptr e off fo rfl hl hx) h
theorem s_fieldAddr_mptr {s : TypeId} {x : Operand} {f id sz idx off fo : Nat} (hd : decide (d < C.n) = true) (hl : fld C.P s f = some fo) (hx : fr.ev x = .mptr id sz idx off) (h : TOps C ops l ⟨(d, .mptr id sz idx (off + fo)) :: fr, hp⟩ K) : TOps C ops (⟨some d, .fieldAddr s x f, ty, pos, after, none⟩ :: l) ⟨fr, hp⟩ K :=
  s_rd _ hd (rd_fieldAddr_mptr id sz idx off fo rfl hl hx) h

theorem s_index_sl {t et : TypeId} {x y : Operand} {sz by' : Nat} {es : List D} {k : IntKind} {i : Int} {e : D} (hd : decide (d < C.n) = true) (hl : sel C.P t = some (et, sz, by')) (hx : fr.ev x = .d (.sl sz es)) (hy : fr.ev y = .d (.int k i)) (h0 : 0 ≤ i) (he : es[i.toNat]? = some e) (h : TOps C ops l ⟨(d, .d (.ptr e 0)) :: fr, hp⟩ K) :
    TOps C ops (⟨some d, .indexAddr t x y, ty, pos, after, none⟩ :: l) ⟨fr, hp⟩ K := s_rd _ hd (rd_indexAddr_sl sz by' es k i e rfl hl hx hy h0 he) h
theorem s_index_msl {t et : TypeId} {x y : Operand} {id sz by' off len j : Nat} {k : IntKind} {i : Int} (hd : decide (d < C.n) = true) (hl : sel C.P t = some (et, sz, by')) (hx : fr.ev x = .msl id sz off len) (hy : fr.ev y = .d (.int k i)) (h0 : 0 ≤ i) (h1 : i < len) (hj : off + i.toNat = j) (h : TOps C ops l ⟨(d, .mptr id sz j 0) :: fr, hp⟩ K) :
    TOps C ops (⟨some d, .indexAddr t x y, ty, pos, after, none⟩ :: l) ⟨fr, hp⟩ K := by
  subst hj; exact s_rd _ hd (rd_indexAddr_msl id sz by' off len k i rfl hl hx hy h0 h1) h

theorem s_cmp {op : BinOp} {t t' : TypeId} {x y : Operand} {k : IntKind} {m n : Int} {b : Bool} (hd : decide (d < C.n) = true) (hx : fr.ev x = .d (.int k m)) (hy : fr.ev y = .d (.int k n)) (hb : cmpInt op m n = some b) (h : TOps C ops l ⟨(d, .d (.bool b)) :: fr, hp⟩ K) :
    TOps C ops (⟨some d, .binOp op t x y t', ty, pos, after, none⟩ :: l) ⟨fr, hp⟩ K := s_rd _ hd (rd_cmp k m n b rfl hx hy hb) h

def arRaw (op : BinOp) (x y : Int) : Option Int :=
  match op with
  | .add => some (x + y)
  | .sub => some (x - y)
  | .mul => some (x * y)
  | _ => none

theorem wrap64 {n : Int} (h : -9223372036854775808 ≤ n ∧ n ≤ 9223372036854775807) : IntKind.i64.wrap n = n := by rw [IntKind.wrap_i64]; omega

theorem s_arith {op : BinOp} {t t' : TypeId} {x y : Operand} {m n r : Int} (hd : decide (d < C.n) = true) (hx : fr.ev x = .d (.int .i64 m)) (hy : fr.ev y = .d (.int .i64 n)) (hr : arRaw op m n = some r) (hb : -9223372036854775808 ≤ r ∧ r ≤ 9223372036854775807) (h : TOps C ops l ⟨(d, .d (.int .i64 r)) :: fr, hp⟩ K) :
    TOps C ops (⟨some d, .binOp op t x y t', ty, pos, after, none⟩ :: l) ⟨fr, hp⟩ K :=
  s_rd _ hd (rd_arith .i64 m n r rfl hx hy (by cases op <;> simp only [arRaw] at hr <;> cases hr <;> simp only [arInt, wrap64 hb])) h

theorem s_arithW {op : BinOp} {t t' : TypeId} {x y : Operand} {k : IntKind} {m n r : Int} (hd : decide (d < C.n) = true) (hx : fr.ev x = .d (.int k m)) (hy : fr.ev y = .d (.int k n)) (hr : arInt op k m n = some r) (h : TOps C ops l ⟨(d, .d (.int k r)) :: fr, hp⟩ K) :
    TOps C ops (⟨some d, .binOp op t x y t', ty, pos, after, none⟩ :: l) ⟨fr, hp⟩ K := s_rd _ hd (rd_arith k m n r rfl hx hy hr) h

theorem s_not {t : TypeId} {x : Operand} {b : Bool} (hd : decide (d < C.n) = true) (hx : fr.ev x = .d (.bool b)) (h : TOps C ops l ⟨(d, .d (.bool (!b))) :: fr, hp⟩ K) : TOps C ops (⟨some d, .unOp .not t x, ty, pos, after, none⟩ :: l) ⟨fr, hp⟩ K :=
  s_rd _ hd (rd_not b rfl hx) h

theorem s_nilCheck {x : Operand} {u : AV} (hd : decide (d < C.n) = true) (hx : fr.ev x = u) (hn : u.notNil = true) (h : TOps C ops l ⟨(d, u) :: fr, hp⟩ K) : TOps C ops (⟨some d, .nilCheck x, ty, pos, after, none⟩ :: l) ⟨fr, hp⟩ K := s_rd _ hd (rd_nilCheck u rfl hx hn) h

theorem s_extract {x : Operand} {i : Nat} {vs : List AV} {v : AV} (hd : decide (d < C.n) = true) (hx : fr.ev x = .tup vs) (hv : vs[i]? = some v) (h : TOps C ops l ⟨(d, v) :: fr, hp⟩ K) : TOps C ops (⟨some d, .extract x i, ty, pos, after, none⟩ :: l) ⟨fr, hp⟩ K := s_rd _ hd (rd_extract vs v rfl hx hv) h

theorem s_len {t et : TypeId} {x : Operand} {u : AV} {s by' n : Nat} (hd : decide (d < C.n) = true) (hl : sel C.P t = some (et, s, by')) (hx : fr.ev x = u) (hn : u.slLen = some n) (h : TOps C ops l ⟨(d, .d (.int .i64 n)) :: fr, hp⟩ K) :
    TOps C ops (⟨some d, .call { callee := .builtin .len, args := #[x], argTypes := #[t] }, ty, pos, after, none⟩ :: l) ⟨fr, hp⟩ K := s_rd _ hd (rd_len_sl u s by' n rfl hl hx hn) h
theorem s_lenStr {t : TypeId} {x : Operand} {s : ByteArray} (hd : decide (d < C.n) = true) (hl : C.P.underlying t = some .string) (hx : fr.ev x = .d (.str s)) (h : TOps C ops l ⟨(d, .d (.int .i64 s.size)) :: fr, hp⟩ K) :
    TOps C ops (⟨some d, .call { callee := .builtin .len, args := #[x], argTypes := #[t] }, ty, pos, after, none⟩ :: l) ⟨fr, hp⟩ K := s_rd _ hd (rd_len_str s rfl hl hx) h

theorem s_makeSlice {t e : TypeId} {x y : Operand} {sz by' : Nat} {n : Nat} {z : Value} {zd : D} (hd : decide (d < C.n) = true) (hl : sel C.P t = some (e, sz, by')) (hz : (C.P.info? e).bind (·.zero) = some z) (hzd : ofConst z = .d zd) (hzs : zd.cells.length = sz) (hx : fr.ev x = .d (.int .i64 n)) (hy : fr.ev y = .d (.int .i64 n))
    (hb : by' * n ≤ 281474976710656) (hm : n ≤ 9223372036854775807) (h : TOps C ops l ⟨(d, .msl hp.length sz 0 n) :: fr, hp ++ [.flat e sz (List.replicate n zd)]⟩ K) : TOps C ops (⟨some d, .makeSlice t x y, ty, pos, after, none⟩ :: l) ⟨fr, hp⟩ K :=
  tops_cons rfl (ok_makeSlice sz by' n z zd rfl hd hl hz hzd hzs hx hy (by omega) (by rw [← Int.natCast_mul]; omega) (by omega) (by simpa [St.put] using h))

theorem s_lit {t e : TypeId} {parts : Array (Nat × Operand)} {n sz by' : Nat} {ds : List D} {z : Value} (xs : List Operand) (hd : decide (d < C.n) = true) (hl : sel C.P t = some (e, sz, by')) (hz : (C.P.info? e).bind (·.zero) = some z) (hp' : denseParts parts xs) (hx : xs.map fr.ev = ds.map AV.d) (hn : ds.length = n)
    (hs : ∀ d ∈ ds, d.cells.length = sz) (hsmall : n * sz ≤ 16777216) (h : TOps C ops l ⟨(d, .msl hp.length sz 0 n) :: fr, hp ++ [.flat e sz ds]⟩ K) : TOps C ops (⟨some d, .buildSlice t n parts, ty, pos, after, none⟩ :: l) ⟨fr, hp⟩ K :=
  tops_cons rfl (ok_buildSlice sz by' xs ds z rfl hd hl hz hp' hx hn hs hsmall h)

theorem s_append_nil {t e : TypeId} {x y : Operand} {sz by' : Nat} {u : AV} {ds : List D} {z : Value} (hd : decide (d < C.n) = true) (hl : sel C.P t = some (e, sz, by')) (hz : (C.P.info? e).bind (·.zero) = some z) (hzs : z.cells.size = sz) (hx : fr.ev x = .d .nilsl) (hy : fr.ev y = u) (hu : SrcA hp sz ds u)
    (hlen : ds.length * by' ≤ 140737488355328) (hlen' : ds.length ≤ 9223372036854775807) (h : TOps C ops l ⟨(d, .msl hp.length sz 0 ds.length) :: fr, hp ++ [.flat e sz ds]⟩ K) :
    TOps C ops (⟨some d, .call { callee := .builtin .append, args := #[x, y], argTypes := #[t, t] }, ty, pos, after, none⟩ :: l) ⟨fr, hp⟩ K := tops_cons rfl (ok_append_nil sz by' u ds z rfl hd hl hz hx hy hu hlen hlen' hzs h)

theorem s_append {t e : TypeId} {x y : Operand} {id sz by' n m : Nat} {u : AV} {es ds es' : List D} {z : Value} {fr' : Fr} {hp1 : List Blk} (hd : decide (d < C.n) = true) (hl : sel C.P t = some (e, sz, by')) (hz : (C.P.info? e).bind (·.zero) = some z) (hzs : z.cells.size = sz) (hx : fr.ev x = .msl id sz 0 n) (hb : hp[id]? = some (.flat e sz es)) (hn : n = es.length) (hmv : id < C.k → C.mv id = true)
    (hy : fr.ev y = u) (hu : SrcA hp sz ds u) (hes : es ++ ds = es') (hm : es.length + ds.length = m) (hlen : m * by' ≤ 140737488355328) (hlen' : m ≤ 9223372036854775807) (hfr : Fr.mapRef (purge id) fr = fr') (hhp : hp.map (Blk.mapRef (purge id)) = hp1)
    (h : TOps C ops l ⟨(d, .msl id sz 0 m) :: fr', hp1.set id (.flat e sz es')⟩ K) :
    TOps C ops (⟨some d, .call { callee := .builtin .append, args := #[x, y], argTypes := #[t, t] }, ty, pos, after, none⟩ :: l) ⟨fr, hp⟩ K := by
  subst hes hm hfr hhp
  exact tops_cons rfl (ok_append_msl id sz by' n u es ds z rfl hd hl hz hzs hx hb hn hmv hy hu hlen hlen' h)

theorem s_copy {t u e : TypeId} {x y : Operand} {id sz by' off len n : Nat} {v : AV} {es ds es' : List D} (hd : decide (d < C.n) = true) (hl : sel C.P t = some (e, sz, by')) (hx : fr.ev x = .msl id sz off len) (hb : hp[id]? = some (.flat e sz es)) (hle : off + len ≤ es.length) (hy : fr.ev y = v) (hv : SrcA hp sz ds v) (hn : n = min ds.length len)
    (hes : spl es off (ds.take n) = es') (h : TOps C ops l ⟨(d, .d (.int .i64 n)) :: fr, hp.set id (.flat e sz es')⟩ K) : TOps C ops (⟨some d, .call { callee := .builtin .copy, args := #[x, y], argTypes := #[t, u] }, ty, pos, after, none⟩ :: l) ⟨fr, hp⟩ K := by
  subst hes; exact tops_cons rfl (ok_copy id sz by' off len n v es ds rfl hd hl hx hb hle hy hv hn h)

theorem s_cut {t e : TypeId} {x : Operand} {lo hi : Option Operand} {sz by' : Nat} {es es' : List D} {p q : Nat} (hd : decide (d < C.n) = true) (hl : sel C.P t = some (e, sz, by')) (hx : fr.ev x = .d (.sl sz es)) (hlo : bnd 0 (lo.map fr.ev) = some (p : Int)) (hhi : bnd es.length (hi.map fr.ev) = some (q : Int)) (h1 : p ≤ q) (h2 : q ≤ es.length)
    (hes : (es.drop p).take (q - p) = es') (h : TOps C ops l ⟨(d, .d (.sl sz es')) :: fr, hp⟩ K) : TOps C ops (⟨some d, .slice t x lo hi none, ty, pos, after, none⟩ :: l) ⟨fr, hp⟩ K := by
  subst hes; exact s_rd _ hd (rd_cut sz by' es p q rfl hl hx hlo hhi h1 h2) h

/-! ### Calls -/

theorem s_callD {f : Operand} {xs : Array Operand} {ts : Array TypeId} {F : FuncId} {mv : Nat → Bool} {ds : List D} {r r' : AV} {hp' hp2 : List Blk} (hd : decide (d < C.n) = true) (hf : fr.ev f = .d (.fn F)) (hx : xs.toList.map fr.ev = ds.map .d) (hret : Ret C.P F [] mv (ds.map .d) r hp') (hr : r.mapRef (shift hp.length) = r') (hh : hp'.map (Blk.mapRef (shift hp.length)) = hp2)
    (h : TOps C ops l ⟨(d, r') :: fr, hp ++ hp2⟩ K) : TOps C ops (⟨some d, .call { callee := .value f, args := xs, argTypes := ts }, ty, pos, after, none⟩ :: l) ⟨fr, hp⟩ K := by
  subst hr hh; exact tops_cons rfl (ok_callD ds r hp' rfl hd hf hx hret h)
theorem s_call {f : Operand} {xs : Array Operand} {ts : Array TypeId} {F : FuncId} {mv : Nat → Bool} {ds : List D} {r r' : AV} {hp' hp2 : List Blk} (hd : decide (d < C.n) = true) (hf : fr.ev f = .d (.fn F)) (hx : Snaps hp (xs.toList.map fr.ev) ds) (hret : Ret C.P F [] mv (ds.map .d) r hp') (hm : AMem0 r) (hm' : ∀ B ∈ hp', BMem0 B) (hr : r.mapRef (shift hp.length) = r') (hh : hp'.map (Blk.mapRef (shift hp.length)) = hp2)
    (h : TOps C ops l ⟨(d, r') :: fr, hp ++ hp2⟩ K) : TOps C ops (⟨some d, .call { callee := .value f, args := xs, argTypes := ts }, ty, pos, after, none⟩ :: l) ⟨fr, hp⟩ K := by
  subst hr hh; exact tops_cons rfl (ok_call ds r hp' rfl hd hf hx hret hm hm' h)

/-! ### Guards, splits -/

theorem s_yes {dst : Option Nat} {op : Op} {i t : Nat} {b : Bool} (ht : (ops[i]?).bind (·.dst) = some t) (htn : decide (t < C.n) = true) (hv : Fr.get fr t = .d (.bool b)) (h : TOps C ops (⟨dst, op, ty, pos, after, none⟩ :: l) ⟨fr, hp⟩ K) : TOps C ops (⟨dst, op, ty, pos, after, some (i, b)⟩ :: l) ⟨fr, hp⟩ K := by
  intro g a w hs
  have h1 := h g a w hs
  unfold wpList at h1 ⊢
  rw [if_pos (by simp [Region.wanted])] at h1
  rw [if_pos (by simp [Region.wanted, yielded_bool hs ht htn hv])]
  exact h1
theorem s_no {op : Op} {i t : Nat} {b : Bool} (hd : decide (d < C.n) = true) (ht : (ops[i]?).bind (·.dst) = some t) (htn : decide (t < C.n) = true) (hv : Fr.get fr t = .d (.bool (!b))) (h : TOps C ops l ⟨(d, .und) :: fr, hp⟩ K) : TOps C ops (⟨some d, op, ty, pos, after, some (i, b)⟩ :: l) ⟨fr, hp⟩ K :=
  tops_no t rfl ht htn hv hd h
theorem s_nor {op : Op} {i t : Nat} {b : Bool} (hd : decide (d < C.n) = true) (ht : (ops[i]?).bind (·.dst) = some t) (hv : Fr.get fr t = .und) (h : TOps C ops l ⟨(d, .und) :: fr, hp⟩ K) : TOps C ops (⟨some d, op, ty, pos, after, some (i, b)⟩ :: l) ⟨fr, hp⟩ K :=
  tops_nor t rfl ht hv hd h

theorem s_split (t : Nat) {b : Bool} (hv : Fr.get fr t = .d (.bool b)) (h1 : b = true → TOps C ops l ⟨(t, .d (.bool true)) :: fr, hp⟩ K) (h2 : b = false → TOps C ops l ⟨(t, .d (.bool false)) :: fr, hp⟩ K) : TOps C ops l ⟨fr, hp⟩ K := by
  intro g a w hs
  have hget : ∀ t', Fr.get ((t, .d (.bool b)) :: fr) t' = Fr.get fr t' := fun t' => by
    simp only [Fr.get]
    split
    · rename_i e; subst e; exact hv.symm
    · rfl
  have hs' : Sim C ⟨(t, .d (.bool b)) :: fr, hp⟩ g a w := { hs with fr := fun t' => by rw [hget]; exact hs.fr t' }
  cases b
  · exact h2 rfl g a w hs'
  · exact h1 rfl g a w hs'

end Go.TL
