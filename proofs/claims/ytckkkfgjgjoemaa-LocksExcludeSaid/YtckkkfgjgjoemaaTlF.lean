/- Trees in place of memory, part F: append onto a block of the call's own, cuts, copy, structs built. No condition. -/
import Derived.Test.YtckkkfgjgjoemaaTlE
namespace Go.TL

variable {C : Ctx} {st : St} {g : Gh} {a : Act} {w : World} {P : Program}

theorem Fr.get_purge (i : Nat) (fr : Fr) (t : Nat) : (Fr.mapRef (purge i) fr).get t = (fr.get t).mapRef (purge i) := Fr.get_mapRef _ fr t

theorem purge_hp (i : Nat) (j : Nat) {B : Blk} (h : st.hp[j]? = some B) : (st.purge i).hp[j]? = some (B.mapRef (purge i)) := by simp [St.purge, h]

/-- append onto a block of the call's own, all of which the slice covers: the block keeps its number; older roads to it are forgotten. -/
theorem ok_append_msl {o : Oper} {K : St → Prop} {t e : TypeId} {x y : Operand} (id sz by' n : Nat) (u : AV) (es ds : List D) (z : Value) (ho : o.op = .call { callee := .builtin .append, args := #[x, y], argTypes := #[t, t] }) (hd : dstOk C.n o.dst = true) (hl : sel C.P t = some (e, sz, by'))
    (hz : (C.P.info? e).bind (·.zero) = some z) (hzs : z.cells.size = sz) (hx : st.fr.ev x = .msl id sz 0 n) (hb : st.hp[id]? = some (.flat e sz es)) (hn : n = es.length) (hmv : id < C.k → C.mv id = true) (hy : st.fr.ev y = u) (hu : SrcA st.hp sz ds u)
    (hlen : (es.length + ds.length) * by' ≤ 140737488355328) (hlen' : es.length + ds.length ≤ 9223372036854775807)
    (hK : K (St.put ⟨(st.purge id).fr, (st.purge id).hp.set id (.flat e sz (es ++ ds))⟩ o.dst (.msl id sz 0 (es.length + ds.length)))) : OpOk C o st K :=
  OpOk.change fun g a w hsim => by
    obtain ⟨inf, hun, hi, hsz, hby⟩ := sel_inv hl
    obtain ⟨i', hi', hzero⟩ := zero_inv hz
    cases hi.symm.trans hi'
    have hid := (List.getElem?_eq_some_iff.1 hb).1
    have hvx := hsim.ev x
    rw [hx] at hvx
    have hvy := hsim.ev y
    rw [hy] at hvy
    have hsrc := src_ok hsim hvy hu
    have hblk := hsim.hp id _ hb
    have hpurge := hsim.purge id
    -- nothing appended
    have zero : ds = [] → (∃ ad cap, a.eval y = .slice ad 0 cap) → ∃ v w', (execOp a.eval o).run C.P w = .ok (.value v) w' ∧ Sat C K (a.put o.dst v) w' := by
      intro hds ⟨ad, cap, hey⟩
      subst hds
      have hexv : ∃ b cap', a.eval x = .slice b n cap' ∧ n ≤ cap' := by
        generalize a.eval x = vx at *
        cases hvx with
        | msl0 => exact ⟨_, _, rfl, Nat.le_refl _⟩
        | msl _ _ _ _ cap b h1 h2 h3 => exact ⟨_, _, rfl, h2⟩
      obtain ⟨b, cap', hex, hle⟩ := hexv
      have hr := run_append_zero hl w o.type b ad n cap' cap hle
      rw [← hex, ← hey] at hr
      refine ⟨_, _, run_exec_append ho hr, _, g, hK, Sim.put' ?_ hd (by simpa [hn] using hvx)⟩
      have hset : (st.purge id).hp.set id (.flat e sz (es ++ [])) = (st.purge id).hp := by
        apply List.ext_getElem?
        intro m
        rw [List.getElem?_set]
        split
        · rename_i hm
          subst hm
          rw [purge_hp id id hb, if_pos (by simpa [St.purge] using hid)]
          simp [Blk.mapRef]
        · rfl
      rw [hset]
      exact hpurge
    rcases hsrc with ⟨ad, cap, hey, hds⟩ | ⟨ad, cap, news, hey, n1, n2, n3, n4, n5, n6⟩
    · exact zero hds ⟨ad, cap, hey⟩
    by_cases hm : ds.length = 0
    · exact zero (List.eq_nil_of_length_eq_zero hm) ⟨some ad, cap, by rw [hm] at hey; exact hey⟩
    clear zero
    have hes : ∀ (i : Nat) (d : D), (es ++ ds)[i]? = some d → (i < es.length ∧ es[i]? = some d) ∨ (es.length ≤ i ∧ ds[i - es.length]? = some d) := by
      intro i d h
      rw [List.getElem?_append] at h
      split at h
      · exact .inl ⟨‹_›, h⟩
      · exact .inr ⟨by omega, h⟩
    -- the old cells, as a list
    have holds : ∃ olds : List Value, olds.length = es.length * sz ∧ (∀ (b : Nat) (cells : Array Value), g.phi id = some b → w.heap[b]? = some (.cells cells e (0, 0)) → ∀ (j : Nat) (u : Value), olds[j]? = some u → cells[j]? = some u) ∧
        (∀ (i : Nat) (d : D), es[i]? = some d → d.cells.length = sz) ∧ (∀ (i : Nat) (d : D) (j : Nat) (c : D), es[i]? = some d → d.cells[j]? = some c → c.one = true) ∧
        ∀ (i : Nat) (d : D) (j : Nat) (c : D), es[i]? = some d → d.cells[j]? = some c → ∃ v, olds[i * sz + j]? = some v ∧ DRep w g.X c v := by
      rcases hblk with ⟨he, hn'⟩ | ⟨b, cells, hp, hw, hpsi, hl', h0, h1, hr⟩
      · subst he; exact ⟨[], by simp, fun _ _ _ _ j u hu => by simp at hu, fun i d h => by simp at h, fun i d j c h => by simp at h, fun i d j c h => by simp at h⟩
      · obtain ⟨olds, o1, o2, _, o4⟩ := rows_of (w := w) (X := g.X) (fun m => cells[m]?) h0 h1 hr
        refine ⟨olds, o1, fun b' cells' hp' hw' j u hu => ?_, h0, h1, o4⟩
        cases hp.symm.trans hp'
        rw [hw] at hw'
        cases hw'
        exact o2 j u hu
    obtain ⟨olds, o1, o2, o3, o4, o5⟩ := holds
    have hsizes : ∀ (i : Nat) (d : D), (es ++ ds)[i]? = some d → d.cells.length = sz := fun i d h => by
      rcases hes i d h with ⟨_, h⟩ | ⟨_, h⟩
      · exact o3 i d h
      · exact n4 _ d h
    have hones : ∀ (i : Nat) (d : D) (j : Nat) (c : D), (es ++ ds)[i]? = some d → d.cells[j]? = some c → c.one = true := fun i d j c h hc => by
      rcases hes i d h with ⟨_, h⟩ | ⟨_, h⟩
      · exact o4 i d j c h hc
      · exact n5 _ d j c h hc
    have hlap : (es.length + ds.length) * sz = es.length * sz + ds.length * sz := Nat.add_mul _ _ _
    -- the cells of the whole, wherever they lie
    have hcells : ∀ f : Nat → Option Value, (∀ m, m < es.length * sz → f m = olds[m]?) → (∀ m, m < ds.length * sz → f (es.length * sz + m) = news[m]?) →
        ∀ (i : Nat) (d : D) (j : Nat) (c : D), (es ++ ds)[i]? = some d → d.cells[j]? = some c → ∃ v, f (i * sz + j) = some v ∧ DRep w g.X c v := by
      intro f f1 f2 i d j c h hc
      have hj : j < sz := by rw [← hsizes i d h]; exact (List.getElem?_eq_some_iff.1 hc).1
      rcases hes i d h with ⟨hlt, h⟩ | ⟨hge, h⟩
      · obtain ⟨v, hv, hd⟩ := o5 i d j c h hc
        exact ⟨v, by rw [f1 _ (by rw [← o1]; exact (List.getElem?_eq_some_iff.1 hv).1)]; exact hv, hd⟩
      · obtain ⟨v, hv, hd⟩ := n6 _ d j c h hc
        refine ⟨v, ?_, hd⟩
        have hsub : i * sz = es.length * sz + (i - es.length) * sz := by rw [← Nat.add_mul]; congr 1; omega
        rw [hsub, Nat.add_assoc, f2 _ (by rw [← n1]; exact (List.getElem?_eq_some_iff.1 hv).1)]
        exact hv
    -- a new block takes all
    have grown : ∀ (zs : Array Value) (cap' : Nat), es.length + ds.length ≤ cap' → zs.size = (cap' - (es.length + ds.length)) * sz →
        Sat C K (a.put o.dst (.slice (some ⟨w.heap.size, 0, none⟩) (es.length + ds.length) cap')) (w.drew.alloc (.cells (olds.toArray ++ news.toArray ++ zs) e)) := by
      intro zs cap' hcap hzz
      have hsd := hsim.drew
      have htot : (olds.toArray ++ news.toArray ++ zs).size = cap' * sz := by
        simp only [Array.size_append, List.size_toArray, o1, n1, hzz, ← Nat.add_mul]
        congr 1
        omega
      have hB : BRep (w.drew.alloc (.cells (olds.toArray ++ news.toArray ++ zs) e)) (g.new id w.heap.size (olds.toArray ++ news.toArray ++ zs).size) id (.flat e sz (es ++ ds)) := by
        refine .inr ⟨w.heap.size, _, by simp [Gh.new, upd], heap_alloc_new w.drew _, by simp [Gh.new, upd], ?_, hsizes, hones, fun i d j c h hc => ?_⟩
        · rw [htot, List.length_append]; exact Nat.mul_le_mul_right _ hcap
        · obtain ⟨v, hv, hd⟩ := hcells (fun m => (olds.toArray ++ news.toArray ++ zs)[m]?) (fun m hm => by rw [growCells, if_pos (by omega)]) (fun m hm => by rw [growCells, if_neg (by omega), if_pos (by omega)]; congr 1; omega) i d j c h hc
          exact ⟨v, hv, hd.mono (fun _ h => h) fun b hb => heap_push w.drew _ b (hsim.Xlt b hb)⟩
      have hmove := hsd.move (o := .cells (olds.toArray ++ news.toArray ++ zs) e) hid hmv hB
      refine ⟨_, _, hK, hmove.put' hd ?_⟩
      have := ARep.msl (w := w.drew.alloc (.cells (olds.toArray ++ news.toArray ++ zs) e)) (g := g.new id w.heap.size (olds.toArray ++ news.toArray ++ zs).size) id sz 0 (es.length + ds.length) cap' w.heap.size (by simp [Gh.new, upd]) hcap (by rw [Nat.zero_add]; show cap' * sz ≤ upd g.psi id _ id; rw [upd_same, htot]; exact Nat.le_refl _)
      simpa using this
    have hzsz : ∀ k, (Builtin.zeroCells z.cells k).size = k * sz := fun k => by rw [size_zeroCells, hzs]
    generalize hex : a.eval x = vx at hvx
    cases hvx with
    | msl0 _ _ _ ad0 =>
      have hes0 : es = [] := List.eq_nil_of_length_eq_zero hn.symm
      have holds0 : olds = [] := List.eq_nil_of_length_eq_zero (by rw [o1, hes0]; simp)
      have hgr := grown (Builtin.zeroCells z.cells (grownCap w ds.length 0 e - ds.length)) (grownCap w ds.length 0 e) (by rw [hes0]; simpa using grownCap_ge w ds.length 0 e) (by rw [hzsz, hes0]; simp)
      rw [hes0, holds0] at hgr
      simp only [List.length_nil, Nat.zero_add] at hgr hlen hlen' 
      rw [hes0] at hlen hlen'
      simp only [List.length_nil, Nat.zero_add] at hlen hlen'
      have he : (#[] : Array Value) ++ news.toArray ++ Builtin.zeroCells z.cells (grownCap w ds.length 0 e - ds.length) = news.toArray ++ Builtin.zeroCells z.cells (grownCap w ds.length 0 e - ds.length) := by simp
      rw [show ([] : List Value).toArray = #[] from rfl, he] at hgr
      cases ad0 with
      | none =>
        have hr := run_append_nil (P := C.P) w t o.type e inf z hun hi hzero ad ds.length cap news (by rw [n1, hsz]) n2 (by omega) (by omega) (by rw [hby]; omega)
        rw [← hex, ← hey] at hr
        exact ⟨_, _, run_exec_append ho hr, hgr⟩
      | some b0 =>
        have hr := run_append_grow (P := C.P) w t o.type e inf z hun hi hzero b0 0 0 [] (by simp) (fun j v hv => by simp at hv) ad ds.length cap news (by rw [n1, hsz]) n2 (by omega) (by omega)
          (by rw [hby, Nat.zero_add, nextslicecap_zero (by omega)]; omega)
        rw [← hex, ← hey] at hr
        simp only [Nat.zero_add] at hr
        rw [show ([] : List Value).toArray = #[] from rfl, he] at hr
        exact ⟨_, _, run_exec_append ho hr, hgr⟩
    | msl _ _ _ _ cap0 b hbp hc hpsz =>
      rw [Nat.zero_add] at hpsz
      rw [Nat.zero_mul] at hex
      rcases hblk with ⟨_, hn'⟩ | ⟨b', cells, hp', hw, hpsi, hl', h0, h1, hr0⟩
      · rw [hbp] at hn'; cases hn'
      cases hbp.symm.trans hp'
      have hold2 := o2 b cells hbp hw
      by_cases hroom : n + ds.length ≤ cap0
      · have hfit : n * inf.size + news.length ≤ cells.size := by
          rw [n1, hsz, ← Nat.add_mul, ← hpsi]
          exact Nat.le_trans (Nat.mul_le_mul_right _ hroom) hpsz
        have hr := run_append_room (P := C.P) w t o.type e inf hun hi b n cap0 cells hw ad ds.length cap news (by rw [n1, hsz]) n2 n3 hroom hfit
        rw [← hex, ← hey] at hr
        refine ⟨_, _, run_exec_append ho hr, _, g, hK, ?_⟩
        have hX : ∀ b', g.X b' → b' ≠ b := fun b' hX e => (hsim.lt id b hbp).2.2 (e ▸ hX)
        have hfit' : n * sz + news.length ≤ cells.size := by rw [hsz] at hfit; exact hfit
        have hget : ∀ m, m < n * sz + news.length → (cells.toList.take (n * inf.size) ++ news ++ cells.toList.drop (n * inf.size + news.length)).toArray[m]? = if m < n * sz then cells[m]? else news[m - n * sz]? := by
          intro m hm
          simp only [List.getElem?_toArray, List.getElem?_append, List.length_append, List.length_take, Array.length_toList, List.getElem?_take, Array.getElem?_toList, hsz]
          have hmin : min (n * sz) cells.size = n * sz := by omega
          rw [hmin, if_pos hm]
          by_cases m1 : m < n * sz
          · simp [m1]
          · simp [m1]
        have hchange := hpurge.change (i := id) (b := b) (purge_hp id id hb) (fun e => by cases e) hbp (w' := w.setRow b (cells.toList.take (n * inf.size) ++ news ++ cells.toList.drop (n * inf.size + news.length)).toArray) (setRow_size _ _ _) rfl rfl rfl (Nat.le_refl _) (fun b' hb' => setRow_other w b b' _ hb')
          (B := .flat e sz (es ++ ds)) (.inr ⟨b, _, hbp, setRow_heap w b cells _ e (0, 0) hw, ?_, ?_, hsizes, hones, fun i d j c h hc => ?_⟩)
        · refine hchange.put' hd ?_
          subst hn
          have := ARep.msl (w := w.setRow b (cells.toList.take (es.length * inf.size) ++ news ++ cells.toList.drop (es.length * inf.size + news.length)).toArray) (g := g) id sz 0 (es.length + ds.length) cap0 b hbp hroom (by simpa using hpsz)
          simpa using this
        · rw [hpsi]
          simp only [List.size_toArray, List.length_append, List.length_take, List.length_drop, Array.length_toList, hsz]
          omega
        · simp only [List.size_toArray, List.length_append, List.length_take, List.length_drop, Array.length_toList, hsz]
          rw [hlap]
          rw [hn, n1] at hfit'
          rw [hn, n1]
          omega
        · obtain ⟨v, hv, hd⟩ := hcells (fun m => (cells.toList.take (n * inf.size) ++ news ++ cells.toList.drop (n * inf.size + news.length)).toArray[m]?) (fun m hm => by
              rw [hget m (by rw [hn]; omega), if_pos (by rw [hn]; exact hm)]
              have hlt : m < olds.length := by rw [o1]; exact hm
              rw [List.getElem?_eq_getElem hlt]
              exact hold2 m _ (List.getElem?_eq_getElem hlt)) (fun m hm => by
              rw [hget _ (by rw [hn, n1]; omega), if_neg (by rw [hn]; omega)]; congr 1; rw [hn]; omega) i d j c h hc
          exact ⟨v, hv, hd.mono (fun _ h => h) fun b' hb' => setRow_other w b b' _ (hX b' hb')⟩
      · have hr := run_append_grow (P := C.P) w t o.type e inf z hun hi hzero ⟨b, 0, none⟩ n cap0 olds (by rw [o1, hsz, hn]) (fun j v hv => by
            rw [add_mk, cell_of_row w b _ cells e (0, 0) hw]; simpa using hold2 j v hv) ad ds.length cap news (by rw [n1, hsz]) n2 (by omega) (by omega)
          (by rw [hby]; exact growslice_fits (by omega) (by rw [hn]; exact hlen))
        rw [← hex, ← hey] at hr
        refine ⟨_, _, run_exec_append ho hr, ?_⟩
        rw [hn]
        exact grown _ _ (by simpa using grownCap_ge w (es.length + ds.length) cap0 e) (by rw [hzsz])

end Go.TL
