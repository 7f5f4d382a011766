/- Trees in place of memory, part 1: append in a drawn region; arrays compared; results in variables. No condition. -/
import Derived.Test.YtckkkfgjgjoemaaTlO
namespace Go.TL

variable {C : Ctx} {st : St} {g : Gh} {a : Act} {w : World} {P : Program}

/-! ### append, by what it does to the world -/

theorem core_append {o : Oper} {t e : TypeId} {x y : Operand} (id sz by' n : Nat) (es ds : List D) (z : Value) (ho : o.op = .call { callee := .builtin .append, args := #[x, y], argTypes := #[t, t] }) (hl : sel P t = some (e, sz, by'))
    (hz : (P.info? e).bind (·.zero) = some z) (hzs : z.cells.size = sz) (hvx : ARep w g (.msl id sz 0 n) (a.eval x)) (hblk : BRep w g id (.flat e sz es)) (hn : n = es.length) (hsrc : Src w g.X sz ds (a.eval y))
    (hlen : (es.length + ds.length) * by' ≤ 140737488355328) (hlen' : es.length + ds.length ≤ 9223372036854775807) :
    ∃ v w', (execOp a.eval o).run P w = .ok (.value v) w' ∧
      ((ds = [] ∧ v = a.eval x ∧ w' = w) ∨
       (∃ b cells cells' cap, g.phi id = some b ∧ w.heap[b]? = some (.cells cells e (0, 0)) ∧ g.psi id = cells.size ∧ cells'.size = cells.size ∧ v = .slice (some ⟨b, 0, none⟩) (es.length + ds.length) cap ∧ es.length + ds.length ≤ cap ∧ cap * sz ≤ cells.size ∧ w' = w.setRow b cells' ∧ RowOf w g.X sz (es ++ ds) cells') ∨
       (∃ cells' cap, v = .slice (some ⟨w.heap.size, 0, none⟩) (es.length + ds.length) cap ∧ es.length + ds.length ≤ cap ∧ cap * sz ≤ cells'.size ∧ w' = w.drew.alloc (.cells cells' e) ∧ RowOf w g.X sz (es ++ ds) cells')) := by
    obtain ⟨inf, hun, hi, hsz, hby⟩ := sel_inv hl
    obtain ⟨i', hi', hzero⟩ := zero_inv hz
    cases hi.symm.trans hi'
    have zero : ds = [] → (∃ ad cap, a.eval y = .slice ad 0 cap) → ∃ v w', (execOp a.eval o).run P w = .ok (.value v) w' ∧ (ds = [] ∧ v = a.eval x ∧ w' = w) := by
      intro hds ⟨ad, cap, hey⟩
      subst hds
      have hexv : ∃ b cap', a.eval x = .slice b n cap' ∧ n ≤ cap' := by
        generalize a.eval x = vx at *
        cases hvx with
        | msl0 => exact ⟨_, _, rfl, Nat.le_refl _⟩
        | msl _ _ _ _ cap b h1 h2 h3 => exact ⟨_, _, rfl, h2⟩
      obtain ⟨b, cap', hex, hle⟩ := hexv
      have hr := run_append_zero hl w o.type b ad n cap' cap hle
      rw [← hex, ← hey] at hr
      exact ⟨_, _, run_exec_append ho hr, rfl, rfl, rfl⟩
    rcases hsrc with ⟨ad, cap, hey, hds⟩ | ⟨ad, cap, news, hey, n1, n2, n3, n4, n5, n6⟩
    · obtain ⟨v, w', h1, h2⟩ := zero hds ⟨ad, cap, hey⟩; exact ⟨v, w', h1, .inl h2⟩
    by_cases hm : ds.length = 0
    · obtain ⟨v, w', h1, h2⟩ := zero (List.eq_nil_of_length_eq_zero hm) ⟨some ad, cap, by rw [hm] at hey; exact hey⟩; exact ⟨v, w', h1, .inl h2⟩
    clear zero
    have hes : ∀ (i : Nat) (d : D), (es ++ ds)[i]? = some d → (i < es.length ∧ es[i]? = some d) ∨ (es.length ≤ i ∧ ds[i - es.length]? = some d) := by
      intro i d h
      rw [List.getElem?_append] at h
      split at h
      · exact .inl ⟨‹_›, h⟩
      · exact .inr ⟨by omega, h⟩
    have holds : ∃ olds : List Value, olds.length = es.length * sz ∧ (∀ (b : Nat) (cells : Array Value), g.phi id = some b → w.heap[b]? = some (.cells cells e (0, 0)) → ∀ (j : Nat) (u : Value), olds[j]? = some u → cells[j]? = some u) ∧
        (∀ (i : Nat) (d : D), es[i]? = some d → d.cells.length = sz) ∧ (∀ (i : Nat) (d : D) (j : Nat) (c : D), es[i]? = some d → d.cells[j]? = some c → c.one = true) ∧
        ∀ (i : Nat) (d : D) (j : Nat) (c : D), es[i]? = some d → d.cells[j]? = some c → ∃ v, olds[i * sz + j]? = some v ∧ DRep w g.X c v := by
      rcases hblk with ⟨he, hn'⟩ | ⟨b, cells, hp, hw, hpsi, hl', h0, h1, hr⟩
      · subst he; exact ⟨[], by simp, fun _ _ _ _ j u hu => by simp at hu, fun i d h => by simp at h, fun i d j c h => by simp at h, fun i d j c h => by simp at h⟩
      · obtain ⟨olds, o1, o2, _, o4⟩ := rows_of (w := w) (X := g.X) (fun m => cells[m]?) h0 h1 hr
        refine ⟨olds, o1, fun b' cells' hp' hw' j u hu => ?_, h0, h1, o4⟩
        cases hp.symm.trans hp'
        rw [hw] at hw'
        cases hw'
        exact o2 j u hu
    obtain ⟨olds, o1, o2, o3, o4, o5⟩ := holds
    have hsizes : ∀ (i : Nat) (d : D), (es ++ ds)[i]? = some d → d.cells.length = sz := fun i d h => by
      rcases hes i d h with ⟨_, h⟩ | ⟨_, h⟩
      · exact o3 i d h
      · exact n4 _ d h
    have hones : ∀ (i : Nat) (d : D) (j : Nat) (c : D), (es ++ ds)[i]? = some d → d.cells[j]? = some c → c.one = true := fun i d j c h hc => by
      rcases hes i d h with ⟨_, h⟩ | ⟨_, h⟩
      · exact o4 i d j c h hc
      · exact n5 _ d j c h hc
    have hlap : (es.length + ds.length) * sz = es.length * sz + ds.length * sz := Nat.add_mul _ _ _
    have hcells : ∀ f : Nat → Option Value, (∀ m, m < es.length * sz → f m = olds[m]?) → (∀ m, m < ds.length * sz → f (es.length * sz + m) = news[m]?) →
        ∀ (i : Nat) (d : D) (j : Nat) (c : D), (es ++ ds)[i]? = some d → d.cells[j]? = some c → ∃ v, f (i * sz + j) = some v ∧ DRep w g.X c v := by
      intro f f1 f2 i d j c h hc
      have hj : j < sz := by rw [← hsizes i d h]; exact (List.getElem?_eq_some_iff.1 hc).1
      rcases hes i d h with ⟨hlt, h⟩ | ⟨hge, h⟩
      · obtain ⟨v, hv, hd⟩ := o5 i d j c h hc
        exact ⟨v, by rw [f1 _ (by rw [← o1]; exact (List.getElem?_eq_some_iff.1 hv).1)]; exact hv, hd⟩
      · obtain ⟨v, hv, hd⟩ := n6 _ d j c h hc
        refine ⟨v, ?_, hd⟩
        have hsub : i * sz = es.length * sz + (i - es.length) * sz := by rw [← Nat.add_mul]; congr 1; omega
        rw [hsub, Nat.add_assoc, f2 _ (by rw [← n1]; exact (List.getElem?_eq_some_iff.1 hv).1)]
        exact hv
    have grown : ∀ (zs : Array Value) (cap' : Nat), es.length + ds.length ≤ cap' → zs.size = (cap' - (es.length + ds.length)) * sz →
        cap' * sz ≤ (olds.toArray ++ news.toArray ++ zs).size ∧ RowOf w g.X sz (es ++ ds) (olds.toArray ++ news.toArray ++ zs) := by
      intro zs cap' hcap hzz
      have htot : (olds.toArray ++ news.toArray ++ zs).size = cap' * sz := by
        simp only [Array.size_append, List.size_toArray, o1, n1, hzz, ← Nat.add_mul]
        congr 1
        omega
      refine ⟨Nat.le_of_eq htot.symm, ?_, hsizes, hones, fun i d j c h hc => ?_⟩
      · rw [htot, List.length_append]; exact Nat.mul_le_mul_right _ hcap
      · exact hcells (fun m => (olds.toArray ++ news.toArray ++ zs)[m]?) (fun m hm => by rw [growCells, if_pos (by omega)]) (fun m hm => by rw [growCells, if_neg (by omega), if_pos (by omega)]; congr 1; omega) i d j c h hc
    have hzsz : ∀ k, (Builtin.zeroCells z.cells k).size = k * sz := fun k => by rw [size_zeroCells, hzs]
    generalize hex : a.eval x = vx at hvx
    cases hvx with
    | msl0 _ _ _ ad0 =>
      have hes0 : es = [] := List.eq_nil_of_length_eq_zero hn.symm
      have holds0 : olds = [] := List.eq_nil_of_length_eq_zero (by rw [o1, hes0]; simp)
      have hgr := grown (Builtin.zeroCells z.cells (grownCap w ds.length 0 e - ds.length)) (grownCap w ds.length 0 e) (by rw [hes0]; simpa using grownCap_ge w ds.length 0 e) (by rw [hzsz, hes0]; simp)
      have hcap : es.length + ds.length ≤ grownCap w ds.length 0 e := by rw [hes0]; simpa using grownCap_ge w ds.length 0 e
      rw [hes0, holds0] at hgr
      rw [hes0] at hlen hlen' hcap
      simp only [List.length_nil, Nat.zero_add] at hlen hlen' hcap
      have he : (#[] : Array Value) ++ news.toArray ++ Builtin.zeroCells z.cells (grownCap w ds.length 0 e - ds.length) = news.toArray ++ Builtin.zeroCells z.cells (grownCap w ds.length 0 e - ds.length) := by simp
      rw [show ([] : List Value).toArray = #[] from rfl, he] at hgr
      have fin : ∃ cells' cap, (Value.slice (some ⟨w.heap.size, 0, none⟩) ds.length (grownCap w ds.length 0 e)) = .slice (some ⟨w.heap.size, 0, none⟩) (es.length + ds.length) cap ∧ es.length + ds.length ≤ cap ∧ cap * sz ≤ cells'.size ∧ w.drew.alloc (.cells (news.toArray ++ Builtin.zeroCells z.cells (grownCap w ds.length 0 e - ds.length)) e) = w.drew.alloc (.cells cells' e) ∧ RowOf w g.X sz (es ++ ds) cells' :=
        ⟨_, _, by rw [hes0]; simp, by rw [hes0]; simpa using hcap, hgr.1, rfl, by rw [hes0]; exact hgr.2⟩
      cases ad0 with
      | none =>
        have hr := run_append_nil (P := P) w t o.type e inf z hun hi hzero ad ds.length cap news (by rw [n1, hsz]) n2 (by omega) (by omega) (by rw [hby]; omega)
        rw [← hex, ← hey] at hr
        exact ⟨_, _, run_exec_append ho hr, .inr (.inr fin)⟩
      | some b0 =>
        have hr := run_append_grow (P := P) w t o.type e inf z hun hi hzero b0 0 0 [] (by simp) (fun j v hv => by simp at hv) ad ds.length cap news (by rw [n1, hsz]) n2 (by omega) (by omega)
          (by rw [hby, Nat.zero_add, nextslicecap_zero (by omega)]; omega)
        rw [← hex, ← hey] at hr
        simp only [Nat.zero_add] at hr
        rw [show ([] : List Value).toArray = #[] from rfl, he] at hr
        exact ⟨_, _, run_exec_append ho hr, .inr (.inr fin)⟩
    | msl _ _ _ _ cap0 b hbp hc hpsz =>
      rw [Nat.zero_add] at hpsz
      rw [Nat.zero_mul] at hex
      rcases hblk with ⟨_, hn'⟩ | ⟨b', cells, hp', hw, hpsi, hl', h0, h1, hr0⟩
      · rw [hbp] at hn'; cases hn'
      cases hbp.symm.trans hp'
      have hold2 := o2 b cells hbp hw
      by_cases hroom : n + ds.length ≤ cap0
      · have hfit : n * inf.size + news.length ≤ cells.size := by
          rw [n1, hsz, ← Nat.add_mul, ← hpsi]
          exact Nat.le_trans (Nat.mul_le_mul_right _ hroom) hpsz
        have hr := run_append_room (P := P) w t o.type e inf hun hi b n cap0 cells hw ad ds.length cap news (by rw [n1, hsz]) n2 n3 hroom hfit
        rw [← hex, ← hey] at hr
        have hfit' : n * sz + news.length ≤ cells.size := by rw [hsz] at hfit; exact hfit
        have hget : ∀ m, m < n * sz + news.length → (cells.toList.take (n * inf.size) ++ news ++ cells.toList.drop (n * inf.size + news.length)).toArray[m]? = if m < n * sz then cells[m]? else news[m - n * sz]? := by
          intro m hm
          simp only [List.getElem?_toArray, List.getElem?_append, List.length_append, List.length_take, Array.length_toList, List.getElem?_take, Array.getElem?_toList, hsz]
          have hmin : min (n * sz) cells.size = n * sz := by omega
          rw [hmin, if_pos hm]
          by_cases m1 : m < n * sz
          · simp [m1]
          · simp [m1]
        refine ⟨_, _, run_exec_append ho hr, .inr (.inl ⟨b, cells, (cells.toList.take (n * inf.size) ++ news ++ cells.toList.drop (n * inf.size + news.length)).toArray, cap0, hbp, hw, hpsi, ?_, by rw [hn], by omega, by rw [← hpsi]; exact hpsz, rfl, ?_, hsizes, hones, ?_⟩)⟩
        · simp only [List.size_toArray, List.length_append, List.length_take, List.length_drop, Array.length_toList, hsz]
          omega
        · simp only [List.size_toArray, List.length_append, List.length_take, List.length_drop, Array.length_toList, hsz]
          rw [hlap]
          rw [hn, n1] at hfit'
          rw [hn, n1]
          omega
        · exact hcells (fun m => (cells.toList.take (n * inf.size) ++ news ++ cells.toList.drop (n * inf.size + news.length)).toArray[m]?) (fun m hm => by
              show (cells.toList.take (n * inf.size) ++ news ++ cells.toList.drop (n * inf.size + news.length)).toArray[m]? = _
              rw [hget m (by rw [hn]; omega), if_pos (by rw [hn]; exact hm)]
              have hlt : m < olds.length := by rw [o1]; exact hm
              rw [List.getElem?_eq_getElem hlt]
              exact hold2 m _ (List.getElem?_eq_getElem hlt)) (fun m hm => by
              show (cells.toList.take (n * inf.size) ++ news ++ cells.toList.drop (n * inf.size + news.length)).toArray[_]? = _
              rw [hget _ (by rw [hn, n1]; omega), if_neg (by rw [hn]; omega)]; congr 1; rw [hn]; omega)
      · have hr := run_append_grow (P := P) w t o.type e inf z hun hi hzero ⟨b, 0, none⟩ n cap0 olds (by rw [o1, hsz, hn]) (fun j v hv => by
            rw [add_mk, cell_of_row w b _ cells e (0, 0) hw]; simpa using hold2 j v hv) ad ds.length cap news (by rw [n1, hsz]) n2 (by omega) (by omega)
          (by rw [hby]; exact growslice_fits (by omega) (by rw [hn]; exact hlen))
        rw [← hex, ← hey] at hr
        refine ⟨_, _, run_exec_append ho hr, .inr (.inr ⟨_, _, by rw [hn], by simpa [hn] using grownCap_ge w (es.length + ds.length) cap0 e, ?_, rfl, ?_⟩)⟩
        · rw [hn]; exact (grown _ _ (by simpa using grownCap_ge w (es.length + ds.length) cap0 e) (by rw [hzsz])).1
        · rw [hn]; exact (grown _ _ (by simpa using grownCap_ge w (es.length + ds.length) cap0 e) (by rw [hzsz])).2

/-! ### The block moves to a hole -/

theorem Sim.kill (h : Sim C st g a w) (i : Nat) : Sim C ⟨st.fr, st.hp.set i .dead⟩ g a w := by
  refine { h with hp := fun j B hj => ?_, lt := fun j b hp => ?_, inj := fun j j' b Bj Bj' h1 h2 d1 d2 p1 p2 => ?_, kle := by simpa using h.kle }
  · rw [List.getElem?_set] at hj
    split at hj
    · split at hj
      · cases hj; trivial
      · cases hj
    · exact h.hp j B hj
  · have := h.lt j b hp; simpa using this
  · simp only [List.getElem?_set] at h1 h2
    split at h1
    · split at h1 <;> cases h1; exact absurd rfl d1
    split at h2
    · split at h2 <;> cases h2; exact absurd rfl d2
    exact h.inj j j' b Bj Bj' h1 h2 d1 d2 p1 p2

/-- Block 'i' takes the number 'N'; the old roads lead on to what is now nobody's. -/
theorem Sim.dup (h : Sim C st g a w) {i N : Nat} {B : Blk} (hi : st.hp[i]? = some B) (hd : B ≠ .dead) (hN : st.hp[N]? = some .hole) (hB : ∀ g' : Gh, g'.phi N = g.phi i → g'.psi N = g.psi i → g'.X = g.X → BRep w g i B → BRep w g' N B) (hne : i ≠ N) :
    ∃ g', Sim C ⟨st.fr, (st.hp.set i .dead).set N B⟩ g' a w ∧ Grow w g w g' ∧ g'.phi N = g.phi i ∧ g'.psi N = g.psi i ∧ g'.X = g.X := by
  have hno : g.phi N = none := h.hp N _ hN
  have hNl : N < st.hp.length := (List.getElem?_eq_some_iff.1 hN).1
  let g' : Gh := { phi := upd g.phi N (g.phi i), psi := upd g.psi N (g.psi i), X := g.X }
  have hphi : ∀ j b, g'.phi j = some b → (j = N ∧ g.phi i = some b) ∨ (j ≠ N ∧ g.phi j = some b) := by
    intro j b hp
    by_cases hj : j = N
    · subst hj; exact .inl ⟨rfl, by simpa [g', upd] using hp⟩
    · exact .inr ⟨hj, by simpa [g', upd, hj] using hp⟩
  have hg : Grow w g w g' := by
    refine ⟨fun j b hp => ?_, fun j b hp => ?_, fun _ h => h, fun _ _ => rfl⟩
    · have hj : j ≠ N := fun e => by subst e; rw [hno] at hp; cases hp
      simpa [g', upd, hj] using hp
    · have hj : j ≠ N := fun e => by subst e; rw [hno] at hp; cases hp
      simp [g', upd, hj]
  refine ⟨g', { h with fr := fun t => (h.fr t).mono hg, hp := fun j Bj hj => ?_, lt := fun j b hp => ?_, inj := fun j j' b Bj Bj' h1 h2 d1 d2 p1 p2 => ?_, own := fun j b hp hb => ?_, stay := fun j b hj hm hp => ?_, kle := by simpa using h.kle }, hg, by simp [g', upd], by simp [g', upd], rfl⟩
  · rw [List.getElem?_set] at hj
    split at hj
    · rename_i e; subst e
      split at hj
      · cases hj; exact hB g' (by simp [g', upd]) (by simp [g', upd]) rfl (h.hp i B hi)
      · cases hj
    · rename_i hjN
      rw [List.getElem?_set] at hj
      split at hj
      · split at hj
        · cases hj; trivial
        · cases hj
      · refine (h.hp j Bj hj).mono hg (fun hn => ?_) (fun _ _ => rfl)
        simpa [g', upd, show j ≠ N from fun e => hjN e.symm] using hn
  · simp only [List.length_set]
    rcases hphi j b hp with ⟨rfl, hp'⟩ | ⟨_, hp'⟩
    · have := h.lt i b hp'; exact ⟨this.1, hNl, this.2.2⟩
    · exact h.lt j b hp'
  · have key : ∀ (j : Nat) (Bj : Blk), ((st.hp.set i .dead).set N B)[j]? = some Bj → Bj ≠ .dead → j ≠ N → st.hp[j]? = some Bj ∧ j ≠ i := by
      intro j Bj hj hdj hjN
      rw [List.getElem?_set, if_neg (fun e => hjN e.symm), List.getElem?_set] at hj
      split at hj
      · split at hj <;> cases hj; exact absurd rfl hdj
      · exact ⟨hj, fun e => ‹¬ i = j› e.symm⟩
    rcases hphi j b p1 with ⟨rfl, q1⟩ | ⟨n1, q1⟩ <;> rcases hphi j' b p2 with ⟨rfl, q2⟩ | ⟨n2, q2⟩
    · rfl
    · obtain ⟨k1, k2⟩ := key j' Bj' h2 d2 n2
      exact absurd (h.inj j' i b Bj' B k1 hi d2 hd q2 q1) k2
    · obtain ⟨k1, k2⟩ := key j Bj h1 d1 n1
      exact absurd (h.inj j i b Bj B k1 hi d1 hd q1 q2) k2
    · exact h.inj j j' b Bj Bj' (key j Bj h1 d1 n1).1 (key j' Bj' h2 d2 n2).1 d1 d2 q1 q2
  · rcases hphi j b hp with ⟨rfl, hp'⟩ | ⟨_, hp'⟩
    · exact h.own i b hp' hb
    · exact h.own j b hp' hb
  · have hst := h.stay j b hj hm hp
    have hjN : j ≠ N := fun e => by subst e; rw [hno] at hst; cases hst.2
    simpa [g', upd, hjN] using hst

theorem SrcA.le {hp hp' : List Blk} (hle : HpLe hp hp') {sz : Nat} {ds : List D} {u : AV} (h : SrcA hp sz ds u) : SrcA hp' sz ds u := by
  cases u with
  | d x => cases x <;> exact h
  | msl id s off len => obtain ⟨h0, ty, es, h1, h2⟩ := h; exact ⟨h0, ty, es, hle _ _ h1 (fun e => by cases e), h2⟩
  | _ => exact h.elim

/-- append in a drawn region: what comes of it takes the number of a hole. -/
theorem w_appD {α : Type} {f : α → D} {T : Tab} {o : Oper} {ev : Operand → AV} {hp : List Blk} {t e sz by' n i N : Nat} {x y : Operand} {u : AV} {z : Value} {xs : List α} (ys : List α) (hN : hp[N]? = some .hole) (ho : o.op = .call { callee := .builtin .append, args := #[x, y], argTypes := #[t, t] })
    (hT : TabOk C.P T) (hl : lk T.sel t = some (e, sz, by')) (hz : (C.P.info? e).bind (·.zero) = some z) (hzs : Nat.beq z.cells.size sz = true) (hby : Nat.ble by' 100000 = true) (hx : ev x = .msl i sz 0 n) (hb : hp[i]? = some (.flat e sz (xs.map f))) (hn : n = xs.length)
    (hy : ev y = u) (hu : SrcA hp sz (ys.map f) u) (hg : (xs ++ ys).length ≤ 1000000000) : DOk C o ev hp (.msl N sz 0 (xs ++ ys).length) [(i, .dead), (N, .flat e sz ((xs ++ ys).map f))] :=
  DOk.mk fun st hhp hag g a w hs => by
    have hb' := hhp i _ hb (fun e => by cases e)
    have hN' := hole_at hN hhp
    have hne : i ≠ N := fun e => by rw [e, hN'] at hb'; cases hb'
    have hvx := hs.ev x
    rw [hag x (by simp [ho, Op.operands, Call.operands]), hx] at hvx
    have hvy := hs.ev y
    rw [hag y (by simp [ho, Op.operands, Call.operands]), hy] at hvy
    have hsrc := src_ok hs hvy (hu.le hhp)
    have h1 := Nat.le_of_ble_eq_true hby
    have h3 : (xs ++ ys).length * by' ≤ 1000000000 * 100000 := Nat.mul_le_mul hg h1
    rw [List.length_append] at h3 hg
    obtain ⟨v, w', hr, hc⟩ := core_append (P := C.P) i sz by' n (xs.map f) (ys.map f) z ho (hT.sel hl) hz (Nat.eq_of_beq_eq_true hzs) hvx (hs.hp i _ hb') (by simpa using hn) hsrc (by simp; omega) (by simp; omega)
    have hwr : wr [(i, .dead), (N, .flat e sz ((xs ++ ys).map f))] st.hp = (st.hp.set i .dead).set N (.flat e sz ((xs ++ ys).map f)) := rfl
    rw [hwr, List.map_append]
    have dupB : ∀ (es : List D) (g' : Gh), g'.phi N = g.phi i → g'.psi N = g.psi i → g'.X = g.X → BRep w g i (.flat e sz es) → BRep w g' N (.flat e sz es) := by
      intro es g' e1 e2 e3 hB
      unfold BRep at hB ⊢
      simp only [e1, e2, e3]
      exact hB
    rcases hc with ⟨hds, rfl, rfl⟩ | ⟨b, cells, cells', cap, hp0, hw, hpsi, hcs, rfl, hcap, hcapsz, rfl, row⟩ | ⟨cells', cap, rfl, hcap, hcapsz, rfl, row⟩
    · obtain ⟨g', h2, h4, e1, e2, e3⟩ := hs.dup hb' (fun e => by cases e) hN' (dupB _) hne
      refine ⟨_, _, g', hr, by rw [hds, List.append_nil]; exact h2, ?_⟩
      have hys : ys.length = 0 := by have := congrArg List.length hds; simpa using this
      rw [List.length_append, hys, Nat.add_zero, ← hn]
      generalize a.eval x = vx at hvx
      cases hvx with
      | msl0 => exact .msl0 _ _ _ _
      | msl _ _ _ _ cap b q1 q2 q3 => exact .msl _ _ _ _ cap b (by rw [e1]; exact q1) q2 (by rw [e2]; exact q3)
    · obtain ⟨g', h2, h4, e1, e2, e3⟩ := hs.dup hb' (fun e => by cases e) hN' (dupB _) hne
      have hX : ∀ b', g.X b' → b' ≠ b := fun b' hX e => (hs.lt i b hp0).2.2 (e ▸ hX)
      have hNl : N < st.hp.length := (List.getElem?_eq_some_iff.1 hN').1
      have hch := h2.change (i := N) (b := b) (B0 := .flat e sz (xs.map f)) (by simp [hNl]) (fun e => by cases e) (by rw [e1]; exact hp0) (w' := w.setRow b cells') (setRow_size _ _ _) rfl rfl rfl (Nat.le_refl _) (fun b' hb' => setRow_other w b b' _ hb')
        (B := .flat e sz (xs.map f ++ ys.map f)) (.inr ⟨b, cells', by rw [e1]; exact hp0, setRow_heap w b cells _ e (0, 0) hw, by rw [e2, hpsi, hcs], row.le, row.h0, row.h1, fun k d j c hk hc => ?_⟩)
      · refine ⟨_, _, g', hr, by simpa [List.set_set] using hch, ?_⟩
        have := ARep.msl (w := w.setRow b cells') (g := g') N sz 0 ((xs.map f).length + (ys.map f).length) cap b (by rw [e1]; exact hp0) hcap (by rw [e2, hpsi, Nat.zero_add]; exact hcapsz)
        simpa using this
      · obtain ⟨v, hv, hd⟩ := row.rep k d j c hk hc
        exact ⟨v, hv, hd.mono (by rw [e3]; exact fun _ h => h) fun b' hb' => setRow_other w b b' _ (hX b' (e3 ▸ hb'))⟩
    · have hk := (hs.kill i).drew
      have hN2 : (st.hp.set i .dead)[N]? = some .hole := by rw [List.getElem?_set, if_neg hne]; exact hN'
      have hno : g.phi N = none := hs.hp N _ hN'
      have hf := hk.fill (i := N) (o := .cells cells' e) (n := cells'.size) (B := .flat e sz (xs.map f ++ ys.map f)) hN2 (.inr ⟨w.heap.size, cells', by simp [Gh.new, upd], heap_alloc_new w.drew _, by simp [Gh.new, upd], row.le, row.h0, row.h1, fun k d j c hk hc => ?_⟩)
      · refine ⟨_, _, _, hr, hf, ?_⟩
        have := ARep.msl (w := w.drew.alloc (.cells cells' e)) (g := g.new N w.heap.size cells'.size) N sz 0 ((xs.map f).length + (ys.map f).length) cap w.heap.size (by simp [Gh.new, upd]) hcap (by simp only [Gh.new, upd, if_true, Nat.zero_add]; exact hcapsz)
        simpa using this
      · obtain ⟨v, hv, hd⟩ := row.rep k d j c hk hc
        exact ⟨v, hv, hd.mono (fun _ h => h) fun b' hb' => heap_push w.drew _ b' (hs.Xlt b' hb')⟩

/-! ### Arrays compared -/

/-- The kinds of the cells of an array of numbers, truths or strings. -/
def kindsA (P : Program) (t : TypeId) : Option (List TypeDesc) :=
  match P.underlying t with
  | some (.array n e) =>
    match kinds P 29 e with
    | some [k] => bif P.cellsOf e == 1 && P.cellsOf t == n then some (List.replicate n k) else none
    | _ => none
  | _ => none

theorem mapM_range' {β : Type} (f : Nat → Option β) : ∀ (l : List β) (k : Nat), (∀ i x, l[i]? = some x → f (k + i) = some x) → (List.range' k l.length).mapM f = some l
  | [], k, _ => rfl
  | x :: r, k, h => by
    rw [List.length_cons, List.range'_succ, List.mapM_cons, show f k = some x from h 0 x rfl, mapM_range' f r (k + 1) (fun i y hy => by have := h (i + 1) y hy; rwa [Nat.add_assoc, Nat.add_comm 1 i])]
    rfl

theorem flatten_single {β : Type} : ∀ l : List β, (l.map fun x => [x]).flatten = l
  | [] => rfl
  | x :: r => by simp [flatten_single r]

theorem litsOk_rep {k : TypeDesc} : ∀ {n : Nat} {L : List Lit}, litsOk (List.replicate n k) L → ∀ (i : Nat) (x : Lit), L[i]? = some x → litOk k x
  | 0, [], _, i, x, h => by simp at h
  | 0, _ :: _, h, _, _, _ => h.elim
  | n + 1, [], h, _, _, _ => h.elim
  | n + 1, y :: L, h, 0, x, hx => by simp at hx; subst hx; exact h.1
  | n + 1, y :: L, h, i + 1, x, hx => litsOk_rep (n := n) (L := L) h.2 i x (by simpa using hx)

theorem keyLits_arr {t : TypeId} {ks : List TypeDesc} {L : List Lit} (hk : kindsA P t = some ks) (hL : litsOk ks L) : P.keyLits 30 t (L.map litVal) = some L ∧ (∃ n e, P.underlying t = some (.array n e)) ∧ ks.length = P.cellsOf t := by
  unfold kindsA at hk
  split at hk
  · rename_i n e hu
    split at hk
    · rename_i k hke
      cases hb : (P.cellsOf e == 1 && P.cellsOf t == n) with
      | false => rw [hb] at hk; cases hk
      | true =>
        rw [hb] at hk
        cases hk
        simp only [Bool.and_eq_true, beq_iff_eq] at hb
        have hlen := litsOk_length hL
        rw [List.length_replicate] at hlen
        refine ⟨?_, ⟨n, e, hu⟩, by rw [List.length_replicate, hb.2]⟩
        unfold Program.keyLits
        simp only [hu, hb.1, Nat.mul_one]
        rw [if_pos (by rw [List.length_map, hlen, hb.2])]
        have hm : (List.range n).mapM (fun i => P.keyLits 29 e (((L.map litVal).drop i).take 1)) = some (L.map fun x => [x]) := by
          rw [List.range_eq_range', ← hlen, ← List.length_map (as := L) (fun x => [x])]
          refine mapM_range' _ _ 0 fun i x hx => ?_
          rw [List.getElem?_map, Option.map_eq_some_iff] at hx
          obtain ⟨l, hl, rfl⟩ := hx
          have e1 : ((L.map litVal).drop i).take 1 = [l].map litVal := by
            rw [List.drop_eq_getElem_cons (by rw [List.length_map]; exact (List.getElem?_eq_some_iff.1 hl).1)]
            simp [(List.getElem?_eq_some_iff.1 hl).2]
          rw [Nat.zero_add, e1]
          exact keyLits_of 29 e [k] [l] hke ⟨litsOk_rep hL i l hl, trivial⟩
        rw [hm]
        simp only [Option.map_some, Option.some.injEq]
        exact flatten_single L
    · cases hk
  · cases hk

theorem eqA_agg {o : Oper} {ev : Operand → AV} {hp : List Blk} {x y : Operand} {t t' : TypeId} {cs ds : List D} {L M : List Lit} {ks : List TypeDesc} {b : Bool} (ho : o.op = .binOp .eql t x y t' ∨ o.op = .binOp .neq t x y t') (hx : ev x = .d (.agg cs)) (hy : ev y = .d (.agg ds))
    (hk : kindsA C.P t = some ks) (hkt : (C.P.keyTypeAt 30 t && !C.P.eqGuardType C.P.depth t) = true) (hL : litsD cs = some L) (hM : litsD ds = some M) (h1 : litsOk ks L) (h2 : litsOk ks M)
    (hb : L = M ↔ b = true) : RdOk C o ev hp (.d (.bool (match o.op with | .binOp .neq _ _ _ _ => !b | _ => b))) :=
  RdOk.mk fun st hhp hag g a w hs => by
    simp only [Bool.and_eq_true, Bool.not_eq_true'] at hkt
    obtain ⟨hkt, hgd⟩ := hkt
    have open' : ∀ (z : Operand) (cs : List D) (L : List Lit), z ∈ o.op.operands → ev z = .d (.agg cs) → litsD cs = some L → a.eval z = .agg (L.map litVal).toArray := by
      intro z cs L hz he hl
      have h := hs.ev z
      rw [hag z hz, he] at h
      generalize a.eval z = v at *
      cases h with
      | d _ _ h =>
        cases h with
        | agg _ vs hlen _ h =>
          have := litsD_rep cs L vs.toList hl ⟨by simpa using hlen, fun i x y hx hy => h i x y hx (by simpa using hy)⟩
          rw [← this]
    have hxm : x ∈ o.op.operands := by rcases ho with ho | ho <;> simp [ho, Op.operands]
    have hym : y ∈ o.op.operands := by rcases ho with ho | ho <;> simp [ho, Op.operands]
    have e1 := open' x cs L hxm hx hL
    have e2 := open' y ds M hym hy hM
    have formed : ∀ N : List Lit, litsOk ks N → Value.formed C.P t (.agg (N.map litVal).toArray) = true := fun N hN => by
      have h3 := litsOk_length hN
      obtain ⟨_, ⟨n, e, hu⟩, h4⟩ := keyLits_arr hk hN
      simp [Value.formed, hu]; omega
    obtain ⟨r, hr, hiff⟩ := run_equalIn_deep (P := C.P) (10000 - 30) 30 t hkt w 30 30 _ _ L M (formed L h1) (formed M h2) (by simpa [Value.cells] using (keyLits_arr hk h1).1) (by simpa [Value.cells] using (keyLits_arr hk h2).1)
    have hrb : r = b := by cases r <;> cases b <;> simp_all
    subst hrb
    have heq : (Op.equal t (.agg (L.map litVal).toArray) (.agg (M.map litVal).toArray)).run C.P w = .ok r w := hr
    rcases ho with ho | ho
    · refine ⟨.bool r, ?_, ?_⟩
      · simp only [execOp, ho, e1, e2]
        simp [eqGuard, binOp, hgd, heq]
      · simp only [ho]; exact .d _ _ (.bool _)
    · refine ⟨.bool (!r), ?_, ?_⟩
      · simp only [execOp, ho, e1, e2]
        simp [eqGuard, binOp, hgd, heq]
      · simp only [ho]; exact .d _ _ (.bool _)

theorem eqA_yes {o : Oper} {ev : Operand → AV} {hp : List Blk} {x y : Operand} {t t' : TypeId} {cs ds : List D} {L M : List Lit} {ks : List TypeDesc} {b : Bool} (ho : o.op = .binOp .eql t x y t') (hx : ev x = .d (.agg cs)) (hy : ev y = .d (.agg ds))
    (hk : kindsA C.P t = some ks) (hkt : (C.P.keyTypeAt 30 t && !C.P.eqGuardType C.P.depth t) = true) (hL : litsD cs = some L) (hM : litsD ds = some M) (h1 : litsOk ks L) (h2 : litsOk ks M)
    (hb : L = M ↔ b = true) : RdOk C o ev hp (.d (.bool b)) := by
  have := eqA_agg (hp := hp) (.inl ho) hx hy hk hkt hL hM h1 h2 hb
  simpa only [ho] using this
theorem eqA_not {o : Oper} {ev : Operand → AV} {hp : List Blk} {x y : Operand} {t t' : TypeId} {cs ds : List D} {L M : List Lit} {ks : List TypeDesc} {b : Bool} (ho : o.op = .binOp .neq t x y t') (hx : ev x = .d (.agg cs)) (hy : ev y = .d (.agg ds))
    (hk : kindsA C.P t = some ks) (hkt : (C.P.keyTypeAt 30 t && !C.P.eqGuardType C.P.depth t) = true) (hL : litsD cs = some L) (hM : litsD ds = some M) (h1 : litsOk ks L) (h2 : litsOk ks M)
    (hb : L = M ↔ b = true) : RdOk C o ev hp (.d (.bool (!b))) := by
  have := eqA_agg (hp := hp) (.inr ho) hx hy hk hkt hL hM h1 h2 hb
  simpa only [ho] using this

/-! ### Results in variables -/

section ends
theorem EndsS.cellR {P : Program} {st : St} {a t id off s : Nat} {ty : TypeId} {cs : List AV} {T : Tab} (x : AV) {d : D} (hT : TabOk P T) (hl : lk T.lay t = some (true, s)) (ha : st.fr.get a = .mptr id 0 0 off) (hb : st.hp[id]? = some (.box ty cs)) (hc : Nat.ble (off + s) cs.length = true) (hv : mkAgg ((cs.drop off).take s) = x) (hs : Snap st.hp x d) : EndsS P [.cell a t] d st :=
  EndsS.cell x (hT.lay hl) ha hb hc hv hs
theorem EndsS.cell1 {P : Program} {st : St} {a t id off s : Nat} {ty : TypeId} {cs : List AV} {T : Tab} {x : AV} {d : D} (hT : TabOk P T) (hl : lk T.lay t = some (false, s)) (ha : st.fr.get a = .mptr id 0 0 off) (hb : st.hp[id]? = some (.box ty cs)) (hv : cs[off]? = some x) (hs : Snap st.hp x d) : EndsS P [.cell a t] d st :=
  ⟨_, d, .mk _ (.cons (.one (hT.lay hl) ha hb hv) .nil) rfl, hs, .refl _⟩
end ends

theorem callB_enters {G : FuncId} (hc : callB P G = true) (args : Array Value) (w : World) : (callFunc G args).run P w = .ok (.enter G args) w := by
  unfold callB at hc
  cases hfn : P.funcs[G]? with
  | none => simp [hfn] at hc
  | some fn =>
    simp only [hfn, Bool.and_eq_true, Bool.not_eq_true'] at hc
    have hb : fn.body.isNone = false := by cases h : fn.body <;> simp_all
    unfold callFunc
    simp only [Sem.run_bind, run_program, Result.andThen_ok, hfn]
    rw [if_neg (by rw [hc.1]; exact Bool.false_ne_true), if_neg (by rw [hb]; exact Bool.false_ne_true)]
    rfl

/-! ### Sorting, plainly -/

def ltM {α : Type} (m : α → α → Option Int) (x y : α) : Bool := decide ((m x y).getD 0 < 0)
/-- A comparison that always answers, and orders what differs. -/
structure SortOk {α : Type} (m : α → α → Option Int) : Prop where
  tot : ∀ x y, ∃ r, m x y = some r
  irrefl : ∀ x, ltM m x x = false
  trans : ∀ x y z, ltM m x y = true → ltM m y z = true → ltM m x z = true
  ntrans : ∀ x y z, ltM m x y = false → ltM m y z = false → ltM m x z = false
  anti : ∀ x y, ltM m x y = false → ltM m y x = false → x = y
def insM {α : Type} (m : α → α → Option Int) (x : α) : List α → List α
  | [] => [x]
  | y :: r => bif ltM m y x then y :: insM m x r else x :: y :: r
def sortM {α : Type} (m : α → α → Option Int) : List α → List α
  | [] => []
  | x :: r => insM m x (sortM m r)

section sort
variable {α : Type} {m : α → α → Option Int}
theorem insM_perm (x : α) : ∀ l, (insM m x l).Perm (x :: l)
  | [] => .refl _
  | y :: r => by
    unfold insM
    cases ltM m y x
    · exact .refl _
    · exact ((insM_perm x r).cons y).trans (.swap x y r)
theorem sortM_perm : ∀ l : List α, (sortM m l).Perm l
  | [] => .refl _
  | x :: r => (insM_perm x (sortM m r)).trans ((sortM_perm r).cons x)
theorem insM_sorted (h : SortOk m) (x : α) : ∀ l, l.Pairwise (fun a b => ltM m b a = false) → (insM m x l).Pairwise (fun a b => ltM m b a = false)
  | [], _ => by simp [insM]
  | y :: r, hp => by
    rw [List.pairwise_cons] at hp
    unfold insM
    cases hyx : ltM m y x
    · simp only [cond_false, List.pairwise_cons]
      refine ⟨fun b hb => ?_, hp.1, hp.2⟩
      rcases List.mem_cons.1 hb with rfl | hb
      · exact hyx
      · exact h.ntrans b y x (hp.1 b hb) hyx
    · simp only [cond_true, List.pairwise_cons]
      refine ⟨fun b hb => ?_, insM_sorted h x r hp.2⟩
      rcases List.mem_cons.1 ((insM_perm x r).mem_iff.1 hb) with rfl | hb
      · cases hxy : ltM m b y
        · rfl
        · have h3 := h.trans _ _ _ hxy hyx
          rw [h.irrefl] at h3; cases h3
      · exact hp.1 b hb
theorem sortM_sorted (h : SortOk m) : ∀ l, (sortM m l).Pairwise (fun a b => ltM m b a = false)
  | [] => .nil
  | x :: r => insM_sorted h x _ (sortM_sorted h r)
theorem sortM_length (l : List α) : (sortM m l).length = l.length := (sortM_perm l).length_eq
theorem sortM_merge (h : SortOk m) (l : List α) : l.mergeSort (fun x y => !ltM m y x) = sortM m l := by
  refine List.Perm.eq_of_pairwise (le := fun x y => ltM m y x = false) (fun a b _ _ h1 h2 => h.anti a b h2 h1) ?_ (sortM_sorted h l) ((List.mergeSort_perm _ _).trans (sortM_perm l).symm)
  have := List.pairwise_mergeSort (le := fun x y => !ltM m y x) (fun a b c h1 h2 => ?_) (fun a b => ?_) l
  · simpa using this
  · simp only [Bool.not_eq_true'] at h1 h2 ⊢; exact h.ntrans c b a h2 h1
  · cases h1 : ltM m b a
    · rfl
    · cases h2 : ltM m a b
      · rfl
      · have h3 := h.trans _ _ _ h1 h2
        rw [h.irrefl] at h3; cases h3
end sort

end Go.TL
