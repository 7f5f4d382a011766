/- Arguments of the program's types, read as structures of Lean's own. No condition. -/
import Derived.Test.YtckkkfgjgjoemaaGnU
import Derived.Test.YtckkkfgjgjoemaaTlN
import Derived.KernelRfl
set_option maxHeartbeats 400000
set_option linter.unusedSimpArgs false
set_option linter.unusedVariables false
set_option maxRecDepth 20000
namespace Go.Proofs.Ytckkkfgjgjoemaa
open Go Go.TL

theorem HasTy.fld {P : Program} {cs : List D} {fs : Array Field} (h2 : ∀ (i : Nat) (f : Field), fs[i]? = some f → HasTy P f.type ((cs.drop f.offset).take (P.cellsOf f.type))) {i off n : Nat} {f : Field} {t : TypeId} (hf : fs[i]? = some f) (ht : f.type = t) (ho : f.offset = off) (hc : P.cellsOf t = n) : HasTy P t ((cs.drop off).take n) := by
  have := h2 i f hf
  rw [ht, ho, hc] at this
  exact this
theorem ty9 (cs : List D) (h : HasTy Try.prog 9 cs) : ∃ x : ByteArray, (fun s => s.size ≤ reachBytes) x ∧ ofCellsD Try.prog 9 cs = D.str x := by
  obtain ⟨x, rfl, w⟩ := h.str_inv Try.underlying9
  exact ⟨x, w, by simp [ofCellsD, Try.underlying9]⟩
theorem ty3 (cs : List D) (h : HasTy Try.prog 3 cs) : ∃ x : Int, I64 x ∧ ofCellsD Try.prog 3 cs = (D.int .i64) x := by
  obtain ⟨x, rfl, w⟩ := h.int_inv Try.underlying3
  exact ⟨x, w, by simp [ofCellsD, Try.underlying3]⟩
theorem cells66 : Try.prog.cellsOf 66 = 3 := by kernel_rfl
theorem cells3 : Try.prog.cellsOf 3 = 1 := by kernel_rfl
theorem len_is3 {cs : List D} (h : cs.length = 3) : ∃ a0 a1 a2, cs = [a0, a1, a2] := by
  match cs, h with
  | [a0, a1, a2], _ => exact ⟨a0, a1, a2, rfl⟩
theorem ty66c (cs : List D) (h : HasTy Try.prog 66 cs) : ∃ x : Step, x.Wf ∧ cs = [.int .i64 x.el, .int .i64 x.inV, .int .i64 x.out] := by
  obtain ⟨h1, h2⟩ := h.struct_inv Try.underlying66
  rw [cells66] at h1
  obtain ⟨a0, a1, a2, rfl⟩ := len_is3 h1
  obtain ⟨x0, e0, w0⟩ := (show HasTy Try.prog 3 [a0] from HasTy.fld h2 (i := 0) rfl rfl rfl cells3).int_inv Try.underlying3
  replace e0 : [a0] = [D.int .i64 x0] := e0
  simp only [List.cons.injEq, and_true] at e0
  obtain ⟨x1, e1, w1⟩ := (show HasTy Try.prog 3 [a1] from HasTy.fld h2 (i := 1) rfl rfl rfl cells3).int_inv Try.underlying3
  replace e1 : [a1] = [D.int .i64 x1] := e1
  simp only [List.cons.injEq, and_true] at e1
  obtain ⟨x2, e2, w2⟩ := (show HasTy Try.prog 3 [a2] from HasTy.fld h2 (i := 2) rfl rfl rfl cells3).int_inv Try.underlying3
  replace e2 : [a2] = [D.int .i64 x2] := e2
  simp only [List.cons.injEq, and_true] at e2
  subst e0 e1 e2
  exact ⟨⟨x0, x1, x2⟩, ⟨w0, w1, w2⟩, rfl⟩
theorem ty66 (cs : List D) (h : HasTy Try.prog 66 cs) : ∃ x : Step, x.Wf ∧ ofCellsD Try.prog 66 cs = x.enc := by
  obtain ⟨x, w, rfl⟩ := ty66c cs h
  exact ⟨x, w, by simp [ofCellsD, Try.underlying66, Step.enc]⟩
theorem ty45 (cs : List D) (h : HasTy Try.prog 45 cs) : ∃ l : (List Step), (fun l => l.length ≤ reachBytes ∧ ∀ x ∈ l, Step.Wf x) l ∧ ofCellsD Try.prog 45 cs = (fun (l : List Step) => D.sl 3 (l.map Step.enc)) l := by
  obtain ⟨l, rfl, h1, h2⟩ := h.list Try.underlying45 Step.enc Step.Wf (fun cs _ h => ty66 cs h)
  exact ⟨l, ⟨h1, h2⟩, by simp [ofCellsD, Try.underlying45, cells66]⟩
theorem cells54 : Try.prog.cellsOf 54 = 2 := by kernel_rfl
theorem len_is2 {cs : List D} (h : cs.length = 2) : ∃ a0 a1, cs = [a0, a1] := by
  match cs, h with
  | [a0, a1], _ => exact ⟨a0, a1, rfl⟩
theorem ty54c (cs : List D) (h : HasTy Try.prog 54 cs) : ∃ x : Setting, x.Wf ∧ cs = [.int .i64 x.el, .int .i64 x.pos] := by
  obtain ⟨h1, h2⟩ := h.struct_inv Try.underlying54
  rw [cells54] at h1
  obtain ⟨a0, a1, rfl⟩ := len_is2 h1
  obtain ⟨x0, e0, w0⟩ := (show HasTy Try.prog 3 [a0] from HasTy.fld h2 (i := 0) rfl rfl rfl cells3).int_inv Try.underlying3
  replace e0 : [a0] = [D.int .i64 x0] := e0
  simp only [List.cons.injEq, and_true] at e0
  obtain ⟨x1, e1, w1⟩ := (show HasTy Try.prog 3 [a1] from HasTy.fld h2 (i := 1) rfl rfl rfl cells3).int_inv Try.underlying3
  replace e1 : [a1] = [D.int .i64 x1] := e1
  simp only [List.cons.injEq, and_true] at e1
  subst e0 e1
  exact ⟨⟨x0, x1⟩, ⟨w0, w1⟩, rfl⟩
theorem ty54 (cs : List D) (h : HasTy Try.prog 54 cs) : ∃ x : Setting, x.Wf ∧ ofCellsD Try.prog 54 cs = x.enc := by
  obtain ⟨x, w, rfl⟩ := ty54c cs h
  exact ⟨x, w, by simp [ofCellsD, Try.underlying54, Setting.enc]⟩
theorem ty34 (cs : List D) (h : HasTy Try.prog 34 cs) : ∃ l : (List Setting), (fun l => l.length ≤ reachBytes ∧ ∀ x ∈ l, Setting.Wf x) l ∧ ofCellsD Try.prog 34 cs = (fun (l : List Setting) => D.sl 2 (l.map Setting.enc)) l := by
  obtain ⟨l, rfl, h1, h2⟩ := h.list Try.underlying34 Setting.enc Setting.Wf (fun cs _ h => ty54 cs h)
  exact ⟨l, ⟨h1, h2⟩, by simp [ofCellsD, Try.underlying34, cells54]⟩
theorem ty23 (cs : List D) (h : HasTy Try.prog 23 cs) : ∃ l : (List Int), (fun l => l.length ≤ reachBytes ∧ ∀ x ∈ l, I64 x) l ∧ ofCellsD Try.prog 23 cs = (fun (l : List Int) => D.sl 1 (l.map (D.int .i64))) l := by
  obtain ⟨l, rfl, h1, h2⟩ := h.list Try.underlying23 (D.int .i64) I64 (fun cs _ h => ty3 cs h)
  exact ⟨l, ⟨h1, h2⟩, by simp [ofCellsD, Try.underlying23, cells3]⟩
theorem cells136 : Try.prog.cellsOf 136 = 2 := by kernel_rfl
theorem ty136c (cs : List D) (h : HasTy Try.prog 136 cs) : ∃ x : End, x.Wf ∧ cs = [.int .i64 x.el, .int .i64 x.side] := by
  obtain ⟨h1, h2⟩ := h.struct_inv Try.underlying136
  rw [cells136] at h1
  obtain ⟨a0, a1, rfl⟩ := len_is2 h1
  obtain ⟨x0, e0, w0⟩ := (show HasTy Try.prog 3 [a0] from HasTy.fld h2 (i := 0) rfl rfl rfl cells3).int_inv Try.underlying3
  replace e0 : [a0] = [D.int .i64 x0] := e0
  simp only [List.cons.injEq, and_true] at e0
  obtain ⟨x1, e1, w1⟩ := (show HasTy Try.prog 3 [a1] from HasTy.fld h2 (i := 1) rfl rfl rfl cells3).int_inv Try.underlying3
  replace e1 : [a1] = [D.int .i64 x1] := e1
  simp only [List.cons.injEq, and_true] at e1
  subst e0 e1
  exact ⟨⟨x0, x1⟩, ⟨w0, w1⟩, rfl⟩
theorem ty136 (cs : List D) (h : HasTy Try.prog 136 cs) : ∃ x : End, x.Wf ∧ ofCellsD Try.prog 136 cs = x.enc := by
  obtain ⟨x, w, rfl⟩ := ty136c cs h
  exact ⟨x, w, by simp [ofCellsD, Try.underlying136, End.enc]⟩
theorem ty46 (cs : List D) (h : HasTy Try.prog 46 cs) : ∃ l : (List End), (fun l => l.length ≤ reachBytes ∧ ∀ x ∈ l, End.Wf x) l ∧ ofCellsD Try.prog 46 cs = (fun (l : List End) => D.sl 2 (l.map End.enc)) l := by
  obtain ⟨l, rfl, h1, h2⟩ := h.list Try.underlying46 End.enc End.Wf (fun cs _ h => ty136 cs h)
  exact ⟨l, ⟨h1, h2⟩, by simp [ofCellsD, Try.underlying46, cells136]⟩
theorem cells48 : Try.prog.cellsOf 48 = 14 := by kernel_rfl
theorem cells9 : Try.prog.cellsOf 9 = 1 := by kernel_rfl
theorem cells45 : Try.prog.cellsOf 45 = 1 := by kernel_rfl
theorem cells34 : Try.prog.cellsOf 34 = 1 := by kernel_rfl
theorem cells23 : Try.prog.cellsOf 23 = 1 := by kernel_rfl
theorem cells46 : Try.prog.cellsOf 46 = 1 := by kernel_rfl
theorem len_is14 {cs : List D} (h : cs.length = 14) : ∃ a0 a1 a2 a3 a4 a5 a6 a7 a8 a9 a10 a11 a12 a13, cs = [a0, a1, a2, a3, a4, a5, a6, a7, a8, a9, a10, a11, a12, a13] := by
  match cs, h with
  | [a0, a1, a2, a3, a4, a5, a6, a7, a8, a9, a10, a11, a12, a13], _ => exact ⟨a0, a1, a2, a3, a4, a5, a6, a7, a8, a9, a10, a11, a12, a13, rfl⟩
theorem ty48c (cs : List D) (h : HasTy Try.prog 48 cs) : ∃ x : Route, x.Wf ∧ cs = [.str x.name, .int .i64 x.entry, .int .i64 x.exit, .sl 3 (x.path.map Step.enc), .sl 2 (x.points.map Setting.enc), .sl 1 (x.sections.map (D.int .i64)), .int .i64 x.approach, .int .i64 x.length, .sl 3 (x.over.map Step.enc), .sl 2 (x.overPoints.map Setting.enc), .sl 1 (x.overSections.map (D.int .i64)), .sl 2 (x.flank.map Setting.enc), .sl 1 (x.guards.map (D.int .i64)), .sl 2 (x.gaps.map End.enc)] := by
  obtain ⟨h1, h2⟩ := h.struct_inv Try.underlying48
  rw [cells48] at h1
  obtain ⟨a0, a1, a2, a3, a4, a5, a6, a7, a8, a9, a10, a11, a12, a13, rfl⟩ := len_is14 h1
  obtain ⟨x0, e0, w0⟩ := (show HasTy Try.prog 9 [a0] from HasTy.fld h2 (i := 0) rfl rfl rfl cells9).str_inv Try.underlying9
  replace e0 : [a0] = [D.str x0] := e0
  simp only [List.cons.injEq, and_true] at e0
  obtain ⟨x1, e1, w1⟩ := (show HasTy Try.prog 3 [a1] from HasTy.fld h2 (i := 1) rfl rfl rfl cells3).int_inv Try.underlying3
  replace e1 : [a1] = [D.int .i64 x1] := e1
  simp only [List.cons.injEq, and_true] at e1
  obtain ⟨x2, e2, w2⟩ := (show HasTy Try.prog 3 [a2] from HasTy.fld h2 (i := 2) rfl rfl rfl cells3).int_inv Try.underlying3
  replace e2 : [a2] = [D.int .i64 x2] := e2
  simp only [List.cons.injEq, and_true] at e2
  obtain ⟨x3, e3, l3, m3⟩ := (show HasTy Try.prog 45 [a3] from HasTy.fld h2 (i := 3) rfl rfl rfl cells45).list Try.underlying45 Step.enc Step.Wf (fun cs _ h => ty66 cs h)
  rw [cells66] at e3
  have w3 := And.intro l3 m3
  replace e3 : [a3] = [D.sl 3 (x3.map Step.enc)] := e3
  simp only [List.cons.injEq, and_true] at e3
  obtain ⟨x4, e4, l4, m4⟩ := (show HasTy Try.prog 34 [a4] from HasTy.fld h2 (i := 4) rfl rfl rfl cells34).list Try.underlying34 Setting.enc Setting.Wf (fun cs _ h => ty54 cs h)
  rw [cells54] at e4
  have w4 := And.intro l4 m4
  replace e4 : [a4] = [D.sl 2 (x4.map Setting.enc)] := e4
  simp only [List.cons.injEq, and_true] at e4
  obtain ⟨x5, e5, l5, m5⟩ := (show HasTy Try.prog 23 [a5] from HasTy.fld h2 (i := 5) rfl rfl rfl cells23).list Try.underlying23 (D.int .i64) I64 (fun cs _ h => ty3 cs h)
  rw [cells3] at e5
  have w5 := And.intro l5 m5
  replace e5 : [a5] = [D.sl 1 (x5.map (D.int .i64))] := e5
  simp only [List.cons.injEq, and_true] at e5
  obtain ⟨x6, e6, w6⟩ := (show HasTy Try.prog 3 [a6] from HasTy.fld h2 (i := 6) rfl rfl rfl cells3).int_inv Try.underlying3
  replace e6 : [a6] = [D.int .i64 x6] := e6
  simp only [List.cons.injEq, and_true] at e6
  obtain ⟨x7, e7, w7⟩ := (show HasTy Try.prog 3 [a7] from HasTy.fld h2 (i := 7) rfl rfl rfl cells3).int_inv Try.underlying3
  replace e7 : [a7] = [D.int .i64 x7] := e7
  simp only [List.cons.injEq, and_true] at e7
  obtain ⟨x8, e8, l8, m8⟩ := (show HasTy Try.prog 45 [a8] from HasTy.fld h2 (i := 8) rfl rfl rfl cells45).list Try.underlying45 Step.enc Step.Wf (fun cs _ h => ty66 cs h)
  rw [cells66] at e8
  have w8 := And.intro l8 m8
  replace e8 : [a8] = [D.sl 3 (x8.map Step.enc)] := e8
  simp only [List.cons.injEq, and_true] at e8
  obtain ⟨x9, e9, l9, m9⟩ := (show HasTy Try.prog 34 [a9] from HasTy.fld h2 (i := 9) rfl rfl rfl cells34).list Try.underlying34 Setting.enc Setting.Wf (fun cs _ h => ty54 cs h)
  rw [cells54] at e9
  have w9 := And.intro l9 m9
  replace e9 : [a9] = [D.sl 2 (x9.map Setting.enc)] := e9
  simp only [List.cons.injEq, and_true] at e9
  obtain ⟨x10, e10, l10, m10⟩ := (show HasTy Try.prog 23 [a10] from HasTy.fld h2 (i := 10) rfl rfl rfl cells23).list Try.underlying23 (D.int .i64) I64 (fun cs _ h => ty3 cs h)
  rw [cells3] at e10
  have w10 := And.intro l10 m10
  replace e10 : [a10] = [D.sl 1 (x10.map (D.int .i64))] := e10
  simp only [List.cons.injEq, and_true] at e10
  obtain ⟨x11, e11, l11, m11⟩ := (show HasTy Try.prog 34 [a11] from HasTy.fld h2 (i := 11) rfl rfl rfl cells34).list Try.underlying34 Setting.enc Setting.Wf (fun cs _ h => ty54 cs h)
  rw [cells54] at e11
  have w11 := And.intro l11 m11
  replace e11 : [a11] = [D.sl 2 (x11.map Setting.enc)] := e11
  simp only [List.cons.injEq, and_true] at e11
  obtain ⟨x12, e12, l12, m12⟩ := (show HasTy Try.prog 23 [a12] from HasTy.fld h2 (i := 12) rfl rfl rfl cells23).list Try.underlying23 (D.int .i64) I64 (fun cs _ h => ty3 cs h)
  rw [cells3] at e12
  have w12 := And.intro l12 m12
  replace e12 : [a12] = [D.sl 1 (x12.map (D.int .i64))] := e12
  simp only [List.cons.injEq, and_true] at e12
  obtain ⟨x13, e13, l13, m13⟩ := (show HasTy Try.prog 46 [a13] from HasTy.fld h2 (i := 13) rfl rfl rfl cells46).list Try.underlying46 End.enc End.Wf (fun cs _ h => ty136 cs h)
  rw [cells136] at e13
  have w13 := And.intro l13 m13
  replace e13 : [a13] = [D.sl 2 (x13.map End.enc)] := e13
  simp only [List.cons.injEq, and_true] at e13
  subst e0 e1 e2 e3 e4 e5 e6 e7 e8 e9 e10 e11 e12 e13
  exact ⟨⟨x0, x1, x2, x3, x4, x5, x6, x7, x8, x9, x10, x11, x12, x13⟩, ⟨w0, w1, w2, w3, w4, w5, w6, w7, w8, w9, w10, w11, w12, w13⟩, rfl⟩
theorem ty48 (cs : List D) (h : HasTy Try.prog 48 cs) : ∃ x : Route, x.Wf ∧ ofCellsD Try.prog 48 cs = x.enc := by
  obtain ⟨x, w, rfl⟩ := ty48c cs h
  exact ⟨x, w, by simp [ofCellsD, Try.underlying48, Route.enc]⟩
theorem ty22 (cs : List D) (h : HasTy Try.prog 22 cs) : ∃ l : (List Route), (fun l => l.length ≤ reachBytes ∧ ∀ x ∈ l, Route.Wf x) l ∧ ofCellsD Try.prog 22 cs = (fun (l : List Route) => D.sl 14 (l.map Route.enc)) l := by
  obtain ⟨l, rfl, h1, h2⟩ := h.list Try.underlying22 Route.enc Route.Wf (fun cs _ h => ty48 cs h)
  exact ⟨l, ⟨h1, h2⟩, by simp [ofCellsD, Try.underlying22, cells48]⟩
theorem cells25 : Try.prog.cellsOf 25 = 5 := by kernel_rfl
theorem cells22 : Try.prog.cellsOf 22 = 1 := by kernel_rfl
theorem len_is5 {cs : List D} (h : cs.length = 5) : ∃ a0 a1 a2 a3 a4, cs = [a0, a1, a2, a3, a4] := by
  match cs, h with
  | [a0, a1, a2, a3, a4], _ => exact ⟨a0, a1, a2, a3, a4, rfl⟩
theorem ty25c (cs : List D) (h : HasTy Try.prog 25 cs) : ∃ x : Table, x.Wf ∧ cs = [.sl 14 (x.routes.map Route.enc), .sl 1 (x.points.map (D.int .i64)), .sl 1 (x.homes.map (D.int .i64)), .int .i64 x.sections, .int .i64 x.signals] := by
  obtain ⟨h1, h2⟩ := h.struct_inv Try.underlying25
  rw [cells25] at h1
  obtain ⟨a0, a1, a2, a3, a4, rfl⟩ := len_is5 h1
  obtain ⟨x0, e0, l0, m0⟩ := (show HasTy Try.prog 22 [a0] from HasTy.fld h2 (i := 0) rfl rfl rfl cells22).list Try.underlying22 Route.enc Route.Wf (fun cs _ h => ty48 cs h)
  rw [cells48] at e0
  have w0 := And.intro l0 m0
  replace e0 : [a0] = [D.sl 14 (x0.map Route.enc)] := e0
  simp only [List.cons.injEq, and_true] at e0
  obtain ⟨x1, e1, l1, m1⟩ := (show HasTy Try.prog 23 [a1] from HasTy.fld h2 (i := 1) rfl rfl rfl cells23).list Try.underlying23 (D.int .i64) I64 (fun cs _ h => ty3 cs h)
  rw [cells3] at e1
  have w1 := And.intro l1 m1
  replace e1 : [a1] = [D.sl 1 (x1.map (D.int .i64))] := e1
  simp only [List.cons.injEq, and_true] at e1
  obtain ⟨x2, e2, l2, m2⟩ := (show HasTy Try.prog 23 [a2] from HasTy.fld h2 (i := 2) rfl rfl rfl cells23).list Try.underlying23 (D.int .i64) I64 (fun cs _ h => ty3 cs h)
  rw [cells3] at e2
  have w2 := And.intro l2 m2
  replace e2 : [a2] = [D.sl 1 (x2.map (D.int .i64))] := e2
  simp only [List.cons.injEq, and_true] at e2
  obtain ⟨x3, e3, w3⟩ := (show HasTy Try.prog 3 [a3] from HasTy.fld h2 (i := 3) rfl rfl rfl cells3).int_inv Try.underlying3
  replace e3 : [a3] = [D.int .i64 x3] := e3
  simp only [List.cons.injEq, and_true] at e3
  obtain ⟨x4, e4, w4⟩ := (show HasTy Try.prog 3 [a4] from HasTy.fld h2 (i := 4) rfl rfl rfl cells3).int_inv Try.underlying3
  replace e4 : [a4] = [D.int .i64 x4] := e4
  simp only [List.cons.injEq, and_true] at e4
  subst e0 e1 e2 e3 e4
  exact ⟨⟨x0, x1, x2, x3, x4⟩, ⟨w0, w1, w2, w3, w4⟩, rfl⟩
theorem ty25 (cs : List D) (h : HasTy Try.prog 25 cs) : ∃ x : Table, x.Wf ∧ ofCellsD Try.prog 25 cs = x.enc := by
  obtain ⟨x, w, rfl⟩ := ty25c cs h
  exact ⟨x, w, by simp [ofCellsD, Try.underlying25, Table.enc]⟩
theorem cells44 : Try.prog.cellsOf 44 = 3 := by kernel_rfl
theorem ty44c (cs : List D) (h : HasTy Try.prog 44 cs) : ∃ x : RouteState, x.Wf ∧ cs = [.int .i64 x.state, .int .i64 x.rel, .int .i64 x.timer] := by
  obtain ⟨h1, h2⟩ := h.struct_inv Try.underlying44
  rw [cells44] at h1
  obtain ⟨a0, a1, a2, rfl⟩ := len_is3 h1
  obtain ⟨x0, e0, w0⟩ := (show HasTy Try.prog 3 [a0] from HasTy.fld h2 (i := 0) rfl rfl rfl cells3).int_inv Try.underlying3
  replace e0 : [a0] = [D.int .i64 x0] := e0
  simp only [List.cons.injEq, and_true] at e0
  obtain ⟨x1, e1, w1⟩ := (show HasTy Try.prog 3 [a1] from HasTy.fld h2 (i := 1) rfl rfl rfl cells3).int_inv Try.underlying3
  replace e1 : [a1] = [D.int .i64 x1] := e1
  simp only [List.cons.injEq, and_true] at e1
  obtain ⟨x2, e2, w2⟩ := (show HasTy Try.prog 3 [a2] from HasTy.fld h2 (i := 2) rfl rfl rfl cells3).int_inv Try.underlying3
  replace e2 : [a2] = [D.int .i64 x2] := e2
  simp only [List.cons.injEq, and_true] at e2
  subst e0 e1 e2
  exact ⟨⟨x0, x1, x2⟩, ⟨w0, w1, w2⟩, rfl⟩
theorem ty44 (cs : List D) (h : HasTy Try.prog 44 cs) : ∃ x : RouteState, x.Wf ∧ ofCellsD Try.prog 44 cs = x.enc := by
  obtain ⟨x, w, rfl⟩ := ty44c cs h
  exact ⟨x, w, by simp [ofCellsD, Try.underlying44, RouteState.enc]⟩
theorem ty26 (cs : List D) (h : HasTy Try.prog 26 cs) : ∃ l : (List RouteState), (fun l => l.length ≤ reachBytes ∧ ∀ x ∈ l, RouteState.Wf x) l ∧ ofCellsD Try.prog 26 cs = (fun (l : List RouteState) => D.sl 3 (l.map RouteState.enc)) l := by
  obtain ⟨l, rfl, h1, h2⟩ := h.list Try.underlying26 RouteState.enc RouteState.Wf (fun cs _ h => ty44 cs h)
  exact ⟨l, ⟨h1, h2⟩, by simp [ofCellsD, Try.underlying26, cells44]⟩
theorem cells28 : Try.prog.cellsOf 28 = 2 := by kernel_rfl
theorem cells26 : Try.prog.cellsOf 26 = 1 := by kernel_rfl
theorem ty28c (cs : List D) (h : HasTy Try.prog 28 cs) : ∃ x : Inter, x.Wf ∧ cs = [.sl 3 (x.routes.map RouteState.enc), .sl 1 (x.lies.map (D.int .i64))] := by
  obtain ⟨h1, h2⟩ := h.struct_inv Try.underlying28
  rw [cells28] at h1
  obtain ⟨a0, a1, rfl⟩ := len_is2 h1
  obtain ⟨x0, e0, l0, m0⟩ := (show HasTy Try.prog 26 [a0] from HasTy.fld h2 (i := 0) rfl rfl rfl cells26).list Try.underlying26 RouteState.enc RouteState.Wf (fun cs _ h => ty44 cs h)
  rw [cells44] at e0
  have w0 := And.intro l0 m0
  replace e0 : [a0] = [D.sl 3 (x0.map RouteState.enc)] := e0
  simp only [List.cons.injEq, and_true] at e0
  obtain ⟨x1, e1, l1, m1⟩ := (show HasTy Try.prog 23 [a1] from HasTy.fld h2 (i := 1) rfl rfl rfl cells23).list Try.underlying23 (D.int .i64) I64 (fun cs _ h => ty3 cs h)
  rw [cells3] at e1
  have w1 := And.intro l1 m1
  replace e1 : [a1] = [D.sl 1 (x1.map (D.int .i64))] := e1
  simp only [List.cons.injEq, and_true] at e1
  subst e0 e1
  exact ⟨⟨x0, x1⟩, ⟨w0, w1⟩, rfl⟩
theorem ty28 (cs : List D) (h : HasTy Try.prog 28 cs) : ∃ x : Inter, x.Wf ∧ ofCellsD Try.prog 28 cs = x.enc := by
  obtain ⟨x, w, rfl⟩ := ty28c cs h
  exact ⟨x, w, by simp [ofCellsD, Try.underlying28, Inter.enc]⟩
theorem ty4 (cs : List D) (h : HasTy Try.prog 4 cs) : ∃ x : Bool, (fun _ => True) x ∧ ofCellsD Try.prog 4 cs = D.bool x := by
  obtain ⟨x, rfl⟩ := h.bool_inv Try.underlying4
  exact ⟨x, trivial, by simp [ofCellsD, Try.underlying4]⟩
theorem cells4 : Try.prog.cellsOf 4 = 1 := by kernel_rfl
theorem ty37 (cs : List D) (h : HasTy Try.prog 37 cs) : ∃ l : (List Bool), (fun l => l.length ≤ reachBytes ∧ ∀ x ∈ l, (fun _ => True) x) l ∧ ofCellsD Try.prog 37 cs = (fun (l : List Bool) => D.sl 1 (l.map D.bool)) l := by
  obtain ⟨l, rfl, h1, h2⟩ := h.list Try.underlying37 D.bool (fun _ => True) (fun cs _ h => ty4 cs h)
  exact ⟨l, ⟨h1, h2⟩, by simp [ofCellsD, Try.underlying37, cells4]⟩
theorem cells39 : Try.prog.cellsOf 39 = 7 := by kernel_rfl
theorem cells37 : Try.prog.cellsOf 37 = 1 := by kernel_rfl
theorem len_is7 {cs : List D} (h : cs.length = 7) : ∃ a0 a1 a2 a3 a4 a5 a6, cs = [a0, a1, a2, a3, a4, a5, a6] := by
  match cs, h with
  | [a0, a1, a2, a3, a4, a5, a6], _ => exact ⟨a0, a1, a2, a3, a4, a5, a6, rfl⟩
theorem ty39c (cs : List D) (h : HasTy Try.prog 39 cs) : ∃ x : Inputs, x.Wf ∧ cs = [.sl 1 (x.occupied.map D.bool), .sl 1 (x.detected.map (D.int .i64)), .sl 1 (x.closed.map D.bool), .sl 1 (x.claimed.map D.bool), .sl 1 (x.passed.map D.bool), .sl 1 (x.calls.map (D.int .i64)), .sl 1 (x.cancels.map (D.int .i64))] := by
  obtain ⟨h1, h2⟩ := h.struct_inv Try.underlying39
  rw [cells39] at h1
  obtain ⟨a0, a1, a2, a3, a4, a5, a6, rfl⟩ := len_is7 h1
  obtain ⟨x0, e0, l0, m0⟩ := (show HasTy Try.prog 37 [a0] from HasTy.fld h2 (i := 0) rfl rfl rfl cells37).list Try.underlying37 D.bool (fun _ => True) (fun cs _ h => ty4 cs h)
  rw [cells4] at e0
  have w0 := And.intro l0 m0
  replace e0 : [a0] = [D.sl 1 (x0.map D.bool)] := e0
  simp only [List.cons.injEq, and_true] at e0
  obtain ⟨x1, e1, l1, m1⟩ := (show HasTy Try.prog 23 [a1] from HasTy.fld h2 (i := 1) rfl rfl rfl cells23).list Try.underlying23 (D.int .i64) I64 (fun cs _ h => ty3 cs h)
  rw [cells3] at e1
  have w1 := And.intro l1 m1
  replace e1 : [a1] = [D.sl 1 (x1.map (D.int .i64))] := e1
  simp only [List.cons.injEq, and_true] at e1
  obtain ⟨x2, e2, l2, m2⟩ := (show HasTy Try.prog 37 [a2] from HasTy.fld h2 (i := 2) rfl rfl rfl cells37).list Try.underlying37 D.bool (fun _ => True) (fun cs _ h => ty4 cs h)
  rw [cells4] at e2
  have w2 := And.intro l2 m2
  replace e2 : [a2] = [D.sl 1 (x2.map D.bool)] := e2
  simp only [List.cons.injEq, and_true] at e2
  obtain ⟨x3, e3, l3, m3⟩ := (show HasTy Try.prog 37 [a3] from HasTy.fld h2 (i := 3) rfl rfl rfl cells37).list Try.underlying37 D.bool (fun _ => True) (fun cs _ h => ty4 cs h)
  rw [cells4] at e3
  have w3 := And.intro l3 m3
  replace e3 : [a3] = [D.sl 1 (x3.map D.bool)] := e3
  simp only [List.cons.injEq, and_true] at e3
  obtain ⟨x4, e4, l4, m4⟩ := (show HasTy Try.prog 37 [a4] from HasTy.fld h2 (i := 4) rfl rfl rfl cells37).list Try.underlying37 D.bool (fun _ => True) (fun cs _ h => ty4 cs h)
  rw [cells4] at e4
  have w4 := And.intro l4 m4
  replace e4 : [a4] = [D.sl 1 (x4.map D.bool)] := e4
  simp only [List.cons.injEq, and_true] at e4
  obtain ⟨x5, e5, l5, m5⟩ := (show HasTy Try.prog 23 [a5] from HasTy.fld h2 (i := 5) rfl rfl rfl cells23).list Try.underlying23 (D.int .i64) I64 (fun cs _ h => ty3 cs h)
  rw [cells3] at e5
  have w5 := And.intro l5 m5
  replace e5 : [a5] = [D.sl 1 (x5.map (D.int .i64))] := e5
  simp only [List.cons.injEq, and_true] at e5
  obtain ⟨x6, e6, l6, m6⟩ := (show HasTy Try.prog 23 [a6] from HasTy.fld h2 (i := 6) rfl rfl rfl cells23).list Try.underlying23 (D.int .i64) I64 (fun cs _ h => ty3 cs h)
  rw [cells3] at e6
  have w6 := And.intro l6 m6
  replace e6 : [a6] = [D.sl 1 (x6.map (D.int .i64))] := e6
  simp only [List.cons.injEq, and_true] at e6
  subst e0 e1 e2 e3 e4 e5 e6
  exact ⟨⟨x0, x1, x2, x3, x4, x5, x6⟩, ⟨w0, w1, w2, w3, w4, w5, w6⟩, rfl⟩
theorem ty39 (cs : List D) (h : HasTy Try.prog 39 cs) : ∃ x : Inputs, x.Wf ∧ ofCellsD Try.prog 39 cs = x.enc := by
  obtain ⟨x, w, rfl⟩ := ty39c cs h
  exact ⟨x, w, by simp [ofCellsD, Try.underlying39, Inputs.enc]⟩

end Go.Proofs.Ytckkkfgjgjoemaa
