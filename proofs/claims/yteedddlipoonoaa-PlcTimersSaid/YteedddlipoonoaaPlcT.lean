/- Arguments read as programs, machines and inputs. No condition. -/
import Derived.Test.YteedddlipoonoaaPlcK
import Derived.Test.YteedddlipoonoaaTlN
set_option linter.unusedSimpArgs false
set_option linter.unusedVariables false
namespace Go.Proofs.Yteedddlipoonoaa
open Go Go.TL

theorem own : ownKnob Try.prog.godebug = none := by kernel_rfl
theorem laidOut : laidOutB Try.prog = true := by kernel_rfl
theorem cells3 : Try.prog.cellsOf 3 = 1 := by kernel_rfl
theorem cells4 : Try.prog.cellsOf 4 = 1 := by kernel_rfl
theorem cells47 : Try.prog.cellsOf 47 = 3 := by kernel_rfl
theorem cells45 : Try.prog.cellsOf 45 = 1 := by kernel_rfl
theorem cells50 : Try.prog.cellsOf 50 = 6 := by kernel_rfl
theorem cells25 : Try.prog.cellsOf 25 = 3 := by kernel_rfl
theorem cells34 : Try.prog.cellsOf 34 = 3 := by kernel_rfl

theorem ty3 (cs : List D) (_ : cs.length = Try.prog.cellsOf 3) (h : HasTy Try.prog 3 cs) : ∃ n : Int, I64 n ∧ ofCellsD Try.prog 3 cs = .int .i64 n := by
  obtain ⟨x, rfl, wx⟩ := h.int_inv Try.underlying3
  exact ⟨x, wx, by simp [ofCellsD, Try.underlying3]⟩
theorem ty4 (cs : List D) (_ : cs.length = Try.prog.cellsOf 4) (h : HasTy Try.prog 4 cs) : ∃ b : Bool, True ∧ ofCellsD Try.prog 4 cs = .bool b := by
  obtain ⟨x, rfl⟩ := h.bool_inv Try.underlying4
  exact ⟨x, trivial, by simp [ofCellsD, Try.underlying4]⟩

theorem ty_ex {t : TypeId} {cs : List D} (h : HasTy Try.prog t cs) : (t = 47 → ∃ e : Ex, e.Wf ∧ cs = [.int .i64 e.op, .int .i64 e.var, .sl 3 (Ex.encsR e.args)]) ∧
    (t = 45 → ∃ es : List Ex, es.length ≤ maxLen ∧ (∀ e ∈ es, e.Wf) ∧ cs = [.sl 3 (Ex.encsR es)]) := by
  induction h with
  | bool t ht b => exact ⟨fun e => (by subst e; rw [Try.underlying47] at ht; cases ht), fun e => (by subst e; rw [Try.underlying45] at ht; cases ht)⟩
  | int t k ht n hn => exact ⟨fun e => (by subst e; rw [Try.underlying47] at ht; cases ht), fun e => (by subst e; rw [Try.underlying45] at ht; cases ht)⟩
  | str t ht s hs => exact ⟨fun e => (by subst e; rw [Try.underlying47] at ht; cases ht), fun e => (by subst e; rw [Try.underlying45] at ht; cases ht)⟩
  | sl t e ht css hl h0 h ih =>
    refine ⟨fun e => (by subst e; rw [Try.underlying47] at ht; cases ht), fun e => ?_⟩
    subst e
    rw [Try.underlying45] at ht
    cases ht
    have key : ∀ css : List (List D), (∀ cs ∈ css, ∃ e : Ex, e.Wf ∧ cs = [.int .i64 e.op, .int .i64 e.var, .sl 3 (Ex.encsR e.args)]) → ∃ es : List Ex, es.length = css.length ∧ (∀ e ∈ es, e.Wf) ∧ css.map (ofCellsD Try.prog 47) = Ex.encsR es := by
      intro css
      induction css with
      | nil => intro _; exact ⟨[], rfl, fun e he => by simp at he, by simp [Ex.encsR]⟩
      | cons cs r ih =>
        intro h
        obtain ⟨e, he, hcs⟩ := h cs (by simp)
        obtain ⟨es, h1, h2, h3⟩ := ih fun c hc => h c (by simp [hc])
        refine ⟨e :: es, by simp [h1], fun x hx => ?_, ?_⟩
        · rcases List.mem_cons.1 hx with rfl | hx
          · exact he
          · exact h2 x hx
        · rw [List.map_cons, h3, Ex.encsR_eq, Ex.encsR_eq, List.map_cons, hcs]
          simp [ofCellsD, Try.underlying47, Ex.enc]
    obtain ⟨es, h1, h2, h3⟩ := key css fun cs hcs => (ih cs hcs).1 rfl
    exact ⟨es, by omega, h2, by rw [h3, cells47]⟩
  | struct t fs ht cs hl h ih =>
    refine ⟨fun e => ?_, fun e => (by subst e; rw [Try.underlying45] at ht; cases ht)⟩
    subst e
    rw [Try.underlying47] at ht
    cases ht
    rw [cells47] at hl
    match cs, hl with
    | [a, b, c], _ =>
      obtain ⟨x, ea, wa⟩ := (h 0 _ rfl).int_inv Try.underlying3
      obtain ⟨y, eb, wb⟩ := (h 1 _ rfl).int_inv Try.underlying3
      obtain ⟨es, l1, l2, ec⟩ := (ih 2 _ rfl).2 rfl
      have ea' := (List.cons.inj (show [a] = [D.int .i64 x] from ea)).1
      have eb' := (List.cons.inj (show [b] = [D.int .i64 y] from eb)).1
      have ec' := (List.cons.inj (show [c] = [D.sl 3 (Ex.encsR es)] from ec)).1
      subst ea' eb' ec'
      exact ⟨.mk x y es, .mk _ wa wb l1 l2, rfl⟩

theorem ty50 (cs : List D) (_ : cs.length = Try.prog.cellsOf 50) (h : HasTy Try.prog 50 cs) : ∃ r : Rung, r.Wf ∧ ofCellsD Try.prog 50 cs = r.enc := by
  obtain ⟨h1, h2⟩ := h.struct_inv Try.underlying50
  rw [cells50] at h1
  match cs, h1 with
  | [a, b, c, d1, d2, d3], _ =>
    obtain ⟨x, ea, wa⟩ := (h2 0 _ rfl).int_inv Try.underlying3
    obtain ⟨y, eb, wb⟩ := (h2 1 _ rfl).int_inv Try.underlying3
    obtain ⟨z, ec, wc⟩ := (h2 2 _ rfl).int_inv Try.underlying3
    obtain ⟨e, we, ed⟩ := (ty_ex (h2 3 _ rfl)).1 rfl
    have ea' := (List.cons.inj (show [a] = [D.int .i64 x] from ea)).1
    have eb' := (List.cons.inj (show [b] = [D.int .i64 y] from eb)).1
    have ec' := (List.cons.inj (show [c] = [D.int .i64 z] from ec)).1
    have ed' : [d1, d2, d3] = [.int .i64 e.op, .int .i64 e.var, .sl 3 (Ex.encsR e.args)] := ed
    simp only [List.cons.injEq, and_true] at ed'
    obtain ⟨e1, e2, e3⟩ := ed'
    subst ea' eb' ec' e1 e2 e3
    exact ⟨⟨x, y, z, e⟩, ⟨wa, wb, wc, we⟩, by simp [ofCellsD, Try.underlying50, Rung.enc]⟩

theorem ty25 (cs : List D) (h : HasTy Try.prog 25 cs) : ∃ p : Prg, p.Wf ∧ ofCellsD Try.prog 25 cs = p.enc := by
  obtain ⟨h1, h2⟩ := h.struct_inv Try.underlying25
  rw [cells25] at h1
  match cs, h1 with
  | [a, b, c], _ =>
    obtain ⟨ns, ea, wa, _⟩ := (h2 0 _ rfl).list Try.underlying22 D.str (fun _ => True) fun cs _ h => by
      obtain ⟨s, rfl, _⟩ := h.str_inv (by kernel_rfl)
      exact ⟨s, trivial, by rw [ofCellsD]; rfl⟩
    obtain ⟨y, eb, wb⟩ := (h2 1 _ rfl).int_inv Try.underlying3
    obtain ⟨rs, ec, wc, wr⟩ := (h2 2 _ rfl).list Try.underlying23 Rung.enc Rung.Wf ty50
    have ea' := (List.cons.inj (show [a] = [D.sl _ (ns.map D.str)] from ea)).1
    have eb' := (List.cons.inj (show [b] = [D.int .i64 y] from eb)).1
    have ec' := (List.cons.inj (show [c] = [D.sl _ (rs.map Rung.enc)] from ec)).1
    subst ea' eb' ec'
    exact ⟨⟨ns, y, rs⟩, ⟨wa, wb, wc, wr⟩, by simp [ofCellsD, Try.underlying25, Prg.enc]; constructor <;> kernel_rfl⟩

theorem ty31 (cs : List D) (h : HasTy Try.prog 31 cs) : ∃ bs : List Bool, bs.length ≤ maxLen ∧ ofCellsD Try.prog 31 cs = bools bs := by
  obtain ⟨bs, rfl, h1, _⟩ := h.list Try.underlying31 D.bool (fun _ => True) ty4
  exact ⟨bs, h1, by simp [ofCellsD, Try.underlying31, bools]; kernel_rfl⟩
theorem ty31' (cs : List D) (_ : cs.length = Try.prog.cellsOf 31) (h : HasTy Try.prog 31 cs) : ∃ bs : List Bool, bs.length ≤ maxLen ∧ ofCellsD Try.prog 31 cs = bools bs := ty31 cs h
theorem ty41 (cs : List D) (h : HasTy Try.prog 41 cs) : ∃ l : List (List Bool), (l.length ≤ maxLen ∧ ∀ bs ∈ l, bs.length ≤ maxLen) ∧ ofCellsD Try.prog 41 cs = .sl 1 (l.map bools) := by
  obtain ⟨l, rfl, h1, h2⟩ := h.list Try.underlying41 bools (fun bs => bs.length ≤ maxLen) ty31'
  exact ⟨l, ⟨h1, h2⟩, by simp [ofCellsD, Try.underlying41]; kernel_rfl⟩
theorem ty3n (cs : List D) (h : HasTy Try.prog 3 cs) : ∃ n : Int, I64 n ∧ ofCellsD Try.prog 3 cs = .int .i64 n := by
  obtain ⟨x, rfl, wx⟩ := h.int_inv Try.underlying3
  exact ⟨x, wx, by simp [ofCellsD, Try.underlying3]⟩

theorem ty34 (cs : List D) (h : HasTy Try.prog 34 cs) : ∃ m : Mch, m.Wf ∧ ofCellsD Try.prog 34 cs = m.enc := by
  obtain ⟨h1, h2⟩ := h.struct_inv Try.underlying34
  rw [cells34] at h1
  match cs, h1 with
  | [a, b, c], _ =>
    obtain ⟨vs, ea, wa, _⟩ := (h2 0 _ rfl).list Try.underlying31 D.bool (fun _ => True) ty4
    obtain ⟨ns, eb, wb, wn⟩ := (h2 1 _ rfl).list Try.underlying32 (D.int .i64) I64 ty3
    obtain ⟨x, ec⟩ := (h2 2 _ rfl).bool_inv Try.underlying4
    have ea' := (List.cons.inj (show [a] = [D.sl _ (vs.map D.bool)] from ea)).1
    have eb' := (List.cons.inj (show [b] = [D.sl _ (ns.map (D.int .i64))] from eb)).1
    have ec' := (List.cons.inj (show [c] = [D.bool x] from ec)).1
    subst ea' eb' ec'
    exact ⟨⟨vs, ns, x⟩, ⟨wa, wb, wn⟩, by simp [ofCellsD, Try.underlying34, Mch.enc]; constructor <;> kernel_rfl⟩

end Go.Proofs.Yteedddlipoonoaa
