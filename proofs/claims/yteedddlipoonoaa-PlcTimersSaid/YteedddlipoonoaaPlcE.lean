/- Expressions as trees of Lean's own: their size, depth, form and value. No condition. -/
import Derived.Test.YteedddlipoonoaaRows
import Derived.Test.YteedddlipoonoaaTlY
set_option linter.unusedSimpArgs false
set_option linter.unusedVariables false
namespace Go.Proofs.Yteedddlipoonoaa
open Go Go.TL

theorem follows : Try.prog.follows .mixedOrders = true := by kernel_rfl

/-- An expression. -/
inductive Ex where
  | mk (op var : Int) (args : List Ex)

namespace Ex
def op : Ex → Int | .mk o _ _ => o
def var : Ex → Int | .mk _ v _ => v
def args : Ex → List Ex | .mk _ _ a => a

mutual
def encR : Ex → D
  | .mk o v xs => .agg [.int .i64 o, .int .i64 v, .sl 3 (encsR xs)]
def encsR : List Ex → List D
  | [] => []
  | e :: r => encR e :: encsR r
end
def enc (e : Ex) : D := .agg [.int .i64 e.op, .int .i64 e.var, .sl 3 (encsR e.args)]
theorem encR_eq (e : Ex) : e.encR = e.enc := by cases e; simp [encR, enc, op, var, args]
theorem encsR_eq : ∀ xs : List Ex, encsR xs = xs.map enc
  | [] => by simp [encsR]
  | e :: r => by simp [encsR, encR_eq, encsR_eq r]
theorem encs_length (xs : List Ex) : (encsR xs).length = xs.length := by simp [encsR_eq]
theorem encs_get {xs : List Ex} {i : Nat} {a : Ex} (h : xs[i]? = some a) : (encsR xs)[i]? = some a.enc := by simp [encsR_eq, h]
theorem idx_encs {xs : List Ex} {i : Nat} {a : Ex} (h : xs[i]? = some a) : (0 : Int) ≤ (i : Int) ∧ (encsR xs)[((i : Int)).toNat]? = some a.enc := ⟨by omega, by simp [encsR_eq, h]⟩

theorem ind {p : Ex → Prop} (h : ∀ e : Ex, (∀ a ∈ e.args, p a) → p e) : ∀ e, p e := by
  intro e
  refine Ex.rec (motive_1 := p) (motive_2 := fun xs => ∀ a ∈ xs, p a) (fun o v xs ih => h (.mk o v xs) ih) (fun a ha => by simp at ha) (fun e r h1 h2 a ha => ?_) e
  rcases List.mem_cons.1 ha with rfl | ha
  · exact h1
  · exact h2 a ha

mutual
def size : Ex → Nat
  | .mk _ _ xs => 1 + sizes xs
def sizes : List Ex → Nat
  | [] => 0
  | e :: r => size e + sizes r
end
theorem size_eq (e : Ex) : e.size = 1 + sizes e.args := by cases e; simp [size, args]
theorem size_pos (e : Ex) : 1 ≤ e.size := by rw [size_eq]; omega
theorem sizes_append : ∀ xs ys : List Ex, sizes (xs ++ ys) = sizes xs + sizes ys
  | [], ys => by simp [sizes]
  | a :: xs, ys => by simp [sizes, sizes_append xs ys]; omega
theorem sizes_succ {xs : List Ex} {i : Nat} {a : Ex} (h : xs[i]? = some a) : sizes (xs.take (i + 1)) = sizes (xs.take i) + a.size := by
  rw [List.take_add_one, h, sizes_append]; simp [sizes]
theorem sizes_drop {xs : List Ex} {i : Nat} {a : Ex} (h : xs[i]? = some a) : sizes (xs.drop i) = a.size + sizes (xs.drop (i + 1)) := by
  rw [drop_cons h]; simp [sizes]
theorem sizes_split (xs : List Ex) (i : Nat) : sizes (xs.take i) + sizes (xs.drop i) = sizes xs := by
  rw [← sizes_append, List.take_append_drop]
theorem sizes_mem {xs : List Ex} {a : Ex} (h : a ∈ xs) : a.size ≤ sizes xs := by
  induction xs with
  | nil => simp at h
  | cons x r ih =>
    simp only [sizes]
    rcases List.mem_cons.1 h with rfl | h
    · omega
    · have := ih h; omega
theorem length_le : ∀ xs : List Ex, xs.length ≤ sizes xs
  | [] => by simp
  | a :: r => by have := length_le r; have := size_pos a; simp only [List.length_cons, sizes]; omega

mutual
def depth : Ex → Nat
  | .mk _ _ xs => depths xs + 1
def depths : List Ex → Nat
  | [] => 0
  | e :: r => max (depth e) (depths r)
end
theorem depth_eq (e : Ex) : e.depth = depths e.args + 1 := by cases e; simp [depth, args]
theorem depths_append : ∀ xs ys : List Ex, depths (xs ++ ys) = max (depths xs) (depths ys)
  | [], ys => by simp [depths]
  | a :: xs, ys => by simp [depths, depths_append xs ys, Nat.max_assoc]
theorem depths_succ {xs : List Ex} {i : Nat} {a : Ex} (h : xs[i]? = some a) : depths (xs.take (i + 1)) = max (depths (xs.take i)) a.depth := by
  rw [List.take_add_one, h, depths_append]; simp [depths]
theorem depths_split (xs : List Ex) (i : Nat) : max (depths (xs.take i)) (depths (xs.drop i)) = depths xs := by
  rw [← depths_append, List.take_append_drop]
theorem depth_le_size : ∀ e : Ex, e.depth ≤ e.size := by
  refine ind fun e ih => ?_
  have key : ∀ xs : List Ex, (∀ a ∈ xs, a.depth ≤ a.size) → depths xs ≤ sizes xs := by
    intro xs
    induction xs with
    | nil => intro _; simp [depths]
    | cons a r ih =>
      intro h
      have h1 := h a (by simp)
      have h2 := ih fun b hb => h b (by simp [hb])
      simp only [depths, sizes]; omega
  rw [depth_eq, size_eq]
  have := key e.args ih
  omega

mutual
def form : Ex → Int → Bool
  | .mk o v xs, n =>
    if o = 1 ∨ o = 2 then decide (v = 0) && decide (xs.length = 0)
    else if o = 3 then (decide (0 ≤ v) && decide (v < n)) && decide (xs.length = 0)
    else if o = 4 ∧ xs.length ≠ 1 ∨ ¬ (o = 4 ∨ o = 5 ∨ o = 6) then false
    else forms xs n && decide (v = 0)
def forms : List Ex → Int → Bool
  | [], _ => true
  | e :: r, n => form e n && forms r n
end
theorem forms_eq : ∀ (xs : List Ex) (n : Int), forms xs n = xs.all (form · n)
  | [], _ => by simp [forms]
  | e :: r, n => by simp [forms, forms_eq r n]
theorem form_eq (e : Ex) (n : Int) : e.form n = if e.op = 1 ∨ e.op = 2 then decide (e.var = 0) && decide (e.args.length = 0)
    else if e.op = 3 then (decide (0 ≤ e.var) && decide (e.var < n)) && decide (e.args.length = 0)
    else if e.op = 4 ∧ e.args.length ≠ 1 ∨ ¬ (e.op = 4 ∨ e.op = 5 ∨ e.op = 6) then false
    else e.args.all (form · n) && decide (e.var = 0) := by
  cases e with
  | mk o v xs => simp only [form, forms_eq, op, var, args]; rfl

def valid (e : Ex) (n : Int) : Bool := (decide (e.size ≤ 20000) && decide (e.depth ≤ 12)) && e.form n

/-- The value of a variable. -/
def look (vs : List Bool) (v : Int) : Bool := if 0 ≤ v then vs.getD v.toNat false else false
mutual
def eval : Ex → List Bool → Bool
  | .mk o v xs, vs =>
    if o = 2 then true
    else if o = 3 then look vs v
    else if o = 4 then evalN xs vs
    else if o = 5 then evalA xs vs
    else if o = 6 then evalO xs vs
    else false
def evalN : List Ex → List Bool → Bool
  | [], _ => false
  | e :: _, vs => !eval e vs
def evalA : List Ex → List Bool → Bool
  | [], _ => true
  | e :: r, vs => eval e vs && evalA r vs
def evalO : List Ex → List Bool → Bool
  | [], _ => false
  | e :: r, vs => eval e vs || evalO r vs
end
theorem evalA_eq : ∀ (xs : List Ex) (vs : List Bool), evalA xs vs = xs.all (eval · vs)
  | [], _ => by simp [evalA]
  | e :: r, vs => by simp [evalA, evalA_eq r vs]
theorem evalO_eq : ∀ (xs : List Ex) (vs : List Bool), evalO xs vs = xs.any (eval · vs)
  | [], _ => by simp [evalO]
  | e :: r, vs => by simp [evalO, evalO_eq r vs]
theorem evalN_eq (xs : List Ex) (vs : List Bool) : evalN xs vs = match xs with | [] => false | e :: _ => !eval e vs := by
  cases xs <;> simp [evalN]
theorem eval_eq (e : Ex) (vs : List Bool) : e.eval vs = if e.op = 2 then true
    else if e.op = 3 then look vs e.var
    else if e.op = 4 then (match e.args with | [] => false | e :: _ => !eval e vs)
    else if e.op = 5 then e.args.all (eval · vs)
    else if e.op = 6 then e.args.any (eval · vs)
    else false := by
  cases e with
  | mk o v xs => simp only [eval, evalA_eq, evalO_eq, evalN_eq, op, var, args]; rfl
theorem look_get {vs : List Bool} {v : Int} {b : Bool} (h0 : 0 ≤ v) (h : vs[v.toNat]? = some b) : look vs v = b := by
  rw [look, if_pos h0, List.getD_eq_getElem?_getD, h]; rfl
theorem look_out {vs : List Bool} {v : Int} (h : ¬ (0 ≤ v ∧ v < vs.length)) : look vs v = false := by
  unfold look
  split
  · rw [List.getD_eq_getElem?_getD, List.getElem?_eq_none (by omega)]; rfl
  · rfl

/-- All numbers fit, no list is too long. -/
inductive Wf : Ex → Prop
  | mk (e : Ex) (ho : I64 e.op) (hv : I64 e.var) (hl : e.args.length ≤ 9223372036854775807) (h : ∀ a ∈ e.args, Wf a) : Wf e
theorem Wf.op {e : Ex} (h : e.Wf) : I64 e.op := by cases h; assumption
theorem Wf.var {e : Ex} (h : e.Wf) : I64 e.var := by cases h; assumption
theorem Wf.len {e : Ex} (h : e.Wf) : e.args.length ≤ 9223372036854775807 := by cases h; assumption
theorem Wf.arg {e : Ex} (h : e.Wf) : ∀ a ∈ e.args, a.Wf := by cases h; assumption
end Ex

/-! ### The form, taken from a number of nodes that are left -/

namespace Ex
mutual
def vl : Ex → Int → Int → Int → Bool × Int
  | .mk o v xs, n, d, l =>
    if 12 < d ∨ l = 0 then (false, l)
    else if o = 1 ∨ o = 2 then (decide (v = 0) && decide (xs.length = 0), l - 1)
    else if o = 3 then ((decide (0 ≤ v) && decide (v < n)) && decide (xs.length = 0), l - 1)
    else if o = 4 ∧ xs.length ≠ 1 ∨ ¬ (o = 4 ∨ o = 5 ∨ o = 6) then (false, l - 1)
    else if v ≠ 0 then (false, l - 1)
    else vls xs n (d + 1) (l - 1)
def vls : List Ex → Int → Int → Int → Bool × Int
  | [], _, _, l => (true, l)
  | e :: r, n, d, l => if (vl e n d l).1 = true then vls r n d (vl e n d l).2 else (false, (vl e n d l).2)
end
theorem vl_eq (e : Ex) (n d l : Int) : e.vl n d l = if 12 < d ∨ l = 0 then (false, l)
    else if e.op = 1 ∨ e.op = 2 then (decide (e.var = 0) && decide (e.args.length = 0), l - 1)
    else if e.op = 3 then ((decide (0 ≤ e.var) && decide (e.var < n)) && decide (e.args.length = 0), l - 1)
    else if e.op = 4 ∧ e.args.length ≠ 1 ∨ ¬ (e.op = 4 ∨ e.op = 5 ∨ e.op = 6) then (false, l - 1)
    else if e.var ≠ 0 then (false, l - 1)
    else vls e.args n (d + 1) (l - 1) := by
  cases e with
  | mk o v xs => simp only [vl, op, var, args]; rfl

/-- What is said of one node with what lies below it. -/
def VlOk (n d l : Int) (e : Ex) : Prop := ((e.vl n d l).1 = true ↔ e.form n = true ∧ (e.size : Int) ≤ l ∧ (e.depth : Int) + d ≤ 13) ∧ ((e.vl n d l).1 = true → (e.vl n d l).2 = l - e.size) ∧ 0 ≤ (e.vl n d l).2 ∧ (e.vl n d l).2 ≤ l

theorem vls_ok (n d : Int) : ∀ (xs : List Ex), (∀ a ∈ xs, ∀ l, 0 ≤ l → VlOk n d l a) → ∀ l, 0 ≤ l →
    ((vls xs n d l).1 = true ↔ xs.all (form · n) = true ∧ (sizes xs : Int) ≤ l ∧ (xs = [] ∨ (depths xs : Int) + d ≤ 13)) ∧ ((vls xs n d l).1 = true → (vls xs n d l).2 = l - sizes xs) ∧ 0 ≤ (vls xs n d l).2 ∧ (vls xs n d l).2 ≤ l
  | [], _, l, hl => by simp [vls, sizes, hl]
  | a :: r, h, l, hl => by
    obtain ⟨h1, h2, h3, h4⟩ := h a (by simp) l hl
    have ih := vls_ok n d r (fun b hb => h b (by simp [hb])) (a.vl n d l).2 h3
    simp only [vls]
    by_cases hb : (a.vl n d l).1 = true
    · rw [if_pos hb]
      obtain ⟨i1, i2, i3, i4⟩ := ih
      have e2 := h2 hb
      obtain ⟨f1, f2, f3⟩ := h1.1 hb
      rw [e2] at i1 i2 i3 i4 ⊢
      refine ⟨i1.trans ?_, fun hr => by rw [i2 hr]; simp only [sizes]; omega, i3, by omega⟩
      simp only [List.all_cons, f1, Bool.true_and, sizes, depths, List.cons_ne_nil, false_or]
      have hd : r = [] → depths r = 0 := fun e => by subst e; rfl
      constructor
      · rintro ⟨g1, g2, g3⟩
        refine ⟨g1, by omega, ?_⟩
        rcases g3 with g3 | g3
        · have := hd g3; omega
        · omega
      · rintro ⟨g1, g2, g3⟩
        exact ⟨g1, by omega, .inr (by omega)⟩
    · rw [if_neg hb]
      refine ⟨⟨fun h => (by cases h), fun ⟨g1, g2, g3⟩ => ?_⟩, fun h => (by cases h), h3, h4⟩
      simp only [List.all_cons, Bool.and_eq_true, sizes, depths, List.cons_ne_nil, false_or] at g1 g2 g3
      exact absurd (h1.2 ⟨g1.1, by omega, by omega⟩) hb

theorem vl_ok (n : Int) : ∀ (e : Ex) (d l : Int), 0 ≤ l → VlOk n d l e := by
  refine ind fun e ih d l hl => ?_
  have hs := size_eq e
  have hd := depth_eq e
  have key := vls_ok n (d + 1) e.args (fun a ha l hl => ih a ha (d + 1) l hl)
  have nil : e.args.length = 0 → sizes e.args = 0 ∧ depths e.args = 0 := fun h => by
    rw [List.length_eq_zero_iff.1 h]; exact ⟨rfl, rfl⟩
  unfold VlOk
  rw [vl_eq, form_eq]
  by_cases c1 : 12 < d ∨ l = 0
  · rw [if_pos c1]
    exact ⟨⟨fun h => (by cases h), fun ⟨_, g2, g3⟩ => (by omega)⟩, fun h => (by cases h), hl, Int.le_refl _⟩
  · rw [if_neg c1]
    by_cases c2 : e.op = 1 ∨ e.op = 2
    · rw [if_pos c2, if_pos c2]
      simp only [Bool.and_eq_true, decide_eq_true_eq]
      refine ⟨⟨fun ⟨g1, g2⟩ => ?_, fun ⟨g1, _⟩ => g1⟩, fun ⟨g1, g2⟩ => ?_, by omega, by omega⟩
      · have := nil g2; exact ⟨⟨g1, g2⟩, by omega, by omega⟩
      · have := nil g2; omega
    · rw [if_neg c2, if_neg c2]
      by_cases c3 : e.op = 3
      · rw [if_pos c3, if_pos c3]
        simp only [Bool.and_eq_true, decide_eq_true_eq]
        refine ⟨⟨fun ⟨g1, g2⟩ => ?_, fun ⟨g1, _⟩ => g1⟩, fun ⟨g1, g2⟩ => ?_, by omega, by omega⟩
        · have := nil g2; exact ⟨⟨g1, g2⟩, by omega, by omega⟩
        · have := nil g2; omega
      · rw [if_neg c3, if_neg c3]
        by_cases c4 : e.op = 4 ∧ e.args.length ≠ 1 ∨ ¬ (e.op = 4 ∨ e.op = 5 ∨ e.op = 6)
        · rw [if_pos c4, if_pos c4]
          exact ⟨⟨fun h => (by cases h), fun ⟨g1, _⟩ => (by cases g1)⟩, fun h => (by cases h), by omega, by omega⟩
        · rw [if_neg c4, if_neg c4]
          by_cases c5 : e.var ≠ 0
          · rw [if_pos c5]
            refine ⟨⟨fun h => (by cases h), fun ⟨g1, _⟩ => ?_⟩, fun h => (by cases h), by omega, by omega⟩
            simp only [Bool.and_eq_true, decide_eq_true_eq] at g1
            exact absurd g1.2 c5
          · rw [if_neg c5]
            obtain ⟨k1, k2, k3, k4⟩ := key (l - 1) (by omega)
            have c5' : e.var = 0 := by omega
            refine ⟨k1.trans ?_, fun h => by rw [k2 h]; omega, k3, by omega⟩
            simp only [c5', decide_true, Bool.and_true]
            have hd0 : e.args = [] → depths e.args = 0 := fun e => by rw [e]; rfl
            constructor
            · rintro ⟨g1, g2, g3⟩
              refine ⟨g1, by omega, ?_⟩
              rcases g3 with g3 | g3
              · have := hd0 g3; omega
              · omega
            · rintro ⟨g1, g2, g3⟩
              exact ⟨g1, by omega, .inr (by omega)⟩

theorem valid_vl (e : Ex) (n : Int) : (e.vl n 1 20000).1 = e.valid n := by
  have h := (vl_ok n e 1 20000 (by omega)).1
  unfold valid
  rw [Bool.eq_iff_iff, h]
  simp only [Bool.and_eq_true, decide_eq_true_eq]
  constructor
  · rintro ⟨g1, g2, g3⟩; exact ⟨⟨by omega, by omega⟩, g1⟩
  · rintro ⟨⟨g2, g3⟩, g1⟩; exact ⟨g1, by omega, by omega⟩
end Ex

namespace Ex
/-- Which kind of node it is. -/
def nodeT (e : Ex) : Nat := if e.op = 3 then 75 else if e.op = 4 ∧ 0 < e.args.length then 76 else if e.op = 5 then 77 else if e.op = 6 then 78 else 79
end Ex

/-! ### Programs and machines -/

structure Rung where
  kind : Int
  var : Int
  preset : Int
  expr : Ex
def Rung.enc (r : Rung) : D := .agg [.int .i64 r.kind, .int .i64 r.var, .int .i64 r.preset, .int .i64 r.expr.op, .int .i64 r.expr.var, .sl 3 (Ex.encsR r.expr.args)]
structure Rung.Wf (r : Rung) : Prop where
  kind : I64 r.kind
  var : I64 r.var
  preset : I64 r.preset
  expr : r.expr.Wf

structure Prg where
  names : List ByteArray
  inputs : Int
  rungs : List Rung
def Prg.enc (p : Prg) : D := .agg [.sl 1 (p.names.map .str), .int .i64 p.inputs, .sl 6 (p.rungs.map Rung.enc)]
structure Prg.Wf (p : Prg) : Prop where
  names : p.names.length ≤ 9223372036854775807
  inputs : I64 p.inputs
  rungs : p.rungs.length ≤ 9223372036854775807
  rung : ∀ r ∈ p.rungs, r.Wf

def Prg.right (p : Prg) (r : Rung) : Bool := (decide (r.kind = 1) && decide (r.preset = 0) || decide (r.kind = 2) && (decide (1 ≤ r.preset) && decide (r.preset ≤ 1073741824))) && ((decide (p.inputs ≤ r.var) && decide (r.var < p.names.length)) && r.expr.valid p.names.length)

/-- The first error of a program. -/
def Prg.check (p : Prg) : Int :=
  if 2000 < p.names.length then 2
  else if p.inputs < 0 ∨ (p.names.length : Int) < p.inputs then 1
  else if p.rungs.all p.right = false then 1
  else if (p.rungs.map Rung.var).Nodup then 0 else 8

theorem Prg.right_var {p : Prg} {r : Rung} (h : p.right r = true) (h0 : 0 ≤ p.inputs) : 0 ≤ r.var ∧ r.var < p.names.length := by grind [Prg.right]

/-- Which of n numbers are in the list? -/
def marks (n : Nat) (vs : List Int) : List Bool := vs.foldl (fun s v => s.set v.toNat true) (List.replicate n false)
theorem marks_nil (n : Nat) : marks n [] = List.replicate n false := rfl
theorem marks_snoc (n : Nat) (vs : List Int) (v : Int) : marks n (vs ++ [v]) = (marks n vs).set v.toNat true := by simp [marks, List.foldl_append]
theorem marks_length (n : Nat) : ∀ vs : List Int, (marks n vs).length = n := by
  have key : ∀ (vs : List Int) (s : List Bool), (vs.foldl (fun s v => s.set v.toNat true) s).length = s.length := by
    intro vs
    induction vs with
    | nil => intro s; rfl
    | cons v r ih => intro s; simp only [List.foldl_cons]; rw [ih]; simp
  intro vs
  simp [marks, key]
theorem marks_get (n : Nat) : ∀ (vs : List Int), (∀ v ∈ vs, 0 ≤ v) → ∀ w : Int, 0 ≤ w → w < n → (marks n vs)[w.toNat]? = some (decide (w ∈ vs)) := by
  have key : ∀ (vs : List Int) (s : List Bool), (∀ v ∈ vs, 0 ≤ v) → ∀ w : Int, 0 ≤ w → w < s.length → (vs.foldl (fun s v => s.set v.toNat true) s)[w.toNat]? = some (s.getD w.toNat false || decide (w ∈ vs)) := by
    intro vs
    induction vs with
    | nil =>
      intro s _ w h0 h1
      obtain ⟨b, hb⟩ := get_lt (xs := s) (i := w.toNat) (by omega)
      simp [hb]
    | cons v r ih =>
      intro s hv w h0 h1
      simp only [List.foldl_cons]
      rw [ih _ (fun x hx => hv x (by simp [hx])) w h0 (by simpa using h1)]
      have hv0 := hv v (by simp)
      congr 1
      rw [List.getD_eq_getElem?_getD, List.getElem?_set, List.getD_eq_getElem?_getD]
      by_cases e : v = w
      · subst e
        simp [show v.toNat < s.length by omega]
      · rw [if_neg (by omega)]
        have : ¬ w = v := fun h => e h.symm
        simp [this]
  intro vs hv w h0 h1
  have := key vs (List.replicate n false) hv w h0 (by simpa using h1)
  unfold marks
  rw [this, List.getD_eq_getElem?_getD, List.getElem?_replicate]
  split <;> simp

theorem nodup_snoc {α : Type} {xs : List α} {x : α} : (xs ++ [x]).Nodup ↔ xs.Nodup ∧ x ∉ xs := by
  rw [List.nodup_append]
  constructor
  · rintro ⟨h1, _, h3⟩
    exact ⟨h1, fun h => h3 x h x (by simp) rfl⟩
  · rintro ⟨h1, h2⟩
    exact ⟨h1, by simp, fun a ha b hb e => by simp at hb; subst hb; subst e; exact h2 ha⟩
theorem vars_succ {rs : List Rung} {i : Nat} {r : Rung} (h : rs[i]? = some r) : (rs.map Rung.var).take (i + 1) = (rs.map Rung.var).take i ++ [r.var] := by
  rw [List.take_add_one]; simp [h]
theorem nodup_take {α : Type} {xs : List α} (h : xs.Nodup) (i : Nat) : (xs.take i).Nodup := h.sublist (List.take_sublist i xs)
theorem dup_at {rs : List Rung} {i : Nat} {r : Rung} (h : rs[i]? = some r) (hm : r.var ∈ (rs.map Rung.var).take i) : ¬ (rs.map Rung.var).Nodup := fun hn => by
  have := nodup_take hn (i + 1)
  rw [vars_succ h] at this
  exact (nodup_snoc.1 this).2 hm

structure Mch where
  vars : List Bool
  counts : List Int
  halted : Bool

def bools (bs : List Bool) : D := .sl 1 (bs.map D.bool)
def ints (ns : List Int) : D := .sl 1 (ns.map (D.int .i64))

def Mch.enc (m : Mch) : D := .agg [.sl 1 (m.vars.map D.bool), .sl 1 (m.counts.map (D.int .i64)), .bool m.halted]
structure Mch.Wf (m : Mch) : Prop where
  vars : m.vars.length ≤ 9223372036854775807
  counts : m.counts.length ≤ 9223372036854775807
  count : ∀ n ∈ m.counts, I64 n

/-! ### What the chapter says of machines -/

def Prg.few (p : Prg) (k : Int) : Bool := (decide ((p.names.length : Int) ≤ k) && decide (p.rungs.length ≤ 40)) && p.rungs.all fun r => decide (r.expr.size ≤ 200)
def few (p : Prg) (m : Mch) (ins : List Bool) : Bool := ((p.few 300 && decide (m.vars.length ≤ 400)) && decide (m.counts.length ≤ 100)) && decide (ins.length ≤ 400)

def Mch.same (a b : Mch) : Bool := ((a.halted == b.halted) && decide (a.vars = b.vars)) && decide (a.counts = b.counts)

/-- The machine at the beginning; without slices where the program is wrong. -/
def Prg.startD (p : Prg) : D := if p.check = 0 then .agg [.sl 1 (List.replicate p.names.length (.bool false)), .sl 1 (List.replicate p.rungs.length (.int .i64 0)), .bool false] else .agg [.nilsl, .nilsl, .bool true]
def Prg.start (p : Prg) : Mch := if p.check = 0 then ⟨List.replicate p.names.length false, List.replicate p.rungs.length 0, false⟩ else ⟨[], [], true⟩
theorem Prg.startD_le (p : Prg) : DLe p.startD p.start.enc := by
  unfold Prg.startD Prg.start
  split
  · rw [show (Mch.mk (List.replicate p.names.length false) (List.replicate p.rungs.length 0) false).enc = .agg [.sl 1 (List.replicate p.names.length (.bool false)), .sl 1 (List.replicate p.rungs.length (.int .i64 0)), .bool false] by simp [Mch.enc, List.map_replicate]]
    exact .refl _
  · exact .agg (.cons (.nil 1) rfl (.cons (.nil 1) rfl (.cons (.refl _) rfl .nil)))
def Prg.halt (p : Prg) : Mch := { p.start with halted := true }

def Prg.fits (p : Prg) (m : Mch) : Bool := ((decide (p.check = 0) && decide (m.vars.length = p.names.length)) && decide (m.counts.length = p.rungs.length)) && (m.counts.zip p.rungs).all fun x => decide (0 ≤ x.1) && decide (x.1 ≤ x.2.preset)

theorem zip_get {α β : Type} {xs : List α} {ys : List β} {i : Nat} {x : α} {y : β} (hx : xs[i]? = some x) (hy : ys[i]? = some y) : (xs.zip ys)[i]? = some (x, y) := by simp [List.getElem?_zip_eq_some, hx, hy]

def Mch.rest (m : Mch) : Bool := m.vars.all (fun b => !b) && m.counts.all fun n => decide (n = 0)

end Go.Proofs.Yteedddlipoonoaa
