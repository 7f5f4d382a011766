/- Trees in place of memory, part N: a law whose contract is 'true' for all trees of its parameters' types is true of all inputs, as its row says. No condition. -/
import Derived.Test.YtckkkfgjgjoemaaTlM
import Derived.ProofKit
import Derived.KernelRfl
namespace Go.TL
open Go.ChangeShapes Go.WideShapes Go.RowKit Go.Deep Go.ChangeAt

/-- Trees that arguments of these types stand for. -/
def ArgsOk (P : Program) : List TypeId → List D → Prop
  | [], [] => True
  | t :: ts, d :: ds => (∃ cs, cs.length = P.cellsOf t ∧ HasTy P t cs ∧ d = ofCellsD P t cs) ∧ ArgsOk P ts ds
  | _, _ => False

/-- Plain types, of one cell where they are no structs. -/
def plain1 (P : Program) (S : List TypeId) (t : TypeId) : Bool :=
  S.contains t && (match P.underlying t with | some (.struct _) => true | some (.array _ _) => true | _ => P.cellsOf t == 1)

theorem HasTy.length {P : Program} {t : TypeId} {cs : List D} (h : HasTy P t cs) (h1 : (match P.underlying t with | some (.struct _) => true | some (.array _ _) => true | _ => P.cellsOf t == 1) = true) : cs.length = P.cellsOf t := by
  cases h with
  | bool _ ht b => rw [ht] at h1; exact (show P.cellsOf t = 1 by simpa using h1).symm
  | int _ _ ht => rw [ht] at h1; exact (show P.cellsOf t = 1 by simpa using h1).symm
  | str _ ht => rw [ht] at h1; exact (show P.cellsOf t = 1 by simpa using h1).symm
  | sl _ _ ht => rw [ht] at h1; exact (show P.cellsOf t = 1 by simpa using h1).symm
  | struct _ _ ht _ hl => exact hl

variable {P : Program} {H : Type} {enc : TypeId × Value → H} {w : World}

theorem arg_data {S : List TypeId} (hS : plainSet P S = true) {t : TypeId} {v : Value} {d : DataW H} {ps : List MemPlace} (hp : plain1 P S t = true) {base : Nat} (ok : Value.okWide P w .any base t v) (h : DataW.Trod enc P w 0 (fun _ => true) true t v d ps) (hwt : ∀ n ∈ d.weights P t, n ≤ reachBytes) :
    ∃ cs, cs.length = P.cellsOf t ∧ HasTy P t cs ∧ DRep w (· < w.heap.size) (ofCellsD P t cs) v := by
  simp only [plain1, Bool.and_eq_true, List.contains_iff_mem] at hp
  obtain ⟨fuel, hf⟩ := h
  obtain ⟨ds, ht, hpw, ho⟩ := read_plain hS fuel t hp.1 _ _ hf hwt
  refine ⟨ds, ht.length hp.2, ht, ?_⟩
  have single : (∀ xs, v ≠ .agg xs) → (ofCellsD P t ds = ds.headD .nilsl) → DRep w (· < w.heap.size) (ofCellsD P t ds) v := by
    intro hv he
    have hc : v.cells = #[v] := by cases v <;> first | rfl | exact absurd rfl (hv _)
    rw [hc] at hpw
    rw [he]
    match ds, hpw with
    | [c], hpw => exact hpw.2 0 c v rfl rfl
    | [], hpw => have := hpw.1; simp at this
    | _ :: _ :: _, hpw => have := hpw.1; simp at this
  cases ht with
  | bool _ hu => obtain ⟨b, rfl⟩ := okWide_bool hu ok; exact single (fun _ h => by cases h) (by simp [ofCellsD, hu])
  | int _ _ hu => obtain ⟨b, rfl⟩ := okWide_int hu ok; exact single (fun _ h => by cases h) (by simp [ofCellsD, hu])
  | str _ hu => obtain ⟨b, rfl⟩ := okWide_string hu ok; exact single (fun _ h => by cases h) (by simp [ofCellsD, hu])
  | sl _ _ hu => obtain ⟨_, _, _, rfl⟩ := okWide_slice hu ok; exact single (fun _ h => by cases h) (by simp [ofCellsD, hu])
  | struct _ _ hu _ hl =>
    obtain ⟨cs, rfl, hs⟩ := okWide_struct hu ok
    have : ofCellsD P t ds = .agg ds := by simp [ofCellsD, hu]
    rw [this]
    exact .agg ds cs (by simpa [Value.cells] using hpw.1) ho fun i c v hc hv => hpw.2 i c v hc (by simpa [Value.cells] using hv)

theorem args_data {S : List TypeId} (hS : plainSet P S = true) : ∀ {ts : List TypeId} {vs : List Value} {ds : List (DataW H)} {ps : List MemPlace} {base : Nat}, (∀ t ∈ ts, plain1 P S t = true) → (∀ (j : Nat) t v, ts[j]? = some t → vs[j]? = some v → Value.okWide P w .any base t v) → DataW.TrodAll enc P w 0 (fun _ => true) true ts vs ds ps → (∀ n ∈ DataW.weightsEach P ts ds, n ≤ reachBytes) →
    ds.length = ts.length ∧ ∃ es, ArgsOk P ts es ∧ Pw (DRep w (· < w.heap.size)) es vs
  | [], [], [], _, _, _, _, _, _ => ⟨rfl, [], trivial, rfl, fun i x y hx => by simp at hx⟩
  | t :: ts, v :: vs, d :: ds, ps, base, hp, hok, h, hwt => by
    obtain ⟨p, q, h1, h2, _⟩ := h
    obtain ⟨cs, k1, k2, k3⟩ := arg_data hS (hp t (by simp)) (hok 0 t v rfl rfl) h1 (fun n hn => hwt n (by simp only [DataW.weightsEach, List.mem_append]; exact .inl hn))
    obtain ⟨k4, es, k5, k6⟩ := args_data hS (fun t ht => hp t (by simp [ht])) (fun j t v ht hv => hok (j + 1) t v (by simpa using ht) (by simpa using hv)) h2 (fun n hn => hwt n (by simp only [DataW.weightsEach, List.mem_append]; exact .inr hn))
    refine ⟨by simp [k4], _ :: es, ⟨⟨cs, k1, k2, rfl⟩, k5⟩, by simp [k6.1], fun i x y hx hy => ?_⟩
    cases i with
    | zero => simp at hx hy; subst hx hy; exact k3
    | succ i => exact k6.2 i x y (by simpa using hx) (by simpa using hy)
  | [], _ :: _, _, _, _, _, _, h, _ => by simp [DataW.TrodAll] at h
  | [], [], _ :: _, _, _, _, _, h, _ => by simp [DataW.TrodAll] at h
  | _ :: _, [], _, _, _, _, _, h, _ => by simp [DataW.TrodAll] at h
  | _ :: _, _ :: _, [], _, _, _, _, h, _ => by simp [DataW.TrodAll] at h

theorem trodAll_below (hl : laidOutB P = true) {W W' : World} (hb : Below W.heap.size W W') : ∀ {ts : List TypeId} {vs : List Value} {ds : List (DataW H)} {ps : List MemPlace}, (∀ t ∈ ts, P.readableRec t = true ∧ t < P.types.size) → (∀ x ∈ ps, x.block < W.heap.size) → DataW.TrodAll enc P W 0 (fun _ => true) true ts vs ds ps →
    DataW.TrodAll enc P W' 0 (fun b => decide (b < W.heap.size)) true ts vs ds ps
  | [], [], [], _, _, _, h => h
  | t :: ts, v :: vs, d :: ds, ps, hp, hlt, h => by
    obtain ⟨p, q, h1, h2, rfl⟩ := h
    exact ⟨p, q, Below.trod hl (hp t (by simp)).1 (hp t (by simp)).2 h1 hb fun x hx => hlt x (by simp [hx]), trodAll_below hl hb (fun t ht => hp t (by simp [ht])) (fun x hx => hlt x (by simp [hx])) h2, rfl⟩
  | [], _ :: _, _, _, _, _, h => by simp [DataW.TrodAll] at h
  | [], [], _ :: _, _, _, _, h => by simp [DataW.TrodAll] at h
  | _ :: _, [], _, _, _, _, h => by simp [DataW.TrodAll] at h
  | _ :: _, _ :: _, [], _, _, _, h => by simp [DataW.TrodAll] at h

def lawFacts (P : Program) (S : List TypeId) (fn : Func) : Bool :=
  plainSet P S && fn.params.toList.all (fun t => plain1 P S t && P.readableRec t && decide (t < P.types.size)) &&
    (match fn.resultTypes.toList with | [tb] => (match P.underlying tb with | some .bool => true | _ => false) | _ => false)

theorem law_lifted (S : List TypeId) {C : Checked} {F : FuncId} {fn : Func} {s : ChangeSpec} (os : Os) (own : ownKnob C.prog.godebug = none) (started : os.Started) (laid : laidOutB C.prog = true) (noInit : C.prog.inits.idxOf? F = none) (hfn : C.prog.funcs[F]? = some fn)
    (wit : ∃ (w : World) (tape : Tape) (i : Input), w.os = os ∧ (w.forCall tape i).Shaped C.prog ∧ i.vars = [] ∧ Input.okWide C.prog (w.forCall tape i) .any w.heap.size F i ∧
      s.pre6 enc C.prog fn [] false (w.forCall tape i).memory i.args ∧ ({} : Assume).holds C.prog (lone (Frame.enter C.prog F i.args .normal) [] (w.forCall tape i)))
    (hf : lawFacts C.prog S fn = true) (hsv : s.vars = []) (hs : ∀ ds : List (DataW H), ds.length = fn.params.toList.length → s.fn H ds = { results := [.lit (.bool true)], args := ds })
    (hret : ∀ ds, ArgsOk C.prog fn.params.toList ds → Ret C.prog F [] (fun _ => false) (ds.map .d) (.d (.bool true)) []) :
    ReturnsInHanded {} C os F .any (s.pre6 enc C.prog fn [] false) (s.post enc C.prog fn false true false false) := by
  refine returnsInHanded_of_change_sized own started noInit hfn wit ?_
  intro W base args ds gs before hval hW _ hwt _
  have hW' := hW
  obtain ⟨p, q, hA, hV, rfl, hfz, _⟩ := hW
  rw [hsv] at hV
  obtain ⟨rfl, rfl⟩ := trodVars_none hV
  simp only [List.append_nil] at hW'
  simp only [lawFacts, Bool.and_eq_true, List.all_eq_true, decide_eq_true_eq] at hf
  obtain ⟨hl, es, hes, hpw⟩ := args_data hf.1.1 (base := base) (fun t ht => (hf.1.2 t ht).1.1) (fun j t v ht hv => hval j t v (by simpa using ht) (by simpa using hv)) hA (fun n hn => by
    have hv0 : s.plain.varTypes C.prog = [] := by simp [ChangeSpec.plain, hsv, DataSpec.varTypes]
    rw [hv0, List.append_nil, List.append_nil] at hwt
    simpa using List.all_eq_true.1 hwt n hn)
  have hlt : ∀ x ∈ p, x.block < W.heap.size := fun x hx => by simpa using hW'.lt x hx
  obtain ⟨_, hcall⟩ := hret es hes
  refine (hcall W (ghost0 fun b => b < W.heap.size) args ?_ ?_).mono fun e W' hh => ?_
  · exact { defers := rfl, size := rfl, fr := fun _ => .junk _, hp := fun i B h => by simp at h, lt := fun i b h => by simp [ghost0] at h, inj := fun i j b _ _ _ _ _ _ h => by simp [ghost0] at h, Xlt := fun b h => h, Xold := fun b h _ => h
            os := rfl, tape := rfl, output := rfl, drawn := Nat.le_refl _, grown := Nat.le_refl _, keep := fun _ _ _ => rfl, own := fun i b h => by simp [ghost0] at h, stay := fun i b h => absurd h (Nat.not_lt_zero i), kle := Nat.zero_le _ }
  · refine ⟨by simpa using hpw.1, fun i x v hx hv => ?_⟩
    simp only [List.getElem?_map, Option.map_eq_some_iff] at hx
    obtain ⟨d, hd, rfl⟩ := hx
    exact .d d v (hpw.2 i d v hd hv)
  · obtain ⟨v, g', rfl, ho, hv⟩ := hh
    cases hv with
    | d _ _ hv =>
      cases hv
      have hb : Below W.heap.size W W' := ⟨ho.os, ho.tape, ho.output, ho.grown, fun b hb => ho.keep b hb fun i hi => absurd hi (Nat.not_lt_zero i)⟩
      have e : s.fn H (ds ++ []) = { results := [.lit (.bool true)], args := ds } := by rw [List.append_nil]; exact hs ds hl
      refine ⟨_, rfl, ds, [], p, [], p, [], hW', ?_, ?_, ?_, hb.frame _, fun h => by cases h⟩
      · rw [e]
        have h2 := hf.2
        split at h2
        · rename_i tb hts
          have hsz : fn.resultTypes.size = 1 := by have := congrArg List.length hts; simpa using this
          rw [hts, hsz]
          have hu : C.prog.underlying tb = some .bool := by split at h2 <;> first | assumption | cases h2
          exact trodAll_mk1 (shut_bool hu true)
        · cases h2
      · rw [e]
        exact trodAll_below laid hb (fun t ht => ⟨(hf.1.2 t ht).1.2, (hf.1.2 t ht).2⟩) hlt hA
      · rw [hsv, e]; rfl

end Go.TL
