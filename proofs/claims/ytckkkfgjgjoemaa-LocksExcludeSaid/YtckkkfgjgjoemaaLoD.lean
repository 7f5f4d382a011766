/- Locks: the reference's bound; what is locked; contradictions. No condition. -/
import Derived.Test.YtckkkfgjgjoemaaLoC
set_option linter.unusedSimpArgs false
set_option linter.unusedVariables false
namespace Go.Proofs.Ytckkkfgjgjoemaa
open Go Go.TL

theorem has21_eq (l : List Setting) (x : Setting) (h : Cnt l) (ho : ∀ s ∈ l, Setting.ok s) (hx : Setting.ok x) : ref21_has l x = some (decide (x ∈ l)) := by
  unfold ref21_has
  rw [loop_any l (fun e => decide (e = x)) (.inr true) (.inl ()) h (fun i e he => ?_) (by rw [if_neg (by omega)]; rfl)]
  · have e1 : (l.any fun e => decide (e = x)) = decide (x ∈ l) := by rw [Bool.eq_iff_iff]; simp
    rw [e1]
    by_cases hm : x ∈ l
    · rw [if_pos (by simpa using hm)]; simp [hm]
    · rw [if_neg (by simpa using hm)]; simp [hm]
  · have hi := (List.getElem?_eq_some_iff.1 he).1
    rw [if_pos (by omega), getM_at he, guardM_true ⟨ho e (List.mem_of_getElem? he), hx⟩]
    by_cases h1 : e = x
    · rw [if_pos h1, if_pos (by simpa using h1)]; rfl
    · rw [if_neg h1, if_neg (by simpa using h1), guardM_true (i64_nat hi h)]

theorem filter_asc {l : List Setting} (h : Asc l) (P : Setting → Bool) : Asc (l.filter P) := List.Pairwise.filter P h

theorem bound21_eq (t : Table) (s : Inter) (h : TOk t) (ho : SOk t) (hc : checkI t = 0) {i : Nat} {r : Route} {x : RouteState} (hr : t.routes[i]? = some r) (hx : s.routes[i]? = some x) (hf : routeFitsB x r.sections.length = true) : ref21_bound t s (i : Int) = some (boundR t r x) := by
  have hm := List.mem_of_getElem? hr
  have hs := h.each r hm
  obtain ⟨_, _, h3, _⟩ := check_all hc
  have hrel := rel_fits hf
  have hlen : (allS r).length ≤ 3000000 := by have := hs.points; have := hs.over; have := hs.flank; simp [allS]; omega
  have hlen' := Nat.le_trans (ascS_len (allS r)) hlen
  unfold ref21_bound boundR
  rw [getM_at hx]
  by_cases h0 : x.state = 0
  · rw [if_pos h0, if_pos h0]
  · rw [if_neg h0, if_neg h0, getM_at hr, getM_at hx, guardM_true ⟨by omega, hrel.1, hrel.2⟩, Settings16_eq r hs, bindM_some]
    obtain ⟨n, hn⟩ := Int.eq_ofNat_of_zero_le hrel.1
    have hok : ∀ e ∈ allS r, Setting.ok e := ho r hm
    rw [loop_filter (ascS (allS r)) (fun e => (decide (e ∈ r.points) && keptB t r x e) || decide (e ∈ r.overPoints) || decide (e ∈ r.flank)) (by omega) (fun i e b he hb => ?_) (fun b => by dsimp only; rw [if_neg (by omega)]; rfl), bindM_some]
    · congr 1
      refine ascS_eq (filter_asc (ascS_asc _) _) fun e => ?_
      simp only [List.mem_filter, ascS_mem, allS, List.mem_append, Bool.or_eq_true, Bool.and_eq_true, decide_eq_true_eq]
      grind
    · dsimp only
      have hi : i < (ascS (allS r)).length := (List.getElem?_eq_some_iff.1 he).1
      have hin : e ∈ allS r := ascS_mem.1 (List.mem_of_getElem? he)
      obtain ⟨k, hk, hkl⟩ := sett_index (h3 r hm).2 hin
      have hh := homes_at hc hk
      have hsec := hs.secs
      have hkb : keptB t r x e = !decide (homeOf t e.el ∈ r.sections.take n) := by unfold keptB; rw [hn]; rfl
      have hpo : ∀ s ∈ r.points, Setting.ok s := fun s h => hok s (by simp [allS, h])
      have hoo : ∀ s ∈ r.overPoints, Setting.ok s := fun s h => hok s (by simp [allS, h])
      have hfo : ∀ s ∈ r.flank, Setting.ok s := fun s h => hok s (by simp [allS, h])
      have hp := hs.points
      have hov := hs.over
      have hfl := hs.flank
      rw [if_pos (by omega), getM_at he, index16_eq t e.el (by have := h.points; unfold Cnt; omega), bindM_some, hk, show idxI (some k) = (k : Int) from rfl, getM_at he]
      rw [has21_eq r.points e (by unfold Cnt; omega) hpo (hok e hin), bindM_some]
      have e1 : (if decide (e ∈ r.points) = true then getM t.homes (k : Int) fun e23 => bindM (ref02_Has (sub r.sections 0 x.rel) e23) fun r24 => some !r24 else some false) = some (decide (e ∈ r.points) && keptB t r x e) := by
        rw [getM_at hh, hn, sub_take, has02_eq _ _ (by unfold Cnt; rw [List.length_take]; omega), bindM_some, hkb]
        by_cases h5 : e ∈ r.points <;> simp [h5]
      rw [e1, bindM_some]
      have e2 : (if (decide (e ∈ r.points) && keptB t r x e) = true then some true else getM (ascS (allS r)) (i : Int) fun e28 => bindM (ref21_has r.overPoints e28) fun r29 => if r29 = true then some true else getM (ascS (allS r)) (i : Int) fun e31 => bindM (ref21_has r.flank e31) fun r32 => some r32) = some ((decide (e ∈ r.points) && keptB t r x e) || decide (e ∈ r.overPoints) || decide (e ∈ r.flank)) := by
        rw [getM_at he, has21_eq r.overPoints e (by unfold Cnt; omega) hoo (hok e hin), bindM_some, getM_at he, has21_eq r.flank e (by unfold Cnt; omega) hfo (hok e hin), bindM_some]
        cases (decide (e ∈ r.points) && keptB t r x e) <;> by_cases h6 : e ∈ r.overPoints <;> simp [h6]
      rw [e2, bindM_some]
      split
      · rename_i h1
        rw [getM_at he, guardM_true (by simp; omega), guardM_true (i64_nat hi (by omega))]
      · rename_i h1
        rw [guardM_true (i64_nat hi (by omega))]

theorem boundR_len (t : Table) (r : Route) (x : RouteState) (hs : Short r) : (boundR t r x).length ≤ 3000000 := by
  unfold boundR
  split
  · simp
  · have h1 := ascS_len (r.points.filter (keptB t r x) ++ r.overPoints ++ r.flank)
    have h2 := List.length_filter_le (keptB t r x) r.points
    have := hs.points; have := hs.over; have := hs.flank
    simp only [List.length_append] at h1
    omega
theorem boundR_mem {t : Table} {r : Route} {x : RouteState} {e : Setting} (h : e ∈ boundR t r x) : e ∈ allS r := by
  unfold boundR at h
  split at h
  · cases h
  · rw [ascS_mem] at h
    simp only [allS, List.mem_append, List.mem_filter] at h ⊢
    grind

def boundI (t : Table) (s : Inter) (n : Int) : List Setting :=
  if fitsB t s = true ∧ 0 ≤ n then match t.routes[n.toNat]?, s.routes[n.toNat]? with | some r, some x => boundR t r x | _, _ => [] else []

/-! ### Locked, contradicted -/

def meetB (a b : List Int) : Bool := a.any fun n => decide (n ∈ b)
theorem meetB_comm (a b : List Int) : meetB a b = meetB b a := by
  rw [Bool.eq_iff_iff]; simp only [meetB, List.any_eq_true, decide_eq_true_eq]; grind
theorem meet21_eq (a b : List Int) (ha : Cnt a) (hb : Cnt b) : ref21_meet a b = some (meetB a b) := by
  unfold ref21_meet
  rw [loop_any a (fun e => decide (e ∈ b)) (.inr true) (.inl ()) ha (fun i e he => ?_) (by rw [if_neg (by omega)]; rfl)]
  · unfold meetB
    cases a.any (fun e => decide (e ∈ b)) <;> rfl
  · have hi := (List.getElem?_eq_some_iff.1 he).1
    rw [if_pos (by omega), getM_at he, has02_eq b e hb, bindM_some]
    split
    · rfl
    · rw [guardM_true (i64_nat hi ha)]

def followB (a b : Route) : Bool := decide (0 ≤ a.exit) && decide (b.entry = a.exit)
theorem follows_eq (a b : Route) : conflict_Follows a b = some (followB a b) := rfl
theorem follows21_eq (t : Table) {i j : Nat} {a b : Route} (ha : t.routes[i]? = some a) (hb : t.routes[j]? = some b) : ref21_follows t (i : Int) (j : Int) = some (followB a b) := by
  unfold ref21_follows followB
  rw [getM_at ha, getM_at hb, getM_at ha]
  by_cases h : 0 ≤ a.exit <;> simp [h]

def lockedL (r : Route) (x : RouteState) : List A2_int := (pathR r x).map (fun n => ⟨n, 0⟩) ++ (overR r x).map (fun n => ⟨n, 1⟩)
theorem pathR_len (r : Route) (x : RouteState) (h : Short r) : (pathR r x).length ≤ 1000000 := by have := h.secs; unfold pathR; split <;> simp <;> omega
theorem overR_len (r : Route) (x : RouteState) (h : Short r) : (overR r x).length ≤ 1000000 := by have := h.secs; unfold overR; split <;> simp <;> omega
theorem locked_eq (r : Route) (x : RouteState) (h : Short r) (hx : routeFitsB x r.sections.length = true) : locks_locked r x = some (lockedL r x) := by
  have h1 := pathR_len r x h
  have h2 := overR_len r x h
  unfold locks_locked lockedL
  rw [lpath_eq r x h hx, bindM_some, loop_map (pathR r x) (fun n => (⟨n, 0⟩ : A2_int)) [] (by omega) (fun i e b he hb => ?_) (fun b => by dsimp only; rw [if_neg (by omega)]; rfl), bindM_some]
  · rw [lover_eq r x h, bindM_some, loop_map (overR r x) (fun n => (⟨n, 1⟩ : A2_int)) _ (by omega) (fun i e b he hb => ?_) (fun b => by dsimp only; rw [if_neg (by omega)]; rfl), bindM_some]
    · rfl
    · have hi := (List.getElem?_eq_some_iff.1 he).1
      dsimp only
      rw [if_pos (by omega), getM_at he, guardM_true (by simp at hb ⊢; omega), guardM_true (i64_nat hi (by omega))]
  · have hi := (List.getElem?_eq_some_iff.1 he).1
    dsimp only
    rw [if_pos (by omega), getM_at he, guardM_true (by simp at hb ⊢; omega), guardM_true (i64_nat hi (by omega))]

theorem has_eq (l : List A2_int) (n p : Int) (h : Cnt l) (ho : ∀ s ∈ l, A2_int.ok s) (hx : A2_int.ok ⟨n, p⟩) : locks_has l n p = some (decide ((⟨n, p⟩ : A2_int) ∈ l)) := by
  unfold locks_has
  rw [loop_any l (fun e => decide (e = ⟨n, p⟩)) (.inr true) (.inl ()) h (fun i e he => ?_) (by rw [if_neg (by omega)]; rfl)]
  · have e1 : (l.any fun e => decide (e = ⟨n, p⟩)) = decide ((⟨n, p⟩ : A2_int) ∈ l) := by rw [Bool.eq_iff_iff]; simp
    rw [e1]
    by_cases hm : (⟨n, p⟩ : A2_int) ∈ l
    · rw [if_pos (by simpa using hm)]; simp [hm]
    · rw [if_neg (by simpa using hm)]; simp [hm]
  · have hi := (List.getElem?_eq_some_iff.1 he).1
    rw [if_pos (by omega), getM_at he, guardM_true ⟨ho e (List.mem_of_getElem? he), hx⟩]
    by_cases h1 : e = ⟨n, p⟩
    · rw [if_pos h1, if_pos (by simpa using h1)]; rfl
    · rw [if_neg h1, if_neg (by simpa using h1), guardM_true (i64_nat hi h)]

/-- Do the sections that two routes lock contradict each other? -/
def clashB (a b : Route) (pa oa pb ob : List Int) : Bool :=
  meetB pa pb || (meetB oa pb && !followB a b) || (meetB pa ob && !followB b a) || (meetB oa ob && !followB a b && !followB b a)

theorem A2_ok {n : Int} (h : I64 n) (p : Int) (hp : p = 0 ∨ p = 1) : A2_int.ok ⟨n, p⟩ := by
  refine ⟨h, ?_⟩
  rcases hp with rfl | rfl <;> (simp only; unfold I64; omega)
theorem clash_eq (a b : Route) (pa oa pb ob : List Int) (hpa : pa.length ≤ 1000000 ∧ ∀ n ∈ pa, I64 n) (hoa : oa.length ≤ 1000000 ∧ ∀ n ∈ oa, I64 n) (hpb : pb.length ≤ 1000000 ∧ ∀ n ∈ pb, I64 n) (hob : ob.length ≤ 1000000 ∧ ∀ n ∈ ob, I64 n) :
    locks_clash a b (pa.map (fun n => ⟨n, 0⟩) ++ oa.map (fun n => ⟨n, 1⟩)) (pb.map (fun n => ⟨n, 0⟩) ++ ob.map (fun n => ⟨n, 1⟩)) = some (clashB a b pa oa pb ob) := by
  unfold locks_clash
  rw [follows_eq, bindM_some, follows_eq, bindM_some]
  generalize hL : (pa.map (fun n => (⟨n, 0⟩ : A2_int)) ++ oa.map (fun n => (⟨n, 1⟩ : A2_int))) = la
  generalize hM : (pb.map (fun n => (⟨n, 0⟩ : A2_int)) ++ ob.map (fun n => (⟨n, 1⟩ : A2_int))) = lb
  have hla : la.length ≤ 2000000 := by rw [← hL]; simp; omega
  have hlb : lb.length ≤ 2000000 := by rw [← hM]; simp; omega
  have hao : ∀ e ∈ la, I64 e.a0 := by
    intro e he
    rw [← hL, List.mem_append, List.mem_map, List.mem_map] at he
    rcases he with ⟨n, hn, rfl⟩ | ⟨n, hn, rfl⟩
    · exact hpa.2 n hn
    · exact hoa.2 n hn
  have hbo : ∀ e ∈ lb, A2_int.ok e := by
    intro e he
    rw [← hM, List.mem_append, List.mem_map, List.mem_map] at he
    rcases he with ⟨n, hn, rfl⟩ | ⟨n, hn, rfl⟩
    · exact A2_ok (hpb.2 n hn) 0 (.inl rfl)
    · exact A2_ok (hob.2 n hn) 1 (.inr rfl)
  rw [loop_any la (fun e => (decide ((⟨e.a0, 0⟩ : A2_int) ∈ lb) && (decide (e.a1 = 0) || !followB a b)) || (decide ((⟨e.a0, 1⟩ : A2_int) ∈ lb) && !followB b a && (decide (e.a1 = 0) || !followB a b))) (.inr true) (.inl ()) (by omega) (fun i e he => ?_) (by rw [if_neg (by omega)]; rfl)]
  · have e1 : (la.any fun e => (decide ((⟨e.a0, 0⟩ : A2_int) ∈ lb) && (decide (e.a1 = 0) || !followB a b)) || (decide ((⟨e.a0, 1⟩ : A2_int) ∈ lb) && !followB b a && (decide (e.a1 = 0) || !followB a b))) = clashB a b pa oa pb ob := by
      rw [← hL, ← hM, List.any_append, List.any_map, List.any_map, Bool.eq_iff_iff]
      unfold clashB meetB
      simp only [Bool.or_eq_true, Bool.and_eq_true, List.any_eq_true, Function.comp, List.mem_append, List.mem_map, A2_int.mk.injEq, decide_eq_true_eq, Bool.not_eq_true']
      grind
    rw [e1]
    cases clashB a b pa oa pb ob <;> rfl
  · have hi := (List.getElem?_eq_some_iff.1 he).1
    have hm := List.mem_of_getElem? he
    rw [if_pos (by omega), getM_at he, has_eq lb e.a0 0 (by unfold Cnt; omega) hbo (A2_ok (hao e hm) 0 (.inl rfl)), bindM_some, has_eq lb e.a0 1 (by unfold Cnt; omega) hbo (A2_ok (hao e hm) 1 (.inr rfl)), bindM_some]
    by_cases h1 : e.a1 = 0 <;> cases hA : followB a b <;> cases hB : followB b a <;> by_cases h2 : (⟨e.a0, 0⟩ : A2_int) ∈ lb <;> by_cases h3 : (⟨e.a0, 1⟩ : A2_int) ∈ lb <;> simp [h1, h2, h3, i64_nat hi (show la.length ≤ 9223372036854775807 by omega)]

end Go.Proofs.Ytckkkfgjgjoemaa
