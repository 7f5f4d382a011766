/- Trees in place of memory, part L: a region whose order is open: one walk in the text's order serves every order. No condition. -/
import Derived.Test.YtckkkfgjgjoemaaTlK
namespace Go.TL

variable {C : Ctx} {st : St} {g : Gh} {a : Act} {w : World}

def setOf' (S : Array Bool) : Nat → Bool := fun i => S.getD i false

theorem unlisted {listed : Array Bool} {i : Nat} (h : i < listed.size) : listed.getD i true = listed.getD i false := by simp [h]

theorem any_tail {P : Program} {ops : Array Oper} {Q : Exit → Act → World → Prop} (m : Nat) (hb : ∀ (i : Nat) (o : Oper), ops.toList[i]? = some o → ∀ e ∈ o.after, Region.binds .any e = true → e.on < i) (hl : ∀ (i j : Nat), j < ops.size → m ≤ j → i < j → Anc ops.toList j i) :
    ∀ (fuel k : Nat) (listed : Array Bool) (a : Act) (w : World), m ≤ k → k + fuel = ops.size → listed.size = ops.size → (∀ i, i < ops.size → listed.getD i false = decide (i < k)) → Cl ops.toList (setOf' listed) →
      wpList P ops Q (ops.toList.drop k) a w → wpAny P .any ops Q fuel listed a w := by
  intro fuel
  induction fuel with
  | zero =>
    intro k listed a w hmk hk hsz hlist hcl hw
    have hall : Region.ready .any ops listed = [] := by
      rw [List.eq_nil_iff_forall_not_mem]
      intro i hi
      obtain ⟨h0, o, ho, _⟩ := mem_ready.1 hi
      have hlt : i < ops.size := (Array.getElem?_eq_some_iff.1 ho).1
      have := hlist i hlt
      rw [unlisted (by omega), this] at h0
      simp at h0
      omega
    refine ⟨hall, ?_⟩
    rw [List.drop_eq_nil_of_le (by simp; omega)] at hw
    exact hw
  | succ fuel ih =>
    intro k listed a w hmk hk hsz hlist hcl hw
    have hklt : k < ops.size := by omega
    have hok : ops[k]? = some ops[k] := Array.getElem?_eq_getElem hklt
    have hok' : ops.toList[k]? = some ops[k] := by simp
    have honly : ∀ i ∈ Region.ready .any ops listed, i = k := by
      intro i hi
      obtain ⟨h0, o, ho, he⟩ := mem_ready.1 hi
      have hlt : i < ops.size := (Array.getElem?_eq_some_iff.1 ho).1
      have hge : k ≤ i := by
        rw [unlisted (by omega), hlist i hlt] at h0
        simpa using h0
      rcases Nat.lt_or_ge k i with hlt' | hge'
      · have := anc_listed hcl (hl k i hlt (by omega) hlt') fun o' ho' e he' hb => by
          have : o' = o := by
            rw [Array.getElem?_toList, ho] at ho'; exact (Option.some.inj ho').symm
          subst this
          exact he e he' hb
        have hk' := hlist k hklt
        simp only [setOf'] at this
        rw [this] at hk'
        simp at hk'
      · omega
    have hready : k ∈ Region.ready .any ops listed := by
      refine mem_ready.2 ⟨by rw [unlisted (by omega), hlist k hklt]; simp, ops[k], hok, fun e he hbe => ?_⟩
      have hlt := hb k ops[k] hok' e he hbe
      rw [hlist e.on (by omega)]; simp [hlt]
    refine ⟨fun h => (by rw [h] at hready; cases hready), fun i hi => ?_⟩
    have hik := honly i hi
    subst hik
    have hdrop : ops.toList.drop i = ops[i] :: ops.toList.drop (i + 1) := by
      rw [List.drop_eq_getElem_cons (by simpa using hklt)]; simp
    rw [hdrop] at hw
    have hnext : ∀ a w, wpList P ops Q (ops.toList.drop (i + 1)) a w → wpAny P .any ops Q fuel (listed.setIfInBounds i true) a w := fun a w h => by
      refine ih (i + 1) _ a w (by omega) (by omega) (by simpa using hsz) (fun j hj => ?_) ?_ h
      · by_cases hji : j = i
        · subst hji; simp [hsz, hklt]
        · rw [getD_set_ne false (fun e => hji e.symm), hlist j hj, Bool.eq_iff_iff]; simp; omega
      · intro j o ho hj e he hbe
        simp only [setOf'] at hj ⊢
        by_cases hji : j = i
        · subst hji
          rw [hok'] at ho; cases ho
          exact getD_set_true (by rw [hlist e.on (by have := hb j _ hok' e he hbe; omega)]; simpa using hb j _ hok' e he hbe)
        · rw [getD_set_ne false (fun e => hji e.symm)] at hj
          exact getD_set_true (hcl j o ho hj e he hbe)
    unfold wpOp
    rw [hok]
    unfold wpList at hw
    simp only
    split
    · rename_i hwant
      rw [if_pos hwant] at hw
      exact hw.imp (Oper.wp_mono hnext) id
    · rename_i hwant
      rw [if_neg hwant] at hw
      exact hnext _ _ hw

def cnt (S : Nat → Bool) : Nat → Nat
  | 0 => 0
  | n + 1 => cnt S n + if S n then 1 else 0

theorem cnt_le (S : Nat → Bool) : ∀ n, cnt S n ≤ n
  | 0 => Nat.le_refl _
  | n + 1 => by have := cnt_le S n; simp only [cnt]; split <;> omega

theorem cnt_congr {S S' : Nat → Bool} : ∀ n, (∀ i, i < n → S i = S' i) → cnt S n = cnt S' n
  | 0, _ => rfl
  | n + 1, h => by simp only [cnt, cnt_congr n fun i hi => h i (by omega), h n (by omega)]

theorem cnt_set {S S' : Nat → Bool} {j : Nat} : ∀ n, j < n → S j = false → S' j = true → (∀ i, i ≠ j → S' i = S i) → cnt S' n = cnt S n + 1
  | n + 1, hj, h0, h1, h => by
    simp only [cnt]
    by_cases e : j = n
    · subst e
      rw [cnt_congr (S := S') (S' := S) j fun i hi => h i (by omega), h0, h1]
      simp
    · rw [cnt_set n (by omega) h0 h1 h, h n (fun e' => e e'.symm)]
      omega

theorem cnt_lt {S : Nat → Bool} {j : Nat} : ∀ n, j < n → S j = false → cnt S n < n
  | n + 1, hj, h0 => by
    simp only [cnt]
    by_cases e : j = n
    · subst e; have := cnt_le S j; rw [h0]; simp; omega
    · have := cnt_lt n (by omega) h0; split <;> omega

theorem cnt_below (m : Nat) : ∀ n, m ≤ n → cnt (fun i => decide (i < m)) n = m
  | 0, h => by simp only [cnt]; omega
  | n + 1, h => by
    simp only [cnt]
    by_cases e : m = n + 1
    · subst e
      rw [cnt_congr (S' := fun i => decide (i < n)) n fun i hi => by rw [Bool.eq_iff_iff]; simp; omega, cnt_below n n (Nat.le_refl _)]
      simp
    · rw [cnt_below m n (by omega)]; simp; omega

theorem least {p : Nat → Prop} : ∀ n, p n → ∃ k, k ≤ n ∧ p k ∧ ∀ i, i < k → ¬ p i
  | 0, h => ⟨0, Nat.le_refl _, h, fun i hi => by omega⟩
  | n + 1, h => by
    by_cases hex : ∃ j, j ≤ n ∧ p j
    · obtain ⟨j, hj, hp⟩ := hex
      obtain ⟨k, hk, h1, h2⟩ := least j hp
      exact ⟨k, by omega, h1, h2⟩
    · exact ⟨n + 1, Nat.le_refl _, h, fun i hi hp => hex ⟨i, by omega, hp⟩⟩

theorem anc_lt {ops : List Oper} (hb : ∀ (i : Nat) (o : Oper), ops[i]? = some o → ∀ e ∈ o.after, Region.binds .any e = true → e.on < i) {j i : Nat} (h : Anc ops j i) : i < j := by
  induction h with
  | one j o e ho he hbe => exact hb j o ho e he hbe
  | more j o e i ho he hbe _ ih => have := hb j o ho e he hbe; omega

theorem yielded_bool' {ops : Array Oper} {i t : Nat} {b : Bool} (hs : Sim C st g a w) (ht : (ops[i]?).bind (·.dst) = some t) (hv : st.fr.get t = .d (.bool b)) : yielded ops a.tmps i = some b := by
  have h := hs.fr t
  rw [hv] at h
  have h1 := bool_inv h
  rw [Array.getD_eq_getD_getElem?] at h1
  unfold yielded
  rw [ht]
  cases ho : a.tmps[t]? with
  | none => rw [ho] at h1; simp [undef] at h1
  | some v => rw [ho] at h1; simp only [Option.getD_some] at h1; subst h1; simp [ho]

theorem hpAt_length (hp : List Blk) : ∀ l : List Rec, (hpAt hp l).length = hp.length := by
  intro l
  have : ∀ (l : List Rec) (h : List Blk), (l.foldl (fun h r => wr r.ws h) h).length = h.length := by
    intro l
    induction l with
    | nil => intro h; rfl
    | cons r l ih => intro h; simp only [List.foldl_cons]; rw [ih, wr_length]
  exact this l hp

theorem any_all {ops : Array Oper} {K : St → Prop} {fr0 : Fr} {hp0 : List Blk} {recs : List Rec} (hg : ∀ (i : Nat) (r : Rec), recs[i]? = some r → ∃ o, ops.toList[i]? = some o ∧ Good C ops fr0 hp0 (recs.take i) o r) (hE : Edges ops.toList recs)
    (hT : TOps C ops (ops.toList.drop recs.length) ⟨frAt fr0 recs, hpAt hp0 recs⟩ K) :
    ∀ (fuel : Nat) (listed : Array Bool) (a : Act) (w : World) (st : St) (g : Gh), listed.size = ops.size → Cl ops.toList (setOf' listed) → (∀ i, recs.length ≤ i → setOf' listed i = false) →
      cnt (setOf' listed) ops.size + fuel = ops.size → Sim C st g a w → Part fr0 hp0 recs (setOf' listed) st → wpAny C.P .any ops (QN C K) fuel listed a w := by
  have hm : recs.length ≤ ops.size := by
    rcases Nat.eq_zero_or_pos recs.length with h | h
    · omega
    · obtain ⟨o, ho, _⟩ := hg (recs.length - 1) _ (List.getElem?_eq_getElem (by omega))
      have := (List.getElem?_eq_some_iff.1 ho).1
      simp at this
      omega
  have ha : Apart hp0 recs := ⟨hE.ds, hE.ws, hE.wn, fun i r hi p hp => by
    obtain ⟨o, _, hG⟩ := hg i r hi
    cases hon : r.on with
    | true => have := ((hG.yes hon).1 p hp).1; rw [hpAt_length] at this; exact this
    | false => rw [(hG.no hon).2] at hp; simp at hp⟩
  intro fuel
  induction fuel with
  | zero =>
    intro listed a w st g hsz hcl htl hc hs hp
    -- everything is listed
    have hall : ∀ i, i < ops.size → setOf' listed i = true := fun i hi => by
      cases h : setOf' listed i with
      | true => rfl
      | false => have := cnt_lt ops.size hi h; omega
    have hmeq : recs.length = ops.size := by
      rcases Nat.lt_or_ge recs.length ops.size with h | h
      · have := htl recs.length (Nat.le_refl _); rw [hall _ h] at this; cases this
      · omega
    refine any_tail recs.length hE.back (fun i j hj hmj hij => hE.last i j (by simpa using hj) hmj hij) 0 recs.length listed a w (Nat.le_refl _) (by omega) hsz (fun i hi => by have := hall i hi; simp only [setOf'] at this; rw [this]; simp; omega) hcl ?_
    have htext := Part.text (fr0 := fr0) ha recs.length (Nat.le_refl _)
    rw [List.take_length] at htext
    refine hT g a w (hs.same (fun t => (hp.getEq htext t fun i r hi _ => ?_).symm) (List.ext_getElem? fun b => (hp.hpEq htext b fun i r p hi _ _ => ?_).symm))
    · have := (List.getElem?_eq_some_iff.1 hi).1; rw [hall i (by omega)]; simp [this]
    · have := (List.getElem?_eq_some_iff.1 hi).1; rw [hall i (by omega)]; simp [this]
  | succ fuel ih =>
    intro listed a w st g hsz hcl htl hc hs hp
    by_cases hfull : ∀ i, i < recs.length → setOf' listed i = true
    · -- the rest goes one by one
      have hS : ∀ i, i < ops.size → listed.getD i false = decide (i < recs.length) := fun i hi => by
        by_cases h : i < recs.length
        · have := hfull i h; simp only [setOf'] at this; rw [this]; simp [h]
        · have := htl i (by omega); simp only [setOf'] at this; rw [this]; simp [h]
      have hcm : cnt (setOf' listed) ops.size = recs.length := by
        rw [cnt_congr (S := setOf' listed) (S' := fun i => decide (i < recs.length)) ops.size hS]
        exact cnt_below _ _ hm
      refine any_tail recs.length hE.back (fun i j hj hmj hij => hE.last i j (by simpa using hj) hmj hij) (fuel + 1) recs.length listed a w (Nat.le_refl _) (by omega) hsz hS hcl ?_
      have htext := Part.text (fr0 := fr0) ha recs.length (Nat.le_refl _)
      rw [List.take_length] at htext
      refine hT g a w (hs.same (fun t => (hp.getEq htext t fun i r hi _ => ?_).symm) (List.ext_getElem? fun b => (hp.hpEq htext b fun i r p hi _ _ => ?_).symm))
      · have := (List.getElem?_eq_some_iff.1 hi).1; rw [hfull i this]; simp [this]
      · have := (List.getElem?_eq_some_iff.1 hi).1; rw [hfull i this]; simp [this]
    · have hex : ∃ i, i < recs.length ∧ setOf' listed i = false := by
        refine Classical.byContradiction fun h => hfull fun i hi => ?_
        cases hv : setOf' listed i with
        | true => rfl
        | false => exact absurd ⟨i, hi, hv⟩ h
      obtain ⟨i0, hi0, hv0⟩ := hex
      refine ⟨fun hnil => ?_, fun i hi => ?_⟩
      · -- the first that has not come may come
        obtain ⟨k, hk, hk1, hk2⟩ := least (p := fun i => setOf' listed i = false) i0 hv0
        have hklt : k < ops.size := by omega
        have hmem : k ∈ Region.ready .any ops listed := by
          refine mem_ready.2 ⟨by rw [unlisted (by omega)]; exact hk1, ops[k], Array.getElem?_eq_getElem hklt, fun e he hbe => ?_⟩
          have := hE.back k ops[k] (by simp [hklt]) e he hbe
          have h1 := hk2 e.on this
          simpa [setOf'] using h1
        rw [hnil] at hmem
        cases hmem
      · obtain ⟨hun, o, ho, he⟩ := mem_ready.1 hi
        have hlt : i < ops.size := (Array.getElem?_eq_some_iff.1 ho).1
        have hun' : setOf' listed i = false := by rw [unlisted (by omega)] at hun; exact hun
        have hoL : ops.toList[i]? = some o := by simpa using ho
        have hedge : ∀ o', ops.toList[i]? = some o' → ∀ e ∈ o'.after, Region.binds .any e = true → setOf' listed e.on = true := fun o' ho' e he' hb => by
          rw [hoL] at ho'; cases ho'; exact he e he' hb
        have him : i < recs.length := by
          rcases Nat.lt_or_ge i recs.length with h | h
          · exact h
          · have := anc_listed hcl (hE.last i0 i (by simpa using hlt) h (by omega)) hedge
            rw [this] at hv0; cases hv0
        have hri : recs[i]? = some recs[i] := List.getElem?_eq_getElem him
        obtain ⟨o', ho', hG⟩ := hg i _ hri
        rw [hoL] at ho'; cases ho'
        have htext := Part.text (fr0 := fr0) ha i (by omega)
        -- who is related to i stands as it does in the text's order
        have hrel : ∀ j, j ≠ i → (Anc ops.toList j i ∨ Anc ops.toList i j) → setOf' listed j = decide (j < i) := by
          intro j hji h
          rcases h with h | h
          · have hlt' := anc_lt hE.back h
            cases hv : setOf' listed j with
            | false => simp; omega
            | true =>
              have := anc_listed hcl h fun o' ho' e he' hb => hcl j o' ho' hv e he' hb
              rw [this] at hun'; cases hun'
          · have hlt' := anc_lt hE.back h
            rw [anc_listed hcl h hedge]; simp [hlt']
        have hslot : ∀ t, t ∈ slotsOf ops o → st.fr.get t = (frAt fr0 (recs.take i)).get t := by
          intro t ht
          refine hp.getEq htext t fun j r hj hd => ?_
          by_cases hji : j = i
          · subst hji; rw [hun']; simp
          · exact hrel j hji (hE.slot j i o r hoL hj him hji (by rw [hd]; simpa using ht))
        have hblk : ∀ b, (b ∈ recs[i].rs ∨ b ∈ recs[i].ws.map (·.1)) → st.hp[b]? = (hpAt hp0 (recs.take i))[b]? := by
          intro b hb
          refine hp.hpEq htext b fun j r p hj hpw hpb => ?_
          by_cases hji : j = i
          · subst hji; rw [hun']; simp
          · exact hrel j hji (hE.blk j i r _ hj hri hji p hpw (by rw [hpb]; exact hb))
        have hnext : ∀ (st' : St) (g' : Gh) (a' : Act) (w' : World), Sim C st' g' a' w' → st' = ⟨(recs[i].d, recs[i].x) :: st.fr, wr recs[i].ws st.hp⟩ → wpAny C.P .any ops (QN C K) fuel (listed.setIfInBounds i true) a' w' := by
          intro st' g' a' w' hs' hst
          subst hst
          have hset : ∀ j, setOf' (listed.setIfInBounds i true) j = (setOf' listed j || j == i) := by
            intro j
            simp only [setOf']
            by_cases hji : j = i
            · subst hji; simp [hsz, hlt]
            · rw [getD_set_ne false (fun e => hji e.symm)]; simp [hji]
          refine ih _ a' w' _ g' (by simpa using hsz) ?_ ?_ ?_ hs' (hp.step ha hri hun' hset)
          · intro j o' ho' hj e he' hbe
            rw [hset] at hj ⊢
            by_cases hji : j = i
            · subst hji; rw [hedge o' ho' e he' hbe]; rfl
            · simp only [beq_eq_false_iff_ne.2 hji, Bool.or_false] at hj
              rw [hcl j o' ho' hj e he' hbe]; rfl
          · intro j hj
            rw [hset, htl j hj]; simp; omega
          · have := cnt_set (S := setOf' listed) (S' := setOf' (listed.setIfInBounds i true)) ops.size hlt hun' (by rw [hset]; simp) fun j hj => by rw [hset]; simp [hj]
            omega
        unfold wpOp
        rw [ho]
        simp only
        have hwant : Region.wanted o (yielded ops a.tmps) = recs[i].on := by
          have hon := hG.on
          unfold onA at hon
          unfold Region.wanted
          split at hon
          · rename_i hgd
            rw [hgd]
            exact Option.some.inj hon
          · rename_i j want hgd
            rw [hgd]
            simp only
            split at hon
            · rename_i t ht
              have htm : t ∈ slotsOf ops o := by simp [slotsOf, hgd, ht]
              rw [← hslot t htm] at hon
              split at hon
              · rename_i b hv
                rw [yielded_bool' hs ht hv]
                have := Option.some.inj hon
                rw [← this]; simp
              · rename_i hv
                rw [yielded_und hs ht hv]
                have := Option.some.inj hon
                rw [← this]; simp
              · cases hon
            · cases hon
        cases hon : recs[i].on with
        | true =>
          rw [if_pos (by rw [hwant, hon])]
          left
          obtain ⟨hw, y0, hdst, hD⟩ := hG.yes hon
          refine hD st (fun b B hb hd => ?_) (fun p hp' => ?_) (fun p hp' hdead => ?_) (fun y hy => ?_) g a w hs _ _ fun v w' g' hs' hx => hnext _ _ _ _ (hdst.sim hs' hx) rfl
          · obtain ⟨h1, h2⟩ := mask_le hb hd
            rw [hblk b (.inl h1)]; exact h2
          · rw [hp.len]; exact ha.lt i _ hri p hp'
          · rw [hblk p.1 (.inr (List.mem_map.2 ⟨p, hp', rfl⟩))]
            rcases (hw p hp').2 with h | h
            · exact h
            · have hlt' := (hw p hp').1
              simp only [mask, List.getElem?_map, List.getElem?_zipIdx, Option.map_map, Option.map_eq_some_iff, Function.comp_def] at hdead
              obtain ⟨B', hB', e⟩ := hdead
              simp only [Nat.zero_add, List.contains_eq_mem, h, decide_true, if_true] at e
              rw [hB', e]
          · cases y with
            | tmp t =>
              simp only [Fr.ev]
              refine hslot t ?_
              simp only [slotsOf, List.mem_append, List.mem_filterMap]
              exact .inl ⟨.tmp t, by simpa using hy, rfl⟩
            | _ => rfl
        | false =>
          rw [if_neg (by rw [hwant, hon]; exact Bool.false_ne_true)]
          obtain ⟨hdst, hws⟩ := hG.no hon
          refine hnext ⟨(recs[i].d, recs[i].x) :: st.fr, st.hp⟩ g _ w ?_ (by rw [hws]; rfl)
          exact hdst.sim hs .und

/-- A region whose order is open. -/
theorem twp_draw {id : Nat} {ops : Array Oper} {Q : Exit → St → Prop} (hm : C.P.follows .mixedOrders = true) (h : TDr C ops (Q .normal) ops.toList st.fr st.hp []) : TWp C (.region id ops true) st Q := fun g a w hs => by
  have hs' : Sim C st g a w.drew := hs.drew
  obtain ⟨recs, hg, hE, hT⟩ := tdr_recs (fr0 := st.fr) (hp0 := st.hp) h rfl rfl rfl fun i r hi => by simp at hi
  have hnone : ∀ i, setOf' (Array.replicate ops.size false) i = false := fun i => by simp only [setOf']; rw [Array.getD_eq_getD_getElem?, Array.getElem?_replicate]; split <;> rfl
  have hz : ∀ n, cnt (setOf' (Array.replicate ops.size false)) n = 0 := fun n => by
    induction n with
    | zero => rfl
    | succ n ih => simp only [cnt, ih, hnone]; rfl
  have hall := any_all hg (edges_of hE) hT ops.size (Array.replicate ops.size false) a w.drew st g (by simp) (fun i o ho hi => absurd ((hnone i).symm.trans hi) Bool.false_ne_true) (fun i _ => hnone i) (by rw [hz]; omega) hs' (Part.start _ _ _ fun i _ => hnone i)
  refine Go.wp_mono (wp_region_any hm hall) ?_
  intro e a' w' hq
  cases e with
  | normal => exact hq
  | _ => exact hq.elim

theorem twp_dseq {id : Nat} {ops : Array Oper} {y : Code} {Q : Exit → St → Prop} (hm : C.P.follows .mixedOrders = true) (h : TDr C ops (fun st' => TWp C y st' Q) ops.toList st.fr st.hp []) : TWp C (.seq (.region id ops true) y) st Q := twp_seq (twp_draw hm h)

end Go.TL
