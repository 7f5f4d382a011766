/- Texts of this proof, joined, without what it does not use. No condition. -/
import Derived.Deep.CondSized
import Derived.JoinedCond
import Derived.Test.YtofndjhpbonpbaaGreatDoorQf

namespace Go.TL
open Go.ChangeShapes Go.WideShapes Go.RowKit Go.Deep Go.ChangeAt
mutual
def D.bulk:D->Nat
  | .str s=>s.size+1
  | .agg cs=>D.bulks cs+1
  | .sl _ es=>D.bulks es+1
  | _=>1
def D.bulks:List D->Nat
  | []=>0
  | d :: r=>d.bulk+D.bulks r
end
mutual
def dJ {H:Type}:DataW H->Nat
  | .lit (.string bytes)=>bytes.length+1
  | .lit _=>1
  | .nil=>1
  | .ptr d=>dJ d+1
  | .slice elems spare=>mZ elems+mZ spare+1
  | .agg parts=>mZ parts+1
  | .iface _ d=>dJ d+1
  | .map entries=>qHB entries+1
  | .held _=>1
def mZ {H:Type}:List (DataW H)->Nat
  | []=>0
  | d :: r=>dJ d+mZ r
def qHB {H:Type}:List (Lit×DataW H)->Nat
  | []=>0
  | x :: r=>wI x+qHB r
def wI {H:Type}:Lit×DataW H->Nat
  | (.string bytes,d)=>bytes.length+dJ d+1
  | (_,d)=>dJ d+1
end
theorem D.bulks_append:∀ (a b:List D),D.bulks (a++b)=D.bulks a+D.bulks b
  | [],b=>by simp [D.bulks]
  | x :: a,b=>by simp [D.bulks,D.bulks_append a b];omega
theorem mY {H:Type} (d:DataW H):1<=dJ d:=by
  cases d with
  | lit l=>cases l<;>simp [dJ]
  | nil=>simp [dJ]
  | ptr d=>simp [dJ]
  | slice elems spare=>simp [dJ]
  | agg parts=>simp [dJ]
  | iface t d=>simp [dJ]
  | map entries=>simp [dJ]
  | held h=>simp [dJ]
variable {P:Program} {H:Type} {enc:TypeId×Value->H} {w:World} {base:Nat} {spare:Nat->Bool} {held:Bool}
theorem yS:∀ (l:List (DataW H)),mZ l=(l.map dJ).sum
  | []=>by simp [mZ]
  | d :: r=>by simp [mZ,yS r]
theorem qRI:∀ (ds:List D) (bs:List Nat),ds.length=bs.length->(∀ (i:Nat) (d:D) (b:Nat),ds[i]?=some d->bs[i]?=some b->d.bulk<=b)->D.bulks ds<=bs.sum
  | [],_,_,_=>by simp [D.bulks]
  | d :: ds,[],h,_=>by simp at h
  | d :: ds,b :: bs,h,hb=>by
    have h1:=hb 0 d b rfl rfl;have h2:=qRI ds bs (by simpa using h) λi d b hd hb'=>hb (i+1) d b (by simpa using hd) (by simpa using hb');simp only [D.bulks,List.sum_cons];omega
theorem qZH {cs : List Value} (S : List TypeId) (m : Nat) (ok : ∀ f : Field, f.type ∈ S -> ∀ (cs : List Value) (x : DataW H × List MemPlace), DataW.trod enc P w base spare held m f.type cs = some x -> (∀ n ∈ x.1.weights P f.type, n <= reachBytes) ->
      ∃ ds, HasTy P f.type ds /\ Pw (DRep w (· < w.heap.size)) ds cs /\ (∀ d ∈ ds, d.one = true) /\ D.bulks ds <= dJ x.1) (tot : Nat) (hcs : cs.length = tot) :
    ∀ (fs:List Field) (bs:List Nat) (o:Nat),fs.length=bs.length->pO P fs o tot=true->(∀ f∈fs,f.type∈S)->(∀ (i:Nat) (f:Field) (b:Nat),fs[i]?=some f->bs[i]?=some b->∃ x,DataW.trod enc P w base spare held m f.type ((cs.drop f.offset).take (P.cellsOf f.type))=some x/\(∀ n∈x.1.weights P f.type,n<=reachBytes)/\dJ x.1<=b)->o<=tot->
      ∃ ds,Pw (DRep w (· < w.heap.size)) ds (cs.drop o)/\(∀ d∈ds,d.one=true)/\D.bulks ds<=bs.sum/\∀ f∈fs,o<=f.offset/\HasTy P f.type ((ds.drop (f.offset - o)).take (P.cellsOf f.type))
  | [],_,o,_,ht,_,_,_=>by
    simp only [pO,beq_iff_eq] at ht;refine⟨[],⟨by simp;omega,λi x y hx=>by simp at hx⟩,λd hd=>by simp at hd,by simp [D.bulks],λf hf=>by simp at hf⟩
  | f :: r,[],o,hbl,_,_,_,_=>by simp at hbl
  | f :: r,b :: bs,o,hbl,ht,hp,hx,hle=>by
    simp only [pO,Bool.and_eq_true,beq_iff_eq] at ht;obtain⟨x,hfx,hwx,hbx⟩:=hx 0 f b rfl rfl;obtain⟨d1,t1,p1,o1,b1⟩:=ok f (hp f (by simp)) _ x hfx hwx
    have hle':o+P.cellsOf f.type<=tot:=by
      have:∀ (l:List Field) (k:Nat),pO P l k tot=true->k<=tot:=by
        intro l
        induction l with
        | nil=>intro k h;simp only [pO,beq_iff_eq] at h;omega
        | cons g l ih=>intro k h;simp only [pO,Bool.and_eq_true,beq_iff_eq] at h;have:=ih _ h.2;omega
      exact this r _ ht.2
    obtain⟨d2,p2,o2,b2,t2⟩:=qZH S m ok tot hcs r bs (o+P.cellsOf f.type) (by simpa using hbl) ht.2 (λg hg=>hp g (by simp [hg])) (λi g b hg hb=>hx (i+1) g b (by simpa using hg) (by simpa using hb)) hle';have hl1:d1.length=P.cellsOf f.type:=by have:=p1.1;simp at this;omega
    have hsplit:cs.drop o=(cs.drop o).take (P.cellsOf f.type)++cs.drop (o+P.cellsOf f.type):=by
      rw [<- List.drop_drop,List.take_append_drop]
    refine⟨d1++d2,?_,λd hd=>?_,by rw [D.bulks_append,List.sum_cons];omega,λg hg=>?_⟩
    · rw [hsplit]
      rw [ht.1] at p1;exact p1.append p2
    · simp only [List.mem_append] at hd
      rcases hd with hd|hd
      · exact o1 d hd
      exact o2 d hd
    simp only [List.mem_cons] at hg;rcases hg with rfl|hg
    · refine ⟨by omega, ?_⟩
      rw [ht.1,Nat.sub_self,List.drop_zero,List.take_append_of_le_length (by omega),List.take_of_length_le (by omega)];exact t1
    obtain⟨h1,h2⟩:=t2 g hg;refine⟨by omega,?_⟩;rw [show g.offset - o=d1.length+(g.offset - (o+P.cellsOf f.type)) by omega,List.drop_append];simp only [Nat.add_sub_cancel_left];rw [List.drop_eq_nil_of_le (by omega),List.nil_append];exact h2
theorem vJ {S:List TypeId} (hS:zT P S=true):∀ (fuel:Nat) (t:TypeId),t∈S->∀ (cs:List Value) (x:DataW H×List MemPlace),DataW.trod enc P w base spare held fuel t cs=some x->(∀ n∈x.1.weights P t,n<=reachBytes)->
    ∃ ds,HasTy P t ds/\Pw (DRep w (· < w.heap.size)) ds cs/\(∀ d∈ds,d.one=true)/\D.bulks ds<=dJ x.1/\(bC P t ds).bulk<=dJ x.1
  | 0,_,_,_,_,h,_=>by simp [DataW.trod] at h
  | n+1,t,hp,cs,x,h,hwt=>by
    have hp:qLX P S t=true:=List.all_eq_true.1 hS t hp
    have one : ∀ (d : D) (v : Value), DRep w (· < w.heap.size) d v -> Pw (DRep w (· < w.heap.size)) [d] [v] := fun d v hd => ⟨rfl, fun i x y hx hy => by
      cases i with
      | zero => simp at hx hy; subst hx hy; exact hd
      | succ i => simp at hx⟩
    unfold qLX at hp;split at hp
    · rename_i hu
      obtain⟨b,rfl,_⟩:=DataW.trod_bool hu h;exact⟨[.bool b],.bool t hu b,one _ _ (.bool b),λd hd=>by simp at hd;subst hd;rfl,by have:=mY x.1;simp [D.bulks,D.bulk];omega,by have:=mY x.1;simp [bC,hu,D.bulk];omega⟩
    · rename_i k hu
      obtain⟨m,rfl,_,hw⟩:=DataW.trod_int hu h;have:k.min<=m/\m<=k.max:=by simpa [Lit.wf] using hw
      exact⟨[.int k m],.int t k hu m this,one _ _ (.int k m),λd hd=>by simp at hd;subst hd;rfl,by have:=mY x.1;simp [D.bulks,D.bulk];omega,by have:=mY x.1;simp [bC,hu,D.bulk];omega⟩
    · rename_i hu
      obtain⟨s,rfl,rfl,hs⟩:=DataW.trod_string hu h;have hs:s.size<=reachBytes:=by have:=hwt s.data.toList.length (by simp [DataW.weights]);simpa using this
      exact⟨[.str s],.str t hu s hs,one _ _ (.str s),λd hd=>by simp at hd;subst hd;rfl,by simp only [D.bulks,D.bulk,dJ,Array.length_toList,Nat.add_zero];exact Nat.le_refl _,by simp only [bC,hu,List.headD_cons,D.bulk,dJ,Array.length_toList];exact Nat.le_refl _⟩
    · rename_i e hu
      simp only [Bool.and_eq_true,decide_eq_true_eq,List.contains_iff_mem] at hp;rcases DataW.trod_slice hu h with ⟨rfl,_⟩|⟨ad,len,cap,elems,rest,n',hn',rfl,rfl,hb,hl,hm,hlen0,hel,_⟩
      · exact⟨[.sl (P.cellsOf e) []],.sl t e hu [] (Nat.zero_le _) (λc hc=>by simp at hc) (λc hc=>by simp at hc),one _ _ (.sl0 _ _ _),λd hd=>by simp at hd;subst hd;rfl,by have:=mY x.1;simp [D.bulks,D.bulk];omega,by have:=mY x.1;simp [bC,hu,D.bulk,D.bulks];omega⟩
      obtain rfl : n = n' := by omega
      have hex:∀ i,i < len->∃ ds vs,w.cells? base (ad.add (i * P.cellsOf e)) (P.cellsOf e)=some vs/\HasTy P e ds/\Pw (DRep w (· < w.heap.size)) ds vs/\(∀ d∈ds,d.one=true)/\∀ x,elems[i]?=some x->(bC P e ds).bulk<=dJ x.1:=by
        intro i hi;have he:=hel i hi;rw [List.getElem?_eq_getElem (by omega)] at he;obtain⟨vs,hvs,htr⟩:=Option.bind_eq_some_iff.1 he
        have hwe : ∀ m ∈ (elems[i]).1.weights P e, m <= reachBytes := fun m hm' => hwt m (by
          simp only [DataW.weights, hu, List.mem_cons, List.mem_append]
          exact .inr (.inl (qDA (List.mem_map.2 ⟨elems[i], by simp, rfl⟩) m hm')))
        obtain⟨ds,h1,h2,h3,_,h5⟩:=vJ hS n e hp.1.1 vs _ htr hwe;exact⟨ds,vs,hvs,h1,h2,h3,λx hx=>by rw [List.getElem?_eq_getElem (by omega)] at hx;cases hx;exact h5⟩
      have hall:∀ k,k<=len->∃ css:List (List D),css.length=k/\∀ (i:Nat) (cs:List D),css[i]?=some cs->∃ vs,w.cells? base (ad.add (i * P.cellsOf e)) (P.cellsOf e)=some vs/\HasTy P e cs/\Pw (DRep w (· < w.heap.size)) cs vs/\(∀ d∈cs,d.one=true)/\∀ x,elems[i]?=some x->(bC P e cs).bulk<=dJ x.1:=by
        intro k
        induction k with
        | zero=>intro _;exact⟨[],rfl,λi cs h=>by simp at h⟩
        | succ k ih=>
          intro hk;obtain⟨css,h1,h2⟩:=ih (by omega);obtain⟨ds,vs,g1,g2,g3,g4⟩:=hex k (by omega);refine⟨css++[ds],by simp [h1],λi cs hi=>?_⟩;rw [List.getElem?_append] at hi;split at hi
          · exact h2 i cs hi
          rename_i hge
          have:i=k:=by
            rcases Nat.lt_or_ge (i - css.length) 1 with h|h
            · omega
            rw [List.getElem?_eq_none (by simpa using h)] at hi;cases hi
          subst this;rw [h1,Nat.sub_self] at hi;simp at hi;subst hi;exact⟨vs,g1,g2,g3,g4⟩
      obtain⟨css,hcl,hcs⟩:=hall len (Nat.le_refl _)
      have hsz:∀ (i:Nat) (cs:List D),css[i]?=some cs->cs.length=P.cellsOf e:=λi cs hi=>by
        obtain⟨vs,g1,_,g3,_⟩:=hcs i cs hi;obtain⟨_,g5,_⟩:=World.cells?_some g1;rw [g3.1,g5]
      have hof:∀ (i:Nat) (cs:List D),css[i]?=some cs->(bC P e cs).cells=cs:=by
        intro i cs hi;have hl':=hsz i cs hi;obtain⟨vs,_,_,_,g4,_⟩:=hcs i cs hi
        have h1:P.cellsOf e=1->cs.headD .nilsl=cs.headD .nilsl->(cs.headD .nilsl).cells=cs:=by
          intro he _
          match cs,(hl'.trans he),g4 with
          | [c],_,g4=>exact D.cells_one (g4 c (by simp))
        have h2:=hp.2;unfold bC
        cases hue:P.underlying e with
        | none=>rw [hue] at h2;exact h1 (by simpa using h2) rfl
        | some ue=>
          rw [hue] at h2;cases ue<;>first|rfl|exact h1 (by simpa using h2) rfl
      have hmem:∀ cs∈css,∃ i,css[i]?=some cs:=λcs hc=>List.getElem?_of_mem hc
      have hbulk:D.bulks (css.map (bC P e))+1<=dJ (DataW.slice (H:=H) (elems.map (·.1)) (rest.map (·.1))):=by
        have hel':elems.length=len:=by omega
        have:=qRI (css.map (bC P e)) ((elems.map (·.1)).map dJ) (by simp;omega) λi d b hd hb=>by
          simp only [List.getElem?_map,Option.map_eq_some_iff] at hd hb;obtain⟨cs,hc,rfl⟩:=hd;obtain⟨_,⟨x,hx,rfl⟩,rfl⟩:=hb;obtain⟨_,_,_,_,_,g5⟩:=hcs i cs hc;exact g5 x hx
        simp only [dJ];rw [<- yS] at this;omega
      refine ⟨[.sl (P.cellsOf e) (css.map (bC P e))], .sl t e hu css (by
        have h1 := hwt ((elems.length + rest.length) * P.bytesOf e) (by simp [DataW.weights, hu]);have h2 := Nat.le_mul_of_pos_right (elems.length + rest.length) hp.1.2.2
        omega) (fun cs hc => by obtain ⟨i, hi⟩ := hmem cs hc; exact hsz i cs hi) (fun cs hc => by obtain ⟨i, hi⟩ := hmem cs hc; obtain ⟨_, _, g, _⟩ := hcs i cs hi; exact g), one _ _ ?_, fun d hd => by simp at hd; subst hd; rfl, by simp only [D.bulks, D.bulk, Nat.add_zero]; exact hbulk, by simp only [bC, hu, List.headD_cons, D.bulk]; exact hbulk⟩
      by_cases hnil:css=[]
      · subst hnil
        have:len=0:=by simpa using hcl.symm
        subst this;exact .sl0 _ _ _
      have hgetc:∀ (i:Nat) (d:D),(css.map (bC P e))[i]?=some d->∃ cs,css[i]?=some cs/\d.cells=cs:=by
        intro i d hi;simp only [List.getElem?_map,Option.map_eq_some_iff] at hi;obtain⟨cs,hc,rfl⟩:=hi;exact⟨cs,hc,hof i cs hc⟩
      have hcell:∀ (i:Nat) (d:D) (j:Nat) (c:D),(css.map (bC P e))[i]?=some d->d.cells[j]?=some c->∃ v,w.cell? (ad.add (i * P.cellsOf e+j))=some v/\DRep w (· < w.heap.size) c v:=by
        intro i d j c hi hj;obtain⟨cs,hc,hd⟩:=hgetc i d hi;rw [hd] at hj;obtain⟨vs,g1,_,g3,_⟩:=hcs i cs hc;obtain⟨_,g5,g6⟩:=World.cells?_some g1;have hjl:j < vs.length:=by rw [<- g3.1];exact (List.getElem?_eq_some_iff.1 hj).1
        refine⟨vs[j],?_,g3.2 j c _ hj (List.getElem?_eq_getElem hjl)⟩;rw [<- qAY,g6 j (by omega)];exact List.getElem?_eq_getElem hjl
      have hlen:(css.map (bC P e)).length=len:=by simpa using hcl
      by_cases hblk:ad.block < w.heap.size
      · have hfin := DRep.sl (w := w) (X := (· < w.heap.size)) (P.cellsOf e) (css.map (bC P e)) ad cap (fun i j => (w.cell? (ad.add (i * P.cellsOf e + j))).getD undef) hblk (by omega)
          (λi d hi=>by obtain⟨cs,hc,hd⟩:=hgetc i d hi;rw [hd];exact hsz i cs hc)
          (fun i d j c hi hj => by
            obtain ⟨cs, hc, hd⟩ := hgetc i d hi;rw [hd] at hj;obtain ⟨_, _, _, _, g4, _⟩ := hcs i cs hc
            exact g4 c (List.mem_of_getElem? hj))
          (λi d j c hi hj=>by obtain⟨v,hv,_⟩:=hcell i d j c hi hj;rw [hv];rfl)
          (λi d j c hi hj=>by obtain⟨v,hv,hd⟩:=hcell i d j c hi hj;rw [hv];exact hd)
        rw [hlen] at hfin;exact hfin
      -- no cell at all: elements without cells
      exfalso;obtain⟨cs,r,rfl⟩:=List.exists_cons_of_ne_nil hnil;obtain⟨vs,g1,_,g3,_⟩:=hcs 0 cs rfl;obtain⟨_,g5,g6⟩:=World.cells?_some g1;have h6:=g6 0 (by have:=hp.1.2.1;omega);have hv:w.cell? ((ad.add (0 * P.cellsOf e)).add 0)=some (vs[0]'(by have:=hp.1.2.1;omega)):=h6.trans (List.getElem?_eq_getElem _);have:=World.block_lt_of_cell? w _ hv;exact hblk (by simpa [Addr.add] using this)
    · rename_i fs hu
      simp only [Bool.and_eq_true,List.all_eq_true,List.contains_iff_mem] at hp;obtain⟨xs,m,hnm,rfl,hlen,hxl,hf⟩:=DataW.trod_struct hu h;obtain rfl:n=m:=by omega
      obtain ⟨ds, p, o, b', t'⟩ := qZH S n (fun f hpf cs x hx hw => by obtain ⟨ds, h1, h2, h3, h4, _⟩ := vJ hS n f.type hpf cs x hx hw; exact ⟨ds, h1, h2, h3, h4⟩) (P.cellsOf t) hlen fs.toList ((xs.map (·.1)).map dJ) 0 (by simp [hxl]) hp.1 (fun f hf' => hp.2 f hf') (fun i f b hi hb => by
        have hi' : fs[i]? = some f := by simpa using hi
        have hlt : i < xs.length := by rw [hxl]; exact (Array.getElem?_eq_some_iff.1 hi').1
        refine ⟨xs[i], (hf i f hi').trans (List.getElem?_eq_getElem hlt), fun m hm' => hwt m ?_, by simp [List.getElem?_eq_getElem hlt] at hb; omega⟩;simp only [DataW.weights, hu]
        exact DataW.weights_mem_each (j := i) (t := f.type) (d := xs[i].1) (by simp [hi]) (by simp [hlt]) m hm') (Nat.zero_le _)
      rw [List.drop_zero] at p;rw [<- yS] at b';refine⟨ds,.struct t fs hu ds (by rw [p.1,hlen]) (λi f hi=>?_),p,o,by simp only [dJ];omega,by simp only [bC,hu,D.bulk,dJ];omega⟩;have:=(t' f (Array.mem_toList_iff.2 (Array.mem_of_getElem? hi))).2;simpa using this
    cases hp
theorem qYG {S : List TypeId} (hS : zT P S = true) {t : TypeId} {v : Value} {d : DataW H} {ps : List MemPlace} (hp : qLY P S t = true) {base : Nat} (ok : Value.okWide P w .any base t v) (h : DataW.Trod enc P w 0 (fun _ => true) true t v d ps) (hwt : ∀ n ∈ d.weights P t, n <= reachBytes) :
    ∃ cs,cs.length=P.cellsOf t/\HasTy P t cs/\DRep w (· < w.heap.size) (bC P t cs) v/\(bC P t cs).bulk<=dJ d:=by
  simp only [qLY,Bool.and_eq_true,List.contains_iff_mem] at hp;obtain⟨fuel,hf⟩:=h;obtain⟨ds,ht,hpw,ho,_,hbk⟩:=vJ hS fuel t hp.1 _ _ hf hwt;refine⟨ds,ht.length hp.2,ht,?_,hbk⟩
  have single:(∀ xs,v≠.agg xs)->(bC P t ds=ds.headD .nilsl)->DRep w (· < w.heap.size) (bC P t ds) v:=by
    intro hv he;have hc:v.cells=#[v]:=by cases v<;>first|rfl|exact absurd rfl (hv _)
    rw [hc] at hpw;rw [he]
    match ds,hpw with
    | [c],hpw=>exact hpw.2 0 c v rfl rfl
    | [],hpw=>have:=hpw.1;simp at this
    | _ :: _ :: _,hpw=>have:=hpw.1;simp at this
  cases ht with
  | bool _ hu=>obtain⟨b,rfl⟩:=okWide_bool hu ok;exact single (λ_ h=>by cases h) (by simp [bC,hu])
  | int _ _ hu=>obtain⟨b,rfl⟩:=okWide_int hu ok;exact single (λ_ h=>by cases h) (by simp [bC,hu])
  | str _ hu=>obtain⟨b,rfl⟩:=okWide_string hu ok;exact single (λ_ h=>by cases h) (by simp [bC,hu])
  | sl _ _ hu=>obtain⟨_,_,_,rfl⟩:=okWide_slice hu ok;exact single (λ_ h=>by cases h) (by simp [bC,hu])
  | struct _ _ hu _ hl=>
    obtain⟨cs,rfl,hs⟩:=okWide_struct hu ok;have:bC P t ds=.agg ds:=by simp [bC,hu]
    rw [this];exact .agg ds cs (by simpa [Value.cells] using hpw.1) ho λi c v hc hv=>hpw.2 i c v hc (by simpa [Value.cells] using hv)
theorem qHG {S : List TypeId} (hS : zT P S = true) : ∀ {ts : List TypeId} {vs : List Value} {ds : List (DataW H)} {ps : List MemPlace} {base : Nat}, (∀ t ∈ ts, qLY P S t = true) -> (∀ (j : Nat) t v, ts[j]? = some t -> vs[j]? = some v -> Value.okWide P w .any base t v) -> DataW.TrodAll enc P w 0 (fun _ => true) true ts vs ds ps -> (∀ n ∈ DataW.weightsEach P ts ds, n <= reachBytes) ->
    ds.length=ts.length/\∃ es,qHR P ts es/\Pw (DRep w (· < w.heap.size)) es vs/\D.bulks es<=mZ ds
  | [],[],[],_,_,_,_,_,_=>⟨rfl,[],trivial,⟨rfl,λi x y hx=>by simp at hx⟩,by simp [D.bulks]⟩
  | t :: ts,v :: vs,d :: ds,ps,base,hp,hok,h,hwt=>by
    obtain⟨p,q,h1,h2,_⟩:=h;obtain⟨cs,k1,k2,k3,kb⟩:=qYG hS (hp t (by simp)) (hok 0 t v rfl rfl) h1 (λn hn=>hwt n (by simp only [DataW.weightsEach,List.mem_append];exact .inl hn));obtain⟨k4,es,k5,k6,k7⟩:=qHG hS (λt ht=>hp t (by simp [ht])) (λj t v ht hv=>hok (j+1) t v (by simpa using ht) (by simpa using hv)) h2 (λn hn=>hwt n (by simp only [DataW.weightsEach,List.mem_append];exact .inr hn));refine⟨by simp [k4],_ :: es,⟨⟨cs,k1,k2,rfl⟩,k5⟩,⟨by simp [k6.1],λi x y hx hy=>?_⟩,by simp only [D.bulks,mZ];omega⟩
    cases i with
    | zero=>simp at hx hy;subst hx hy;exact k3
    | succ i=>exact k6.2 i x y (by simpa using hx) (by simpa using hy)
  | [],_ :: _,_,_,_,_,_,h,_=>by simp [DataW.TrodAll] at h
  | [],[],_ :: _,_,_,_,_,h,_=>by simp [DataW.TrodAll] at h
  | _ :: _,[],_,_,_,_,_,h,_=>by simp [DataW.TrodAll] at h
  | _ :: _,_ :: _,[],_,_,_,_,h,_=>by simp [DataW.TrodAll] at h
end Go.TL
