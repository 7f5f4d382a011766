/- Texts of this proof, joined, without what it does not use. No condition. -/
import Derived.SizedLaws
import Derived.ProofKit
import Derived.Deep.Slices
import Derived.Carry
import Derived.KernelRfl
import Derived.Test.YtdkhkhidekpfoaaQe

namespace Go.TL
open Go.ChangeShapes Go.WideShapes Go.RowKit Go.Deep
variable {P:Program}
def aL (P:Program) (e:TypeId) (cs:List D):D:=
  match P.underlying e with
  | some (.struct _)=>.agg cs
  | some (.array _ _)=>.agg cs
  | _=>cs.headD .nilsl
inductive HasTy (P:Program):TypeId->List D->Prop
  | bool (t:TypeId) (ht:P.underlying t=some .bool) (b:Bool):HasTy P t [.bool b]
  | int (t:TypeId) (k:IntKind) (ht:P.underlying t=some (.int k)) (n:Int) (h:k.min<=n/\n<=k.max):HasTy P t [.int k n]
  | str (t:TypeId) (ht:P.underlying t=some .string) (s:ByteArray) (h:s.size<=reachBytes):HasTy P t [.str s]
  | sl (t e:TypeId) (ht:P.underlying t=some (.slice e)) (css:List (List D)) (hl:css.length<=reachBytes) (h0:∀ cs∈css,cs.length=P.cellsOf e) (h:∀ cs∈css,HasTy P e cs):HasTy P t [.sl (P.cellsOf e) (css.map (aL P e))]
  | struct (t:TypeId) (fs:Array Field) (ht:P.underlying t=some (.struct fs)) (cs:List D) (hl:cs.length=P.cellsOf t) (h:∀ (i:Nat) (f:Field),fs[i]?=some f->HasTy P f.type ((cs.drop f.offset).take (P.cellsOf f.type))):HasTy P t cs
theorem HasTy.int_inv {t:TypeId} {k:IntKind} {cs:List D} (h:HasTy P t cs) (ht:P.underlying t=some (.int k)):∃ n,cs=[.int k n]/\k.min<=n/\n<=k.max:=by
  cases h with
  | bool _ h=>rw [ht] at h;cases h
  | int _ _ h n hn=>rw [ht] at h;cases h;exact⟨n,rfl,hn.1,hn.2⟩
  | str _ h=>rw [ht] at h;cases h
  | sl _ _ h=>rw [ht] at h;cases h
  | struct _ _ h=>rw [ht] at h;cases h
theorem HasTy.sl_inv {t e:TypeId} {cs:List D} (h:HasTy P t cs) (ht:P.underlying t=some (.slice e)):∃ css:List (List D),cs=[.sl (P.cellsOf e) (css.map (aL P e))]/\css.length<=reachBytes/\(∀ cs∈css,cs.length=P.cellsOf e)/\∀ cs∈css,HasTy P e cs:=by
  cases h with
  | bool _ h=>rw [ht] at h;cases h
  | int _ _ h=>rw [ht] at h;cases h
  | str _ h=>rw [ht] at h;cases h
  | sl _ _ h css h1 h2 h3=>rw [ht] at h;cases h;exact⟨css,rfl,h1,h2,h3⟩
  | struct _ _ h=>rw [ht] at h;cases h
theorem HasTy.struct_inv {t:TypeId} {fs:Array Field} {cs:List D} (h:HasTy P t cs) (ht:P.underlying t=some (.struct fs)):cs.length=P.cellsOf t/\∀ (i:Nat) (f:Field),fs[i]?=some f->HasTy P f.type ((cs.drop f.offset).take (P.cellsOf f.type)):=by
  cases h with
  | bool _ h=>rw [ht] at h;cases h
  | int _ _ h=>rw [ht] at h;cases h
  | str _ h=>rw [ht] at h;cases h
  | sl _ _ h=>rw [ht] at h;cases h
  | struct _ _ h _ h1 h2=>rw [ht] at h;cases h;exact⟨h1,h2⟩
theorem uO {α:Type} {e:TypeId} (enc:α->D) (wf:α->Prop) (hinv:∀ cs,cs.length=P.cellsOf e->HasTy P e cs->∃ x,wf x/\aL P e cs=enc x):∀ css:List (List D),(∀ cs∈css,cs.length=P.cellsOf e)->(∀ cs∈css,HasTy P e cs)->
    ∃ xs:List α,xs.length=css.length/\(∀ x∈xs,wf x)/\css.map (aL P e)=xs.map enc
  | [],_,_=>⟨[],rfl,λx hx=>by simp at hx,rfl⟩
  | cs :: r,h0,h=>by
    obtain⟨x,hx,he⟩:=hinv cs (h0 cs (by simp)) (h cs (by simp));obtain⟨xs,h1,h2,h3⟩:=uO enc wf hinv r (λc hc=>h0 c (by simp [hc])) (λc hc=>h c (by simp [hc]));refine⟨x :: xs,by simp [h1],λy hy=>?_,by simp [he,h3]⟩;simp only [List.mem_cons] at hy;rcases hy with rfl|hy
    · exact hx
    exact h2 y hy
theorem HasTy.list {α:Type} {t e:TypeId} {cs:List D} (h:HasTy P t cs) (ht:P.underlying t=some (.slice e)) (enc:α->D) (wf:α->Prop) (hinv:∀ cs,cs.length=P.cellsOf e->HasTy P e cs->∃ x,wf x/\aL P e cs=enc x):
    ∃ xs:List α,cs=[.sl (P.cellsOf e) (xs.map enc)]/\xs.length<=reachBytes/\∀ x∈xs,wf x:=by
  obtain⟨css,rfl,h1,h2,h3⟩:=h.sl_inv ht;obtain⟨xs,e1,e2,e3⟩:=uO enc wf hinv css h2 h3;exact⟨xs,by rw [e3],by omega,e2⟩
def eT (P:Program):List Field->Nat->Nat->Bool
  | [],o,n=>o == n
  | f :: r,o,n=>f.offset == o&&eT P r (o+P.cellsOf f.type) n
def pX (P:Program) (S:List TypeId) (t:TypeId):Bool:=
  match P.underlying t with
  | some .bool=>true
  | some (.int _)=>true
  | some .string=>true
  | some (.slice e)=>S.contains e&&decide (0 < P.cellsOf e/\0 < P.bytesOf e)&&(match P.underlying e with|some (.struct _)=>true|some (.array _ _)=>true|_=>P.cellsOf e == 1)
  | some (.struct fs)=>eT P fs.toList 0 (P.cellsOf t)&&fs.toList.all λf=>S.contains f.type
  | _=>false
def jY (P:Program) (S:List TypeId):Bool:=S.all (pX P S)
variable {H:Type} {enc:TypeId×Value->H} {w:World} {base:Nat} {spare:Nat->Bool} {held:Bool}
theorem zY {cs : List Value} (S : List TypeId) (m : Nat) (ok : ∀ f : Field, f.type ∈ S -> ∀ (cs : List Value) (x : DataW H × List MemPlace), DataW.trod enc P w base spare held m f.type cs = some x -> (∀ n ∈ x.1.weights P f.type, n <= reachBytes) ->
      ∃ ds, HasTy P f.type ds /\ Pw (DRep w (· < w.heap.size)) ds cs /\ ∀ d ∈ ds, d.one = true) (tot : Nat) (hcs : cs.length = tot) :
    ∀ (fs:List Field) (o:Nat),eT P fs o tot=true->(∀ f∈fs,f.type∈S)->(∀ f∈fs,∃ x,DataW.trod enc P w base spare held m f.type ((cs.drop f.offset).take (P.cellsOf f.type))=some x/\∀ n∈x.1.weights P f.type,n<=reachBytes)->o<=tot->
      ∃ ds,Pw (DRep w (· < w.heap.size)) ds (cs.drop o)/\(∀ d∈ds,d.one=true)/\∀ f∈fs,o<=f.offset/\HasTy P f.type ((ds.drop (f.offset - o)).take (P.cellsOf f.type))
  | [],o,ht,_,_,_=>by
    simp only [eT,beq_iff_eq] at ht;refine⟨[],⟨by simp;omega,λi x y hx=>by simp at hx⟩,λd hd=>by simp at hd,λf hf=>by simp at hf⟩
  | f :: r,o,ht,hp,hx,hle=>by
    simp only [eT,Bool.and_eq_true,beq_iff_eq] at ht;obtain⟨x,hfx,hwx⟩:=hx f (by simp);obtain⟨d1,t1,p1,o1⟩:=ok f (hp f (by simp)) _ x hfx hwx
    have hle':o+P.cellsOf f.type<=tot:=by
      have:∀ (l:List Field) (k:Nat),eT P l k tot=true->k<=tot:=by
        intro l
        induction l with
        | nil=>intro k h;simp only [eT,beq_iff_eq] at h;omega
        | cons g l ih=>intro k h;simp only [eT,Bool.and_eq_true,beq_iff_eq] at h;have:=ih _ h.2;omega
      exact this r _ ht.2
    obtain⟨d2,p2,o2,t2⟩:=zY S m ok tot hcs r (o+P.cellsOf f.type) ht.2 (λg hg=>hp g (by simp [hg])) (λg hg=>hx g (by simp [hg])) hle';have hl1:d1.length=P.cellsOf f.type:=by have:=p1.1;simp at this;omega
    have hsplit:cs.drop o=(cs.drop o).take (P.cellsOf f.type)++cs.drop (o+P.cellsOf f.type):=by
      rw [<- List.drop_drop,List.take_append_drop]
    refine⟨d1++d2,?_,λd hd=>?_,λg hg=>?_⟩
    · rw [hsplit]
      rw [ht.1] at p1;exact p1.append p2
    · simp only [List.mem_append] at hd
      rcases hd with hd|hd
      · exact o1 d hd
      exact o2 d hd
    simp only [List.mem_cons] at hg;rcases hg with rfl|hg
    · refine ⟨by omega, ?_⟩
      rw [ht.1,Nat.sub_self,List.drop_zero,List.take_append_of_le_length (by omega),List.take_of_length_le (by omega)];exact t1
    obtain⟨h1,h2⟩:=t2 g hg;refine⟨by omega,?_⟩;rw [show g.offset - o=d1.length+(g.offset - (o+P.cellsOf f.type)) by omega,List.drop_append];simp only [Nat.add_sub_cancel_left];rw [List.drop_eq_nil_of_le (by omega),List.nil_append];exact h2
theorem lG {P:Program} {e:TypeId}:∀ {l:List (DataW H)} {d:DataW H},d∈l->∀ n∈d.weights P e,n∈DataW.weightsAll P e l
  | x :: r,d,hd,n,hn=>by
    simp only [DataW.weightsAll,List.mem_append];simp only [List.mem_cons] at hd;rcases hd with rfl|hd
    · exact .inl hn
    exact .inr (lG hd n hn)
  | [],_,hd,_,_=>by simp at hd
theorem jJ {S:List TypeId} (hS:jY P S=true):∀ (fuel:Nat) (t:TypeId),t∈S->∀ (cs:List Value) (x:DataW H×List MemPlace),DataW.trod enc P w base spare held fuel t cs=some x->(∀ n∈x.1.weights P t,n<=reachBytes)->
    ∃ ds,HasTy P t ds/\Pw (DRep w (· < w.heap.size)) ds cs/\∀ d∈ds,d.one=true
  | 0,_,_,_,_,h,_=>by simp [DataW.trod] at h
  | n+1,t,hp,cs,x,h,hwt=>by
    have hp:pX P S t=true:=List.all_eq_true.1 hS t hp
    have one : ∀ (d : D) (v : Value), DRep w (· < w.heap.size) d v -> Pw (DRep w (· < w.heap.size)) [d] [v] := fun d v hd => ⟨rfl, fun i x y hx hy => by
      cases i with
      | zero => simp at hx hy; subst hx hy; exact hd
      | succ i => simp at hx⟩
    unfold pX at hp;split at hp
    · rename_i hu
      obtain⟨b,rfl,_⟩:=DataW.trod_bool hu h;exact⟨[.bool b],.bool t hu b,one _ _ (.bool b),λd hd=>by simp at hd;subst hd;rfl⟩
    · rename_i k hu
      obtain⟨m,rfl,_,hw⟩:=DataW.trod_int hu h;have:k.min<=m/\m<=k.max:=by simpa [Lit.wf] using hw
      exact⟨[.int k m],.int t k hu m this,one _ _ (.int k m),λd hd=>by simp at hd;subst hd;rfl⟩
    · rename_i hu
      obtain⟨s,rfl,rfl,hs⟩:=DataW.trod_string hu h;have hs:s.size<=reachBytes:=by have:=hwt s.data.toList.length (by simp [DataW.weights]);simpa using this
      exact⟨[.str s],.str t hu s hs,one _ _ (.str s),λd hd=>by simp at hd;subst hd;rfl⟩
    · rename_i e hu
      simp only [Bool.and_eq_true,decide_eq_true_eq,List.contains_iff_mem] at hp;rcases DataW.trod_slice hu h with ⟨rfl,_⟩|⟨ad,len,cap,elems,rest,n',hn',rfl,rfl,hb,hl,hm,hlen0,hel,_⟩
      · exact⟨[.sl (P.cellsOf e) []],.sl t e hu [] (Nat.zero_le _) (λc hc=>by simp at hc) (λc hc=>by simp at hc),one _ _ (.sl0 _ _ _),λd hd=>by simp at hd;subst hd;rfl⟩
      obtain rfl : n = n' := by omega
      have hex:∀ i,i < len->∃ ds vs,w.cells? base (ad.add (i * P.cellsOf e)) (P.cellsOf e)=some vs/\HasTy P e ds/\Pw (DRep w (· < w.heap.size)) ds vs/\∀ d∈ds,d.one=true:=by
        intro i hi;have he:=hel i hi;rw [List.getElem?_eq_getElem (by omega)] at he;obtain⟨vs,hvs,htr⟩:=Option.bind_eq_some_iff.1 he
        have hwe : ∀ m ∈ (elems[i]).1.weights P e, m <= reachBytes := fun m hm' => hwt m (by
          simp only [DataW.weights, hu, List.mem_cons, List.mem_append]
          exact .inr (.inl (lG (List.mem_map.2 ⟨elems[i], by simp, rfl⟩) m hm')))
        obtain⟨ds,h1,h2,h3⟩:=jJ hS n e hp.1.1 vs _ htr hwe;exact⟨ds,vs,hvs,h1,h2,h3⟩
      have hall:∀ k,k<=len->∃ css:List (List D),css.length=k/\∀ (i:Nat) (cs:List D),css[i]?=some cs->∃ vs,w.cells? base (ad.add (i * P.cellsOf e)) (P.cellsOf e)=some vs/\HasTy P e cs/\Pw (DRep w (· < w.heap.size)) cs vs/\∀ d∈cs,d.one=true:=by
        intro k
        induction k with
        | zero=>intro _;exact⟨[],rfl,λi cs h=>by simp at h⟩
        | succ k ih=>
          intro hk;obtain⟨css,h1,h2⟩:=ih (by omega);obtain⟨ds,vs,g1,g2,g3,g4⟩:=hex k (by omega);refine⟨css++[ds],by simp [h1],λi cs hi=>?_⟩;rw [List.getElem?_append] at hi;split at hi
          · exact h2 i cs hi
          rename_i hge
          have:i=k:=by
            rcases Nat.lt_or_ge (i - css.length) 1 with h|h
            · omega
            rw [List.getElem?_eq_none (by simpa using h)] at hi;cases hi
          subst this;rw [h1,Nat.sub_self] at hi;simp at hi;subst hi;exact⟨vs,g1,g2,g3,g4⟩
      obtain⟨css,hcl,hcs⟩:=hall len (Nat.le_refl _)
      have hsz:∀ (i:Nat) (cs:List D),css[i]?=some cs->cs.length=P.cellsOf e:=λi cs hi=>by
        obtain⟨vs,g1,_,g3,_⟩:=hcs i cs hi;obtain⟨_,g5,_⟩:=World.cells?_some g1;rw [g3.1,g5]
      have hof:∀ (i:Nat) (cs:List D),css[i]?=some cs->(aL P e cs).cells=cs:=by
        intro i cs hi;have hl':=hsz i cs hi;obtain⟨vs,_,_,_,g4⟩:=hcs i cs hi
        have h1:P.cellsOf e=1->cs.headD .nilsl=cs.headD .nilsl->(cs.headD .nilsl).cells=cs:=by
          intro he _
          match cs,(hl'.trans he),g4 with
          | [c],_,g4=>exact D.cells_one (g4 c (by simp))
        have h2:=hp.2;unfold aL
        cases hue:P.underlying e with
        | none=>rw [hue] at h2;exact h1 (by simpa using h2) rfl
        | some ue=>
          rw [hue] at h2;cases ue<;>first|rfl|exact h1 (by simpa using h2) rfl
      have hmem:∀ cs∈css,∃ i,css[i]?=some cs:=λcs hc=>List.getElem?_of_mem hc
      refine ⟨[.sl (P.cellsOf e) (css.map (aL P e))], .sl t e hu css (by
        have h1 := hwt ((elems.length + rest.length) * P.bytesOf e) (by simp [DataW.weights, hu]);have h2 := Nat.le_mul_of_pos_right (elems.length + rest.length) hp.1.2.2
        omega) (fun cs hc => by obtain ⟨i, hi⟩ := hmem cs hc; exact hsz i cs hi) (fun cs hc => by obtain ⟨i, hi⟩ := hmem cs hc; obtain ⟨_, _, g, _⟩ := hcs i cs hi; exact g), one _ _ ?_, fun d hd => by simp at hd; subst hd; rfl⟩
      by_cases hnil:css=[]
      · subst hnil
        have:len=0:=by simpa using hcl.symm
        subst this;exact .sl0 _ _ _
      have hgetc:∀ (i:Nat) (d:D),(css.map (aL P e))[i]?=some d->∃ cs,css[i]?=some cs/\d.cells=cs:=by
        intro i d hi;simp only [List.getElem?_map,Option.map_eq_some_iff] at hi;obtain⟨cs,hc,rfl⟩:=hi;exact⟨cs,hc,hof i cs hc⟩
      have hcell:∀ (i:Nat) (d:D) (j:Nat) (c:D),(css.map (aL P e))[i]?=some d->d.cells[j]?=some c->∃ v,w.cell? (ad.add (i * P.cellsOf e+j))=some v/\DRep w (· < w.heap.size) c v:=by
        intro i d j c hi hj;obtain⟨cs,hc,hd⟩:=hgetc i d hi;rw [hd] at hj;obtain⟨vs,g1,_,g3,_⟩:=hcs i cs hc;obtain⟨_,g5,g6⟩:=World.cells?_some g1;have hjl:j < vs.length:=by rw [<- g3.1];exact (List.getElem?_eq_some_iff.1 hj).1
        refine⟨vs[j],?_,g3.2 j c _ hj (List.getElem?_eq_getElem hjl)⟩;rw [<- nY,g6 j (by omega)];exact List.getElem?_eq_getElem hjl
      have hlen:(css.map (aL P e)).length=len:=by simpa using hcl
      by_cases hblk:ad.block < w.heap.size
      · have hfin := DRep.sl (w := w) (X := (· < w.heap.size)) (P.cellsOf e) (css.map (aL P e)) ad cap (fun i j => (w.cell? (ad.add (i * P.cellsOf e + j))).getD undef) hblk (by omega)
          (λi d hi=>by obtain⟨cs,hc,hd⟩:=hgetc i d hi;rw [hd];exact hsz i cs hc)
          (fun i d j c hi hj => by
            obtain ⟨cs, hc, hd⟩ := hgetc i d hi;rw [hd] at hj;obtain ⟨_, _, _, _, g4⟩ := hcs i cs hc
            exact g4 c (List.mem_of_getElem? hj))
          (λi d j c hi hj=>by obtain⟨v,hv,_⟩:=hcell i d j c hi hj;rw [hv];rfl)
          (λi d j c hi hj=>by obtain⟨v,hv,hd⟩:=hcell i d j c hi hj;rw [hv];exact hd)
        rw [hlen] at hfin;exact hfin
      -- no cell at all: elements without cells
      exfalso;obtain⟨cs,r,rfl⟩:=List.exists_cons_of_ne_nil hnil;obtain⟨vs,g1,_,g3,_⟩:=hcs 0 cs rfl;obtain⟨_,g5,g6⟩:=World.cells?_some g1;have h6:=g6 0 (by have:=hp.1.2.1;omega);have hv:w.cell? ((ad.add (0 * P.cellsOf e)).add 0)=some (vs[0]'(by have:=hp.1.2.1;omega)):=h6.trans (List.getElem?_eq_getElem _);have:=World.block_lt_of_cell? w _ hv;exact hblk (by simpa [Addr.add] using this)
    · rename_i fs hu
      simp only [Bool.and_eq_true,List.all_eq_true,List.contains_iff_mem] at hp;obtain⟨xs,m,hnm,rfl,hlen,hxl,hf⟩:=DataW.trod_struct hu h;obtain rfl:n=m:=by omega
      obtain ⟨ds, p, o, t'⟩ := zY S n (fun f hpf cs x hx hw => jJ hS n f.type hpf cs x hx hw) (P.cellsOf t) hlen fs.toList 0 hp.1 (fun f hf' => hp.2 f hf') (fun f hf' => by
        obtain ⟨i, hi⟩ := List.getElem?_of_mem hf';have hi' : fs[i]? = some f := by simpa using hi
        have hlt : i < xs.length := by rw [hxl]; exact (Array.getElem?_eq_some_iff.1 hi').1
        refine ⟨xs[i], (hf i f hi').trans (List.getElem?_eq_getElem hlt), fun m hm' => hwt m ?_⟩;simp only [DataW.weights, hu]
        exact DataW.weights_mem_each (j := i) (t := f.type) (d := xs[i].1) (by simp [hi]) (by simp [hlt]) m hm') (Nat.zero_le _)
      rw [List.drop_zero] at p;refine⟨ds,.struct t fs hu ds (by rw [p.1,hlen]) (λi f hi=>?_),p,o⟩;have:=(t' f (Array.mem_toList_iff.2 (Array.mem_of_getElem? hi))).2;simpa using this
    cases hp
end Go.TL
