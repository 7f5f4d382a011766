/- Texts of this proof, joined, without what it does not use. No condition. -/
import Derived.SizedLaws
import Derived.ProofKit
import Derived.Deep.Slices
import Derived.Carry
import Derived.KernelRfl
import Derived.Test.YtofndjhpbonpbaaGreatDoorQe

namespace Go.TL
open Go.ChangeShapes Go.WideShapes Go.RowKit Go.Deep
variable {P:Program}
def bC (P:Program) (e:TypeId) (cs:List D):D:=
  match P.underlying e with
  | some (.struct _)=>.agg cs
  | some (.array _ _)=>.agg cs
  | _=>cs.headD .nilsl
inductive HasTy (P:Program):TypeId->List D->Prop
  | bool (t:TypeId) (ht:P.underlying t=some .bool) (b:Bool):HasTy P t [.bool b]
  | int (t:TypeId) (k:IntKind) (ht:P.underlying t=some (.int k)) (n:Int) (h:k.min<=n/\n<=k.max):HasTy P t [.int k n]
  | str (t:TypeId) (ht:P.underlying t=some .string) (s:ByteArray) (h:s.size<=reachBytes):HasTy P t [.str s]
  | sl (t e:TypeId) (ht:P.underlying t=some (.slice e)) (css:List (List D)) (hl:css.length<=reachBytes) (h0:∀ cs∈css,cs.length=P.cellsOf e) (h:∀ cs∈css,HasTy P e cs):HasTy P t [.sl (P.cellsOf e) (css.map (bC P e))]
  | struct (t:TypeId) (fs:Array Field) (ht:P.underlying t=some (.struct fs)) (cs:List D) (hl:cs.length=P.cellsOf t) (h:∀ (i:Nat) (f:Field),fs[i]?=some f->HasTy P f.type ((cs.drop f.offset).take (P.cellsOf f.type))):HasTy P t cs
theorem HasTy.bool_inv {t:TypeId} {cs:List D} (h:HasTy P t cs) (ht:P.underlying t=some .bool):∃ b,cs=[.bool b]:=by
  cases h with
  | bool _ _ b=>exact⟨b,rfl⟩
  | int _ _ h=>rw [ht] at h;cases h
  | str _ h=>rw [ht] at h;cases h
  | sl _ _ h=>rw [ht] at h;cases h
  | struct _ _ h=>rw [ht] at h;cases h
theorem HasTy.int_inv {t:TypeId} {k:IntKind} {cs:List D} (h:HasTy P t cs) (ht:P.underlying t=some (.int k)):∃ n,cs=[.int k n]/\k.min<=n/\n<=k.max:=by
  cases h with
  | bool _ h=>rw [ht] at h;cases h
  | int _ _ h n hn=>rw [ht] at h;cases h;exact⟨n,rfl,hn.1,hn.2⟩
  | str _ h=>rw [ht] at h;cases h
  | sl _ _ h=>rw [ht] at h;cases h
  | struct _ _ h=>rw [ht] at h;cases h
theorem HasTy.str_inv {t:TypeId} {cs:List D} (h:HasTy P t cs) (ht:P.underlying t=some .string):∃ s,cs=[.str s]/\s.size<=reachBytes:=by
  cases h with
  | bool _ h=>rw [ht] at h;cases h
  | int _ _ h=>rw [ht] at h;cases h
  | str _ h s hs=>exact⟨s,rfl,hs⟩
  | sl _ _ h=>rw [ht] at h;cases h
  | struct _ _ h=>rw [ht] at h;cases h
theorem HasTy.sl_inv {t e:TypeId} {cs:List D} (h:HasTy P t cs) (ht:P.underlying t=some (.slice e)):∃ css:List (List D),cs=[.sl (P.cellsOf e) (css.map (bC P e))]/\css.length<=reachBytes/\(∀ cs∈css,cs.length=P.cellsOf e)/\∀ cs∈css,HasTy P e cs:=by
  cases h with
  | bool _ h=>rw [ht] at h;cases h
  | int _ _ h=>rw [ht] at h;cases h
  | str _ h=>rw [ht] at h;cases h
  | sl _ _ h css h1 h2 h3=>rw [ht] at h;cases h;exact⟨css,rfl,h1,h2,h3⟩
  | struct _ _ h=>rw [ht] at h;cases h
theorem HasTy.struct_inv {t:TypeId} {fs:Array Field} {cs:List D} (h:HasTy P t cs) (ht:P.underlying t=some (.struct fs)):cs.length=P.cellsOf t/\∀ (i:Nat) (f:Field),fs[i]?=some f->HasTy P f.type ((cs.drop f.offset).take (P.cellsOf f.type)):=by
  cases h with
  | bool _ h=>rw [ht] at h;cases h
  | int _ _ h=>rw [ht] at h;cases h
  | str _ h=>rw [ht] at h;cases h
  | sl _ _ h=>rw [ht] at h;cases h
  | struct _ _ h _ h1 h2=>rw [ht] at h;cases h;exact⟨h1,h2⟩
theorem qUS {α:Type} {e:TypeId} (enc:α->D) (wf:α->Prop) (hinv:∀ cs,cs.length=P.cellsOf e->HasTy P e cs->∃ x,wf x/\bC P e cs=enc x):∀ css:List (List D),(∀ cs∈css,cs.length=P.cellsOf e)->(∀ cs∈css,HasTy P e cs)->
    ∃ xs:List α,xs.length=css.length/\(∀ x∈xs,wf x)/\css.map (bC P e)=xs.map enc
  | [],_,_=>⟨[],rfl,λx hx=>by simp at hx,rfl⟩
  | cs :: r,h0,h=>by
    obtain⟨x,hx,he⟩:=hinv cs (h0 cs (by simp)) (h cs (by simp));obtain⟨xs,h1,h2,h3⟩:=qUS enc wf hinv r (λc hc=>h0 c (by simp [hc])) (λc hc=>h c (by simp [hc]));refine⟨x :: xs,by simp [h1],λy hy=>?_,by simp [he,h3]⟩;simp only [List.mem_cons] at hy;rcases hy with rfl|hy
    · exact hx
    exact h2 y hy
theorem HasTy.list {α:Type} {t e:TypeId} {cs:List D} (h:HasTy P t cs) (ht:P.underlying t=some (.slice e)) (enc:α->D) (wf:α->Prop) (hinv:∀ cs,cs.length=P.cellsOf e->HasTy P e cs->∃ x,wf x/\bC P e cs=enc x):
    ∃ xs:List α,cs=[.sl (P.cellsOf e) (xs.map enc)]/\xs.length<=reachBytes/\∀ x∈xs,wf x:=by
  obtain⟨css,rfl,h1,h2,h3⟩:=h.sl_inv ht;obtain⟨xs,e1,e2,e3⟩:=qUS enc wf hinv css h2 h3;exact⟨xs,by rw [e3],by omega,e2⟩
def pO (P:Program):List Field->Nat->Nat->Bool
  | [],o,n=>o == n
  | f :: r,o,n=>f.offset == o&&pO P r (o+P.cellsOf f.type) n
def qLX (P:Program) (S:List TypeId) (t:TypeId):Bool:=
  match P.underlying t with
  | some .bool=>true
  | some (.int _)=>true
  | some .string=>true
  | some (.slice e)=>S.contains e&&decide (0 < P.cellsOf e/\0 < P.bytesOf e)&&(match P.underlying e with|some (.struct _)=>true|some (.array _ _)=>true|_=>P.cellsOf e == 1)
  | some (.struct fs)=>pO P fs.toList 0 (P.cellsOf t)&&fs.toList.all λf=>S.contains f.type
  | _=>false
def zT (P:Program) (S:List TypeId):Bool:=S.all (qLX P S)
variable {H:Type} {enc:TypeId×Value->H} {w:World} {base:Nat} {spare:Nat->Bool} {held:Bool}
theorem qDA {P:Program} {e:TypeId}:∀ {l:List (DataW H)} {d:DataW H},d∈l->∀ n∈d.weights P e,n∈DataW.weightsAll P e l
  | x :: r,d,hd,n,hn=>by
    simp only [DataW.weightsAll,List.mem_append];simp only [List.mem_cons] at hd;rcases hd with rfl|hd
    · exact .inl hn
    exact .inr (qDA hd n hn)
  | [],_,hd,_,_=>by simp at hd
end Go.TL
namespace Go.TL
open Go.ChangeShapes Go.WideShapes Go.RowKit Go.Deep Go.ChangeAt
def qHR (P:Program):List TypeId->List D->Prop
  | [],[]=>True
  | t :: ts,d :: ds=>(∃ cs,cs.length=P.cellsOf t/\HasTy P t cs/\d=bC P t cs)/\qHR P ts ds
  | _,_=>False
def qLY (P:Program) (S:List TypeId) (t:TypeId):Bool:=
  S.contains t&&(match P.underlying t with|some (.struct _)=>true|some (.array _ _)=>true|_=>P.cellsOf t == 1)
theorem HasTy.length {P:Program} {t:TypeId} {cs:List D} (h:HasTy P t cs) (h1:(match P.underlying t with|some (.struct _)=>true|some (.array _ _)=>true|_=>P.cellsOf t == 1)=true):cs.length=P.cellsOf t:=by
  cases h with
  | bool _ ht b=>rw [ht] at h1;exact (show P.cellsOf t=1 by simpa using h1).symm
  | int _ _ ht=>rw [ht] at h1;exact (show P.cellsOf t=1 by simpa using h1).symm
  | str _ ht=>rw [ht] at h1;exact (show P.cellsOf t=1 by simpa using h1).symm
  | sl _ _ ht=>rw [ht] at h1;exact (show P.cellsOf t=1 by simpa using h1).symm
  | struct _ _ ht _ hl=>exact hl
variable {P:Program} {H:Type} {enc:TypeId×Value->H} {w:World}
theorem xO (hl : laidOutB P = true) {W W' : World} (hb : Below W.heap.size W W') : ∀ {ts : List TypeId} {vs : List Value} {ds : List (DataW H)} {ps : List MemPlace}, (∀ t ∈ ts, P.readableRec t = true /\ t < P.types.size) -> (∀ x ∈ ps, x.block < W.heap.size) -> DataW.TrodAll enc P W 0 (fun _ => true) true ts vs ds ps ->
    DataW.TrodAll enc P W' 0 (λb=>decide (b < W.heap.size)) true ts vs ds ps
  | [],[],[],_,_,_,h=>h
  | t :: ts,v :: vs,d :: ds,ps,hp,hlt,h=>by
    obtain⟨p,q,h1,h2,rfl⟩:=h;exact⟨p,q,Below.trod hl (hp t (by simp)).1 (hp t (by simp)).2 h1 hb λx hx=>hlt x (by simp [hx]),xO hl hb (λt ht=>hp t (by simp [ht])) (λx hx=>hlt x (by simp [hx])) h2,rfl⟩
  | [],_ :: _,_,_,_,_,h=>by simp [DataW.TrodAll] at h
  | [],[],_ :: _,_,_,_,h=>by simp [DataW.TrodAll] at h
  | _ :: _,[],_,_,_,_,h=>by simp [DataW.TrodAll] at h
  | _ :: _,_ :: _,[],_,_,_,h=>by simp [DataW.TrodAll] at h
def qPQ (P:Program) (S:List TypeId) (fn:Func):Bool:=
  zT P S && fn.params.toList.all (fun t => qLY P S t && P.readableRec t && decide (t < P.types.size)) &&
    (match fn.resultTypes.toList with|[tb]=>(match P.underlying tb with|some .bool=>true|_=>false)|_=>false)
end Go.TL
