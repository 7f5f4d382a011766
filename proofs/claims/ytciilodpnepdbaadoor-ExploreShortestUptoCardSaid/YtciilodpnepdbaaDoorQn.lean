/- Texts of this proof, joined, without what it does not use. No condition. -/
import Derived.Shelf.SlSortCmp.InsertionK
import Derived.Test.YtciilodpnepdbaaDoorQm

namespace Go.TL
open Go.Sort Go.Proofs
variable {C:Ctx} {st:St} {g:Gh} {a:Act} {w:World} {P:Program}
theorem Sim.grow (h:Sim C st g a w) (n:Nat) (os:Array Obj):Sim C st g a (Sort.grow (Sort.ahead w n) os):=by
  have hheap:∀ b,b < w.heap.size->(Sort.grow (Sort.ahead w n) os).heap[b]?=w.heap[b]?:=λb hb=>by
    show (w.heap++os)[b]?=_;rw [Array.getElem?_append,if_pos hb]
  have hsz:w.heap.size<=(Sort.grow (Sort.ahead w n) os).heap.size:=by show _<=(w.heap++os).size;simp
  have hg:Grow w g (Sort.grow (Sort.ahead w n) os) g:=⟨λ_ _ h=>h,λ_ _ _=>rfl,λ_ h=>h,λb hb=>hheap b (h.Xlt b hb)⟩
  exact { h with fr := fun t => (h.fr t).mono hg, hp := fun i B hi => (h.hp i B hi).mono hg id fun b hb => hheap b (h.lt i b hb).1,
                 lt := fun i b hb => ⟨Nat.lt_of_lt_of_le (h.lt i b hb).1 hsz, (h.lt i b hb).2⟩, Xlt := fun b hb => Nat.lt_of_lt_of_le (h.Xlt b hb) hsz,
                 drawn := Nat.le_trans h.drawn (Nat.le_add_right _ _), grown := Nat.le_trans h.grown hsz,
                 keep := fun b hb hk => by rw [hheap b (Nat.lt_of_lt_of_le hb h.grown)]; exact h.keep b hb hk }
theorem lY {α:Type} [Inhabited α] (enc:α->Value) (off:Nat) (d:Array α) (c:Array Value):(putCells enc off d c).size=c.size:=by simp [putCells]
theorem uN {α:Type} [Inhabited α] (enc:α->Value) (off:Nat) (d:Array α) (c:Array Value) (k:Nat) (hk:k < c.size):(putCells enc off d c)[k]?=some (if off<=k/\k < off+d.size then enc d[k - off]! else c[k]):=by
  simp [putCells,hk]
end Go.TL
