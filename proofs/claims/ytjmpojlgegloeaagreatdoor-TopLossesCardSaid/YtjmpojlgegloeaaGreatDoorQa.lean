/- A part of the proof. No condition. -/
import Derived.Orders
import Derived.Tactics
import Derived.Laws.World
import Derived.Laws.Cells
import Derived.Laws.Rows
import Derived.Laws.AppendOwn
import Derived.Laws.Build
import Derived.Laws.CopyRow
import Derived.Laws.Entries
import Derived.Laws.StructEq
import Derived.Laws.MakeOwn
import Derived.Laws.OwnMore
import Derived.Laws.Append
import Derived.Laws.Slices
import Derived.Great.BuildSlice
import Derived.Deep.LoopGhost
import Derived.SizedLaws
import Derived.ProofKit
import Derived.Deep.Slices
import Derived.Carry
import Derived.KernelRfl
import Derived.Deep.CondSized
import Derived.JoinedCond
import Derived.Test.YtjmpojlgegloeaaGreatDoorRows
import Derived.Deep.DeepHandedRow
import Derived.Lib.LaidTab
import Derived.DeepKeys
import Derived.Laws.Small
import Derived.MapKept
import Derived.Laws.Strings
import Derived.Lib.AppendZeros
import Derived.Shelf.SlSortCmp.InsertionK
import Derived.Lib.SlicesCompact
import Derived.DeepKeys3
import Derived.Laws.BytesArg
import Derived.Laws.RangeString
import Derived.RangeFuncRecord
import Derived.ScopeJumps
import Derived.Defers
import Derived.Recover
import Derived.Lib.LaidU8
import Derived.Lib.ItoaNum
import Derived.Ground.NamesProg
import Derived.Shelf.SlSortCmp.NoneTotal
import Derived.Shelf.Slices.CompactI
import Derived.Shelf.Slices.In.SortNone
import Derived.Shelf.Sort.Plain
import Derived.Shelf.Strconv.Itoa3
import Derived.Laws.BytesString
set_option linter.unusedSimpArgs false
set_option linter.unusedVariables false
namespace Go.TL
theorem qm:type_of% @And.intro:=@And.intro
theorem xr:type_of% @Array.append_empty:=@Array.append_empty
theorem ql:type_of% @Array.getD_eq_getD_getElem?:=@Array.getD_eq_getD_getElem?
theorem cx:type_of% @Array.getElem?_append:=@Array.getElem?_append
theorem xn:type_of% @Array.getElem?_eq_getElem:=@Array.getElem?_eq_getElem
theorem zal5q:type_of% @Array.getElem?_eq_some_iff:=@Array.getElem?_eq_some_iff
theorem qk:type_of% @Array.getElem?_modify:=@Array.getElem?_modify
theorem Cc:type_of% @Array.getElem?_toList:=@Array.getElem?_toList
theorem mQ:type_of% @Array.length_toList:=@Array.length_toList
theorem zal9q:type_of% @Array.mem_append:=@Array.mem_append
theorem zal10q:type_of% @Array.mem_toList_iff:=@Array.mem_toList_iff
theorem vA:type_of% @Array.size_append:=@Array.size_append
theorem Da:type_of% @Array.size_replicate:=@Array.size_replicate
theorem xu:type_of% @Array.toList_append:=@Array.toList_append
theorem sD:type_of% @Array.toList_map:=@Array.toList_map
theorem lH:type_of% @Bool.and_eq_true:=@Bool.and_eq_true
theorem gv:type_of% @Bool.eq_iff_iff:=@Bool.eq_iff_iff
theorem gu:type_of% @Bool.false_eq_true:=@Bool.false_eq_true
theorem eX:type_of% @Bool.false_ne_true:=@Bool.false_ne_true
theorem C9:type_of% @Bool.not_eq_false':=@Bool.not_eq_false'
theorem rB:type_of% @Bool.not_eq_true':=@Bool.not_eq_true'
theorem mX:type_of% @Bool.or_eq_true:=@Bool.or_eq_true
theorem C8:type_of% @ByteArray.size_append:=@ByteArray.size_append
theorem xq:type_of% @Int.eq_ofNat_of_zero_le:=@Int.eq_ofNat_of_zero_le
theorem jV:type_of% @Int.le_refl:=@Int.le_refl
theorem gt:type_of% @Int.toNat_natCast:=@Int.toNat_natCast
theorem C7:type_of% @Int.toNat_of_nonneg:=@Int.toNat_of_nonneg
theorem zal27q:type_of% @List.all_eq_true:=@List.all_eq_true
theorem mW:type_of% @List.append_nil:=@List.append_nil
theorem cR:type_of% @List.cons.injEq:=@List.cons.injEq
theorem uZ:type_of% @List.contains_eq_mem:=@List.contains_eq_mem
theorem pR:type_of% @List.drop_drop:=@List.drop_drop
theorem rA:type_of% @List.eq_nil_of_length_eq_zero:=@List.eq_nil_of_length_eq_zero
theorem hU:type_of% @List.ext_getElem?:=@List.ext_getElem?
theorem xp:type_of% @List.find?_eq_none:=@List.find?_eq_none
theorem zal35q:type_of% @List.findIdx?_eq_none_iff:=@List.findIdx?_eq_none_iff
theorem zal36q:type_of% @List.findIdx?_eq_some_iff_getElem:=@List.findIdx?_eq_some_iff_getElem
theorem xD:type_of% @List.foldl_cons:=@List.foldl_cons
theorem mV:type_of% @List.getD_eq_getElem?_getD:=@List.getD_eq_getElem?_getD
theorem eW:type_of% @List.getElem?_append:=@List.getElem?_append
theorem gr:type_of% @List.getElem?_cons_succ:=@List.getElem?_cons_succ
theorem lG:type_of% @List.getElem?_drop:=@List.getElem?_drop
theorem eE:type_of% @List.getElem?_eq_getElem:=@List.getElem?_eq_getElem
theorem iS:type_of% @List.getElem?_eq_none:=@List.getElem?_eq_none
theorem zal44q:type_of% @List.getElem?_eq_some_iff:=@List.getElem?_eq_some_iff
theorem cM:type_of% @List.getElem?_map:=@List.getElem?_map
theorem iL:type_of% @List.getElem?_of_mem:=@List.getElem?_of_mem
theorem xo:type_of% @List.getElem?_replicate:=@List.getElem?_replicate
theorem cG:type_of% @List.getElem?_set:=@List.getElem?_set
theorem tL:type_of% @List.getElem?_set_ne:=@List.getElem?_set_ne
theorem gq:type_of% @List.getElem?_set_self:=@List.getElem?_set_self
theorem kJ:type_of% @List.getElem?_take:=@List.getElem?_take
theorem xm:type_of% @List.getElem?_toArray:=@List.getElem?_toArray
theorem gn:type_of% @List.getElem?_zipIdx:=@List.getElem?_zipIdx
theorem fM:type_of% @List.getElem_mem:=@List.getElem_mem
theorem kI:type_of% @List.length_append:=@List.length_append
theorem eK:type_of% @List.length_cons:=@List.length_cons
theorem qZ:type_of% @List.length_drop:=@List.length_drop
theorem lQ:type_of% @List.length_map:=@List.length_map
theorem qY:type_of% @List.length_nil:=@List.length_nil
theorem zal60q:type_of% @List.length_set:=@List.length_set
theorem bq:type_of% @List.length_singleton:=@List.length_singleton
theorem gB:type_of% @List.length_take:=@List.length_take
theorem xl:type_of% @List.mapM_cons:=@List.mapM_cons
theorem mU:type_of% @List.map_append:=@List.map_append
theorem C6:type_of% @List.map_congr_left:=@List.map_congr_left
theorem fX:type_of% @List.map_cons:=@List.map_cons
theorem C5:type_of% @List.map_drop:=@List.map_drop
theorem uY:type_of% @List.map_nil:=@List.map_nil
theorem sC:type_of% @List.map_set:=@List.map_set
theorem xk:type_of% @List.map_take:=@List.map_take
theorem qX:type_of% @List.mem_append:=@List.mem_append
theorem zal72q:type_of% @List.mem_cons:=@List.mem_cons
theorem xC:type_of% @List.mem_cons_of_mem:=@List.mem_cons_of_mem
theorem qW:type_of% @List.mem_cons_self:=@List.mem_cons_self
theorem zal75q:type_of% @List.mem_iff_getElem?:=@List.mem_iff_getElem?
theorem zal76q:type_of% @List.mem_map:=@List.mem_map
theorem dR:type_of% @List.mem_of_getElem?:=@List.mem_of_getElem?
theorem C4:type_of% @List.mem_of_mem_drop:=@List.mem_of_mem_drop
theorem xj:type_of% @List.mem_of_mem_take:=@List.mem_of_mem_take
theorem xB:type_of% @List.mem_or_eq_of_mem_set:=@List.mem_or_eq_of_mem_set
theorem zal81q:type_of% @List.mem_range:=@List.mem_range
theorem zal82q:type_of% @List.mem_singleton:=@List.mem_singleton
theorem zal83q:type_of% @List.nodup_cons:=@List.nodup_cons
theorem xA:type_of% @List.not_mem_nil:=@List.not_mem_nil
theorem zal85q:type_of% @List.pairwise_cons:=@List.pairwise_cons
theorem wZ:type_of% @List.set_cons_succ:=@List.set_cons_succ
theorem bp:type_of% @List.set_cons_zero:=@List.set_cons_zero
theorem pQ:type_of% @List.size_toArray:=@List.size_toArray
theorem gm:type_of% @List.take_add_one:=@List.take_add_one
theorem Hf:type_of% @List.take_append_drop:=@List.take_append_drop
theorem xi:type_of% @List.take_append_of_le_length:=@List.take_append_of_le_length
theorem uX:type_of% @List.take_length:=@List.take_length
theorem C3:type_of% @List.take_of_length_le:=@List.take_of_length_le
theorem tK:type_of% @Nat.add_assoc:=@Nat.add_assoc
theorem tJ:type_of% @Nat.add_comm:=@Nat.add_comm
theorem oR:type_of% @Nat.add_mul:=@Nat.add_mul
theorem qV:type_of% @Nat.add_zero:=@Nat.add_zero
theorem uW:type_of% @Nat.blt_eq:=@Nat.blt_eq
theorem dO:type_of% @Nat.eq_of_beq_eq_true:=@Nat.eq_of_beq_eq_true
theorem cy:type_of% @Nat.eq_zero_or_pos:=@Nat.eq_zero_or_pos
theorem dK:type_of% @Nat.le_of_ble_eq_true:=@Nat.le_of_ble_eq_true
theorem cT:type_of% @Nat.le_refl:=@Nat.le_refl
theorem dQ:type_of% @Nat.le_trans:=@Nat.le_trans
theorem vC:type_of% @Nat.lt_of_lt_of_le:=@Nat.lt_of_lt_of_le
theorem dB:type_of% @Nat.lt_or_ge:=@Nat.lt_or_ge
theorem yV:type_of% @Nat.mul_comm:=@Nat.mul_comm
theorem vB:type_of% @Nat.mul_le_mul:=@Nat.mul_le_mul
theorem iW:type_of% @Nat.mul_le_mul_right:=@Nat.mul_le_mul_right
theorem iO:type_of% @Nat.not_lt_zero:=@Nat.not_lt_zero
theorem yU:type_of% @Nat.sub_zero:=@Nat.sub_zero
theorem rK:type_of% @Nat.succ_mul:=@Nat.succ_mul
theorem eL:type_of% @Nat.zero_add:=@Nat.zero_add
theorem cN:type_of% @Nat.zero_le:=@Nat.zero_le
theorem yT:type_of% @Nat.zero_mul:=@Nat.zero_mul
theorem zal115q:type_of% @Option.bind_eq_some_iff:=@Option.bind_eq_some_iff
theorem rJ:type_of% @Option.getD_some:=@Option.getD_some
theorem yS:type_of% @Option.map_eq_none_iff:=@Option.map_eq_none_iff
theorem bZ:type_of% @Option.map_eq_some_iff:=@Option.map_eq_some_iff
theorem gO:type_of% @Option.map_some:=@Option.map_some
theorem aS:type_of% @Option.some.inj:=@Option.some.inj
theorem mE:type_of% @Option.some.injEq:=@Option.some.injEq
theorem wq:type_of% @Option.toList_some:=@Option.toList_some
theorem bJ:type_of% @Prod.mk.inj:=@Prod.mk.inj
theorem oS:type_of% @Prod.mk.injEq:=@Prod.mk.injEq
end Go.TL
namespace Go.TL
inductive D where
  |bool (b:Bool)
  |int (k:IntKind) (n:Int)
  |str (s:ByteArray)
  |agg (cs:List D)
  |nilsl
  |sl (sz:Nat) (es:List D)
  |own (N ty sz:Nat) (es:List D)
  |nilptr
  |ptr (e:D) (off:Nat)
  |fn (f:FuncId)
  |clo (f:FuncId) (cs:List D)
  |nilfn
  |iface (t:TypeId) (d:D)
  |nilif
  |nilmap
  deriving Inhabited
def D.cells:D->List D
  |.agg cs=>cs
  |d=>[d]
def D.one:D->Bool
  |.agg _=>false
  |_=>true
inductive DRep (w:World) (X:Nat->Prop):D->Value->Prop
  |bool (b:Bool):DRep w X (.bool b) (.bool b)
  |int (k:IntKind) (n:Int):DRep w X (.int k n) (.int k n)
  |str (s:ByteArray):DRep w X (.str s) (.string s)
  |agg (cs:List D) (vs:Array Value) (hl:cs.length=vs.size) (h1:∀c∈cs,c.one=true) (h:∀(i:Nat)(c:D)(v:Value),cs[i]?=some c->vs[i]?=some v->DRep w X c v):DRep w X (.agg cs) (.agg vs)
  |nilsl (a:Option Addr):DRep w X .nilsl (.slice a 0 0)
  |sl0 (sz:Nat) (a:Option Addr) (cap:Nat):DRep w X (.sl sz []) (.slice a 0 cap)
  |sl (sz:Nat) (es:List D) (ad:Addr) (cap:Nat) (val:Nat->Nat->Value) (hX:X ad.block) (hc:es.length<=cap)
      (hs:∀(i:Nat)(e:D),es[i]?=some e->e.cells.length=sz)
      (h1:∀(i:Nat)(e:D)(j:Nat)(c:D),es[i]?=some e->e.cells[j]?=some c->c.one=true)
      (hv:∀(i:Nat)(e:D)(j:Nat)(c:D),es[i]?=some e->e.cells[j]?=some c->w.cell? (ad.add (i*sz+j))=some (val i j))
      (hr:∀(i:Nat)(e:D)(j:Nat)(c:D),es[i]?=some e->e.cells[j]?=some c->DRep w X c (val i j)):DRep w X (.sl sz es) (.slice (some ad) es.length cap)
  |own0 (N ty sz:Nat) (a:Option Addr):DRep w X (.own N ty sz []) (.slice a 0 0)
  |own (N ty sz:Nat) (es:List D) (b cap:Nat) (cells:Array Value) (val:Nat->Nat->Value) (hX:X b) (hN:N<=b) (hw:w.heap[b]?=some (.cells cells ty (0,0))) (hc:es.length<=cap) (hp:cap*sz<=cells.size)
      (hs:∀(i:Nat)(e:D),es[i]?=some e->e.cells.length=sz)
      (h1:∀(i:Nat)(e:D)(j:Nat)(c:D),es[i]?=some e->e.cells[j]?=some c->c.one=true)
      (hv:∀(i:Nat)(e:D)(j:Nat)(c:D),es[i]?=some e->e.cells[j]?=some c->cells[i*sz+j]?=some (val i j))
      (hr:∀(i:Nat)(e:D)(j:Nat)(c:D),es[i]?=some e->e.cells[j]?=some c->DRep w X c (val i j)):DRep w X (.own N ty sz es) (.slice (some ⟨b,0,none⟩) es.length cap)
  |nilptr:DRep w X .nilptr (.pointer none)
  |ptr (e:D) (off:Nat) (ad:Addr) (val:Nat->Value) (hX:X ad.block) (h1:∀c∈e.cells,c.one=true)
      (hv:∀(j:Nat)(c:D),e.cells[off+j]?=some c->w.cell? (ad.add j)=some (val j))
      (hr:∀(j:Nat)(c:D),e.cells[off+j]?=some c->DRep w X c (val j)):DRep w X (.ptr e off) (.pointer (some ad))
  |fn (f:FuncId):DRep w X (.fn f) (.func (.func f) #[] #[])
  |clo (f:FuncId) (cs:List D) (vs:Array Value) (hl:cs.length=vs.size) (h:∀(i:Nat)(c:D)(v:Value),cs[i]?=some c->vs[i]?=some v->DRep w X c v):DRep w X (.clo f cs) (.func (.func f) #[] vs)
  |nilfn:DRep w X .nilfn .nilFunc
  |iface (t:TypeId) (d:D) (v:Value) (h:DRep w X d v):DRep w X (.iface t d) (.iface t v)
  |nilif:DRep w X .nilif .nilIface
  |nilmap:DRep w X .nilmap (.map none)
theorem cell?_of_heap{w w':World}{a:Addr}(h:w'.heap[a.block]?=w.heap[a.block]?):w'.cell? a=w.cell? a:=by simp[World.cell?,h]
theorem sB(a:Addr)(n:Nat):(a.add n).block=a.block:=by unfold Addr.add;split<;>rfl
theorem yM(a:Addr)(i j:Nat):(a.add i).add j=a.add (i+j):=by
  unfold Addr.add;by_cases hi:i=0<;>by_cases hj:j=0<;>simp[hi,hj,tK]
theorem qF(b o n:Nat):(⟨b,o,none⟩:Addr).add n=⟨b,o+n,none⟩:=by
  unfold Addr.add;by_cases h:n=0<;>simp[h]
theorem DRep.mono{w w':World}{X X':Nat->Prop}{d:D}{v:Value}(h:DRep w X d v)(hX:∀b,X b->X' b)(hw:∀b,X b->w'.heap[b]?=w.heap[b]?):DRep w' X' d v:=by
  induction h with
  |bool=>exact .bool _
  |int=>exact .int _ _
  |str=>exact .str _
  |agg cs vs hl h1 _ ih=>exact .agg cs vs hl h1 λi c v hc hv=>ih i c v hc hv
  |nilsl=>exact .nilsl _
  |sl0=>exact .sl0 _ _ _
  |sl sz es ad cap val hx hc hs h1 hv _ ih=>
    exact .sl sz es ad cap val (hX _ hx) hc hs h1 (λi e j c he hc=>(cell?_of_heap (by rw[sB];exact hw _ hx)).trans (hv i e j c he hc)) λi e j c he hc=>ih i e j c he hc
  |own0=>exact .own0 _ _ _ _
  |own N ty sz es b cap cells val hx hN hw' hc hp hs h1 hv _ ih=>
    exact .own N ty sz es b cap cells val (hX _ hx) hN ((hw _ hx).trans hw') hc hp hs h1 hv λi e j c he hc=>ih i e j c he hc
  |nilptr=>exact .nilptr
  |ptr e off ad val hx h1 hv _ ih=>
    exact .ptr e off ad val (hX _ hx) h1 (λj c hc=>(cell?_of_heap (by rw[sB];exact hw _ hx)).trans (hv j c hc)) λj c hc=>ih j c hc
  |fn=>exact .fn _
  |clo f cs vs hl _ ih=>exact .clo f cs vs hl λi c v hc hv=>ih i c v hc hv
  |nilfn=>exact .nilfn
  |iface t d v _ ih=>exact .iface t d v ih
  |nilif=>exact .nilif
  |nilmap=>exact .nilmap
theorem DRep.oneCell{w:World}{X:Nat->Prop}{d:D}{v:Value}(h:DRep w X d v)(h1:d.one=true):v.oneCell'=true/\v.cells=#[v]:=by
  cases h<;>first|exact⟨rfl,rfl⟩|cases h1
theorem DRep.cells{w:World}{X:Nat->Prop}{d:D}{v:Value}(h:DRep w X d v):
    v.cells.size=d.cells.length/\(∀c∈d.cells,c.one=true)/\∀(j:Nat)(c:D),d.cells[j]?=some c->∃u,v.cells[j]?=some u/\DRep w X c u:=by
  have one:∀(d:D)(v:Value),DRep w X d v->d.cells=[d]->d.one=true->v.cells=#[v]->
      v.cells.size=d.cells.length/\(∀c∈d.cells,c.one=true)/\∀(j:Nat)(c:D),d.cells[j]?=some c->∃u,v.cells[j]?=some u/\DRep w X c u:=by
    intro d v hd e1 e2 e3;rw[e1,e3];refine⟨rfl,by simpa using e2,λj c hc=>?_⟩
    cases j with
    |zero=>simp at hc;subst hc;exact⟨v,by simp,hd⟩
    |succ j=>simp at hc
  cases h with
  |agg cs vs hl h1 hr=>
    refine⟨hl.symm,h1,λj c hc=>?_⟩;have hj:j<vs.size:=by rw[<- hl];exact(zal44q.1 hc).1
    exact⟨vs[j],by simp[Value.cells,hj],hr j c _ hc (by simp[hj])⟩
  |bool b=>exact one _ _ (.bool b) rfl rfl rfl
  |int k n=>exact one _ _ (.int k n) rfl rfl rfl
  |str s=>exact one _ _ (.str s) rfl rfl rfl
  |nilsl a=>exact one _ _ (.nilsl a) rfl rfl rfl
  |sl0 a b c=>exact one _ _ (.sl0 a b c) rfl rfl rfl
  |sl a b c d e f g h i j k=>exact one _ _ (.sl a b c d e f g h i j k) rfl rfl rfl
  |own0 a b c d=>exact one _ _ (.own0 a b c d) rfl rfl rfl
  |own a b c d e f g h i j k l m n o p q=>exact one _ _ (.own a b c d e f g h i j k l m n o p q) rfl rfl rfl
  |nilptr=>exact one _ _ .nilptr rfl rfl rfl
  |ptr a b c d e f g h=>exact one _ _ (.ptr a b c d e f g h) rfl rfl rfl
  |fn f=>exact one _ _ (.fn f) rfl rfl rfl
  |clo f cs vs hl h=>exact one _ _ (.clo f cs vs hl h) rfl rfl rfl
  |nilfn=>exact one _ _ .nilfn rfl rfl rfl
  |iface a b c d=>exact one _ _ (.iface a b c d) rfl rfl rfl
  |nilif=>exact one _ _ .nilif rfl rfl rfl
  |nilmap=>exact one _ _ .nilmap rfl rfl rfl
inductive AV where
  |junk
  |und
  |d (d:D)
  |msl (id sz off len:Nat)
  |mptr (id sz idx off:Nat)
  |mmap (id:Nat)
  |yld (id:Nat)
  |mmapN (id n:Nat)
  |agg (cs:List AV)
  |tup (vs:List AV)
  |fnc (f:FuncId) (cap:List AV)
  |ifc (t:TypeId) (v:AV)
  deriving Inhabited
inductive Blk where
  |dead
  |hole
  |flat (ty:TypeId) (sz:Nat) (es:List D)
  |box (ty:TypeId) (cs:List AV)
  |map (kt vt:TypeId) (es:List (D×D))
  |ob (o:Obj)
  |mapv (kt vt:TypeId) (es:List (D×AV))
  |lp (s:LoopState) (pd:Option Code) (ps:Array Tmp) (asg body:Code) (n:Nat) (fr:List (Nat×AV))
  deriving Inhabited
abbrev Fr:=List (Nat×AV)
def Fr.get:Fr->Nat->AV
  |[],_=>.junk
  |(k,v)::r,t=>if k=t then v else Fr.get r t
structure Gh where
  phi:Nat->Option Nat
  psi:Nat->Nat
  X:Nat->Prop
  df:List Deferred:=[]
def AV.one:AV->Bool
  |.d x=>x.one
  |.agg _|.tup _|.und|.junk=>false
  |_=>true
inductive ARep (w:World) (g:Gh):AV->Value->Prop
  |junk (v:Value):ARep w g .junk v
  |und:ARep w g .und undef
  |d (d:D) (v:Value) (h:DRep w g.X d v):ARep w g (.d d) v
  |msl0 (id sz off:Nat) (a:Option Addr):ARep w g (.msl id sz off 0) (.slice a 0 0)
  |msl (id sz off len cap b:Nat) (hb:g.phi id=some b) (hc:len<=cap) (hp:(off+cap)*sz<=g.psi id):ARep w g (.msl id sz off len) (.slice (some ⟨b,off*sz,none⟩) len cap)
  |mptr (id sz idx off b:Nat) (hb:g.phi id=some b):ARep w g (.mptr id sz idx off) (.pointer (some ⟨b,idx*sz+off,none⟩))
  |mmap (id b:Nat) (hb:g.phi id=some b):ARep w g (.mmap id) (.map (some b))
  |yld (id b:Nat) (hb:g.phi id=some b):ARep w g (.yld id) (.func (.yield b) #[] #[])
  |mmapN0 (id:Nat):ARep w g (.mmapN id 0) (.map none)
  |mmapN (id n b:Nat) (hb:g.phi id=some b):ARep w g (.mmapN id n) (.map (some b))
  |agg (cs:List AV) (vs:Array Value) (hl:cs.length=vs.size) (h:∀(i:Nat)(c:AV)(v:Value),cs[i]?=some c->vs[i]?=some v->ARep w g c v):ARep w g (.agg cs) (.agg vs)
  |tup (cs:List AV) (vs:Array Value) (hl:cs.length=vs.size) (h:∀(i:Nat)(c:AV)(v:Value),cs[i]?=some c->vs[i]?=some v->ARep w g c v):ARep w g (.tup cs) (.tuple vs)
  |fnc (f:FuncId) (cs:List AV) (vs:Array Value) (hl:cs.length=vs.size) (h:∀(i:Nat)(c:AV)(v:Value),cs[i]?=some c->vs[i]?=some v->ARep w g c v):ARep w g (.fnc f cs) (.func (.func f) #[] vs)
  |ifc (t:TypeId) (c:AV) (v:Value) (h:ARep w g c v):ARep w g (.ifc t c) (.iface t v)
structure Grow (w:World) (g:Gh) (w':World) (g':Gh):Prop where
  phi:∀i b,g.phi i=some b->g'.phi i=some b
  psi:∀i b,g.phi i=some b->g'.psi i=g.psi i
  X:∀b,g.X b->g'.X b
  mem:∀b,g.X b->w'.heap[b]?=w.heap[b]?
theorem ARep.mono{w w':World}{g g':Gh}{v:AV}{u:Value}(h:ARep w g v u)(hg:Grow w g w' g'):ARep w' g' v u:=by
  induction h with
  |junk=>exact .junk _
  |und=>exact .und
  |d d v h=>exact .d d v (h.mono hg.X hg.mem)
  |msl0=>exact .msl0 _ _ _ _
  |msl id sz off len cap b hb hc hp=>exact .msl id sz off len cap b (hg.phi _ _ hb) hc (by rw[hg.psi _ _ hb];exact hp)
  |mptr id sz idx off b hb=>exact .mptr id sz idx off b (hg.phi _ _ hb)
  |mmap id b hb=>exact .mmap id b (hg.phi _ _ hb)
  |yld id b hb=>exact .yld id b (hg.phi _ _ hb)
  |mmapN0=>exact .mmapN0 _
  |mmapN id n b hb=>exact .mmapN id n b (hg.phi _ _ hb)
  |agg cs vs hl _ ih=>exact .agg cs vs hl λi c v hc hv=>ih i c v hc hv
  |tup cs vs hl _ ih=>exact .tup cs vs hl λi c v hc hv=>ih i c v hc hv
  |fnc f cs vs hl _ ih=>exact .fnc f cs vs hl λi c v hc hv=>ih i c v hc hv
  |ifc t c v _ ih=>exact .ifc t c v ih
theorem ARep.oneCell{w:World}{g:Gh}{c:AV}{v:Value}(h:ARep w g c v)(h1:c.one=true):v.oneCell'=true/\v.cells=#[v]:=by
  cases h with
  |d d v h=>exact h.oneCell h1
  |junk=>cases h1
  |und=>cases h1
  |agg=>cases h1
  |tup=>cases h1
  |_=>exact⟨rfl,rfl⟩
def AV.cells:AV->List AV
  |.agg cs=>cs
  |.d x=>x.cells.map .d
  |v=>[v]
def AV.flat:AV->Bool
  |.tup _|.und|.junk=>false
  |.agg cs=>cs.all AV.one
  |_=>true
theorem ARep.cells{w:World}{g:Gh}{c:AV}{v:Value}(h:ARep w g c v)(hf:c.flat=true):
    v.cells.size=c.cells.length/\(∀x∈c.cells,x.one=true)/\∀(j:Nat)(x:AV),c.cells[j]?=some x->∃u,v.cells[j]?=some u/\ARep w g x u:=by
  have one:∀(c:AV)(v:Value),ARep w g c v->c.cells=[c]->c.one=true->v.cells=#[v]->
      v.cells.size=c.cells.length/\(∀x∈c.cells,x.one=true)/\∀(j:Nat)(x:AV),c.cells[j]?=some x->∃u,v.cells[j]?=some u/\ARep w g x u:=by
    intro d v hd e1 e2 e3;rw[e1,e3];refine⟨rfl,by simpa using e2,λj c hc=>?_⟩
    cases j with
    |zero=>simp at hc;subst hc;exact⟨v,by simp,hd⟩
    |succ j=>simp at hc
  cases h with
  |junk=>cases hf
  |und=>cases hf
  |tup=>cases hf
  |d d v h=>
    obtain⟨h1,h2,h3⟩:=h.cells;refine⟨by simpa[AV.cells]using h1,?_,λj x hx=>?_⟩;intro x hx;simp only[AV.cells,zal76q]at hx;obtain⟨c,hc,rfl⟩:=hx;exact h2 c hc;simp only[AV.cells,cM,bZ]at hx;obtain⟨c,hc,rfl⟩:=hx;obtain⟨u,hu,hr⟩:=h3 j c hc;exact⟨u,hu,.d c u hr⟩
  |agg cs vs hl hr=>
    refine⟨hl.symm,by simpa[AV.flat,AV.cells]using hf,λj c hc=>?_⟩;have hj:j<vs.size:=by rw[<- hl];exact(zal44q.1 hc).1
    exact⟨vs[j],by simp[Value.cells,hj],hr j c _ hc (by simp[hj])⟩
  |msl0 a b c d=>exact one _ _ (.msl0 a b c d) rfl rfl rfl
  |msl a b c d e f g h i=>exact one _ _ (.msl a b c d e f g h i) rfl rfl rfl
  |mptr a b c d e f=>exact one _ _ (.mptr a b c d e f) rfl rfl rfl
  |mmap a b c=>exact one _ _ (.mmap a b c) rfl rfl rfl
  |yld a b c=>exact one _ _ (.yld a b c) rfl rfl rfl
  |mmapN0 a=>exact one _ _ (.mmapN0 a) rfl rfl rfl
  |mmapN a b c d=>exact one _ _ (.mmapN a b c d) rfl rfl rfl
  |fnc a b c d e=>exact one _ _ (.fnc a b c d e) rfl rfl rfl
  |ifc a b c d=>exact one _ _ (.ifc a b c d) rfl rfl rfl
def BRep(w:World)(g:Gh)(i:Nat):Blk->Prop
  |.dead=>True
  |.hole=>g.phi i=none
  |.flat ty sz es=>(es=[]/\g.phi i=none)\/∃b cells,g.phi i=some b/\w.heap[b]?=some (.cells cells ty (0,0))/\g.psi i=cells.size/\es.length*sz<=cells.size/\
      (∀(k:Nat)(e:D),es[k]?=some e->e.cells.length=sz)/\(∀(k:Nat)(e:D)(j:Nat)(c:D),es[k]?=some e->e.cells[j]?=some c->c.one=true)/\
      ∀(k:Nat)(e:D)(j:Nat)(c:D),es[k]?=some e->e.cells[j]?=some c->∃v,cells[k*sz+j]?=some v/\DRep w g.X c v
  |.box ty cs=>∃b cells,g.phi i=some b/\w.heap[b]?=some (.cells cells ty (0,0))/\g.psi i=cells.size/\cs.length=cells.size/\
      ∀(j:Nat)(c:AV)(v:Value),cs[j]?=some c->cells[j]?=some v->ARep w g c v
  |.map _ _ es=>(es=[]/\g.phi i=none)\/∃b ents clock,g.phi i=some b/\w.heap[b]?=some (.map ents clock)/\ents.size=es.length/\
      ∀(k:Nat)(e:D×D)(m:MapEntry),es[k]?=some e->ents[k]?=some m->DRep w g.X e.1 m.key/\DRep w g.X e.2 m.val
  |.ob o=>∃b,g.phi i=some b/\w.heap[b]?=some o
  |.mapv _ _ es=>∃b ents clock,g.phi i=some b/\w.heap[b]?=some (.map ents clock)/\ents.size=es.length/\
      ∀(k:Nat)(e:D×AV)(m:MapEntry),es[k]?=some e->ents[k]?=some m->DRep w g.X e.1 m.key/\ARep w g e.2 m.val
  |.lp s pd ps asg body n fr=>∃b r,g.phi i=some b/\w.heap[b]?=some (.loop r)/\r.state=s/\r.pending=pd/\r.params=ps/\r.assign=asg/\r.body=body/\r.tmps.size=n/\∀t,ARep w g (Fr.get fr t) (r.tmps.getD t undef)
theorem BRep.mono{w w':World}{g g':Gh}{i:Nat}{B:Blk}(h:BRep w g i B)(hg:Grow w g w' g')(hn:g.phi i=none->g'.phi i=none)
    (hb:∀b,g.phi i=some b->w'.heap[b]?=w.heap[b]?):BRep w' g' i B:=by
  cases B with
  |dead=>trivial
  |hole=>exact hn h
  |flat ty sz es=>
    rcases h with⟨he,hp⟩|⟨b,cells,hp,hw,hs,hl,h0,h1,hr⟩
    exact .inl ⟨he,hn hp⟩;refine .inr ⟨b, cells, hg.phi _ _ hp, (hb b hp).trans hw, (hg.psi _ _ hp).trans hs, hl, h0, h1, fun k e j c he hc => ?_⟩;obtain⟨v,hv,hd⟩:=hr k e j c he hc;exact⟨v,hv,hd.mono hg.X hg.mem⟩
  |box ty cs=>
    obtain⟨b,cells,hp,hw,hs,hl,hr⟩:=h;exact⟨b,cells,hg.phi _ _ hp,(hb b hp).trans hw,(hg.psi _ _ hp).trans hs,hl,λj c v hc hv=>(hr j c v hc hv).mono hg⟩
  |map kt vt es=>
    rcases h with⟨he,hp⟩|⟨b,ents,clock,hp,hw,hs,hr⟩
    exact .inl ⟨he,hn hp⟩;exact .inr ⟨b,ents,clock,hg.phi _ _ hp,(hb b hp).trans hw,hs,λk e m he hm=>⟨(hr k e m he hm).1.mono hg.X hg.mem,(hr k e m he hm).2.mono hg.X hg.mem⟩⟩
  |ob o=>obtain⟨b,hp,hw⟩:=h;exact⟨b,hg.phi _ _ hp,(hb b hp).trans hw⟩
  |mapv kt vt es=>
    obtain⟨b,ents,clock,hp,hw,hs,hr⟩:=h;exact⟨b,ents,clock,hg.phi _ _ hp,(hb b hp).trans hw,hs,λk e m he hm=>⟨(hr k e m he hm).1.mono hg.X hg.mem,(hr k e m he hm).2.mono hg⟩⟩
  |lp s pd ps asg body n fr=>
    obtain⟨b,r,hp,hw,h1,h2,h3,h4,h5,h6,hr⟩:=h;exact⟨b,r,hg.phi _ _ hp,(hb b hp).trans hw,h1,h2,h3,h4,h5,h6,λt=>(hr t).mono hg⟩
structure St where
  fr:Fr
  hp:List Blk
structure Ctx where
  P:Program
  n:Nat
  w0:World
  k:Nat
  g0:Gh
  mv:Nat->Bool
abbrev zF:List (Nat×List Value):=[(0,[.int .i64 1,.int .i64 0,.int .i64 1,.int .i64 0,.int .i64 1,.int .i64 1,.int .i64 0,.int .i64 0,.int .i64 2,.int .i64 0,.int .i64 1,.int .i64 1,.int .i64 2,.int .i64 0,.int .i64 2,.int .i64 2,.int .i64 2,.int .i64 1,.int .i64 0,.int .i64 1,.int .i64 2,.int .i64 2,.int .i64 0,.int .i64 2,.int .i64 3,.int .i64 0,.int .i64 1,.int .i64 0,.int .i64 3,.int .i64 1,.int .i64 0,.int .i64 0,.int .i64 3,.int .i64 2,.int .i64 3,.int .i64 0,.int .i64 3,.int .i64 3,.int .i64 2,.int .i64 0]),(1,[.int .i64 0,.int .i64 2,.int .i64 3,.int .i64 4]),(2,[.int .u64 1,.int .u64 10,.int .u64 100,.int .u64 1000,.int .u64 10000,.int .u64 100000,.int .u64 1000000,.int .u64 10000000,.int .u64 100000000,.int .u64 1000000000,.int .u64 10000000000,.int .u64 100000000000,.int .u64 1000000000000,.int .u64 10000000000000,.int .u64 100000000000000,.int .u64 1000000000000000,.int .u64 10000000000000000,.int .u64 100000000000000000,.int .u64 1000000000000000000,.int .u64 10000000000000000000])]
def Hb(w:World)(g:Gh):Prop:=∀x∈zF,(∃t fz,w.heap[x.1]?=some (.cells x.2.toArray t fz))/\∀i,g.phi i≠some x.1
structure Sim (C:Ctx) (st:St) (g:Gh) (a:Act) (w:World):Prop where
  defers:a.defers=C.g0.df
  size:a.tmps.size=C.n
  fr:∀t,ARep w g (st.fr.get t) (a.tmps.getD t undef)
  hp:∀(i:Nat)(B:Blk),st.hp[i]?=some B->BRep w g i B
  lt:∀(i b:Nat),g.phi i=some b->b<w.heap.size/\i<st.hp.length/\¬g.X b
  inj:∀(i j b:Nat)(Bi Bj:Blk),st.hp[i]?=some Bi->st.hp[j]?=some Bj->Bi≠.dead->Bj≠.dead->g.phi i=some b->g.phi j=some b->i=j
  Xlt:∀b,g.X b->b<w.heap.size
  Xold:∀b,g.X b->b<C.w0.heap.size->C.g0.X b
  os:w.os=C.w0.os
  tape:w.tape=C.w0.tape
  output:w.output=C.w0.output
  drawn:C.w0.drawn<=w.drawn
  grown:C.w0.heap.size<=w.heap.size
  keep:∀b,b<C.w0.heap.size->(∀i,i<C.k->C.g0.phi i≠some b)->w.heap[b]?=C.w0.heap[b]?
  own:∀(i b:Nat),g.phi i=some b->b<C.w0.heap.size->i<C.k/\C.g0.phi i=some b
  stay:∀(i b:Nat),i<C.k->C.mv i=false->C.g0.phi i=some b->g.psi i=C.g0.psi i/\g.phi i=some b
  kle:C.k<=st.hp.length
  laid:Hb C.w0 C.g0
theorem Sim.laidW{C:Ctx}{st:St}{g:Gh}{a:Act}{w:World}(h:Sim C st g a w):Hb w g:=λx hx=>by
  obtain⟨⟨t,fz,e⟩,hn⟩:=h.laid x hx;have hlt:x.1<C.w0.heap.size:=(zal5q.1 e).1;exact⟨⟨t,fz,(h.keep x.1 hlt λi _=>hn i).trans e⟩,λi hi=>hn i (h.own i x.1 hi hlt).2⟩
variable {C:Ctx}{st:St}{g:Gh}{a:Act}{w:World}
theorem getD_set(xs:Array Value)(d t:Nat)(v:Value)(hd:d<xs.size):(xs.setIfInBounds d v).getD t undef=if d=t then v else xs.getD t undef:=by
  simp only[ql,Array.getElem?_setIfInBounds];split;rename_i h;subst h;simp;rfl
theorem Sim.put(h:Sim C st g a w){d:Nat}(hd:d<C.n){x:AV}{v:Value}(hx:ARep w g x v):Sim C ⟨(d,x)::st.fr,st.hp⟩ g (a.put (some d) v) w:=by
  refine{ h with size:=?_,fr:=?_ };simpa[Act.put]using h.size;intro t;simp only[Act.put,Fr.get];rw[getD_set _ _ _ _ (by rw[h.size];exact hd)];split;exact hx;exact h.fr t
theorem Sim.forget(h:Sim C st g a w){fr:Fr}(hf:∀t,Fr.get fr t=st.fr.get t\/Fr.get fr t=.junk):Sim C ⟨fr,st.hp⟩ g a w:=
  by
  refine{ h with fr:=λt=>?_ };rcases hf t with e|e
  simp only[e];exact h.fr t;simp only[e];exact .junk _
theorem Sim.sameHeap(h:Sim C st g a w){w':World}(hh:w'.heap=w.heap)(ho:w'.os=w.os)(ht:w'.tape=w.tape)(hout:w'.output=w.output)(hdr:w.drawn<=w'.drawn):Sim C st g a w':=by
  have hg:Grow w g w' g:=⟨λ_ _ h=>h,λ_ _ _=>rfl,λ_ h=>h,λ_ _=>by rw[hh]⟩
  exact { defers := h.defers, size := h.size, fr := fun t => (h.fr t).mono hg
          hp:=λi B hB=>(h.hp i B hB).mono hg id λb _=>by rw[hh]
          lt:=by rw[hh];exact h.lt
          inj:=h.inj,Xlt:=by rw[hh];exact h.Xlt,Xold:=h.Xold,os:=ho.trans h.os,tape:=ht.trans h.tape,output:=hout.trans h.output,drawn:=dQ h.drawn hdr
          grown:=by rw[hh];exact h.grown
          keep:=by rw[hh];exact h.keep
          own:=h.own,stay:=h.stay,kle:=h.kle,laid:=h.laid }
theorem Sim.drew(h:Sim C st g a w):Sim C st g a w.drew:=h.sameHeap rfl rfl rfl rfl (Nat.le_succ _)
def upd{α:Type}(f:Nat->α)(i:Nat)(x:α):Nat->α:=λj=>if j=i then x else f j
theorem upd_same{α:Type}(f:Nat->α)(i:Nat)(x:α):upd f i x i=x:=by simp[upd]
def Gh.new(g:Gh)(i b n:Nat):Gh:={ g with phi:=upd g.phi i (some b),psi:=upd g.psi i n }
theorem dU(w:World)(o:Obj)(b:Nat)(hb:b<w.heap.size):(w.alloc o).heap[b]?=w.heap[b]?:=heap_alloc_old w o (h:=hb)
theorem Sim.phi_none(h:Sim C st g a w){i:Nat}(hi:st.hp.length<=i):g.phi i=none:=by
  cases hp:g.phi i with
  |none=>rfl
  |some b=>have:=(h.lt i b hp).2.1;omega
theorem Sim.grow_new(h:Sim C st g a w)(o:Obj)(n:Nat):Grow w g (w.alloc o) (g.new st.hp.length w.heap.size n):=by
  refine⟨λi b hp=>?_,λi b hp=>?_,λb hX=>hX,λb hX=>dU w o b (h.Xlt b hX)⟩;have:=(h.lt i b hp).2.1;simpa[Gh.new,upd,show i≠st.hp.length by omega]using hp;have:=(h.lt i b hp).2.1;simp[Gh.new,upd,show i≠st.hp.length by omega]
theorem Sim.alloc(h:Sim C st g a w){o:Obj}{n:Nat}{B:Blk}(hB:BRep (w.alloc o) (g.new st.hp.length w.heap.size n) st.hp.length B):
    Sim C ⟨st.fr,st.hp++[B]⟩ (g.new st.hp.length w.heap.size n) a (w.alloc o):=by
  have hg:=h.grow_new o n
  have hkeep:∀i b,(g.new st.hp.length w.heap.size n).phi i=some b->(i=st.hp.length/\b=w.heap.size)\/(i≠st.hp.length/\g.phi i=some b):=by
    intro i b hp;by_cases hi:i=st.hp.length;subst hi;simp[Gh.new,upd]at hp;exact .inl ⟨rfl,hp.symm⟩;simp[Gh.new,upd,hi]at hp;exact .inr ⟨hi,hp⟩
  refine{ defers:=h.defers,size:=h.size,fr:=λt=>(h.fr t).mono hg,hp:=?_,lt:=?_,inj:=?_,Xlt:=?_,Xold:=h.Xold,os:=h.os,tape:=h.tape,output:=h.output,drawn:=h.drawn,grown:=?_,keep:=?_,own:=?_,stay:=?_,kle:=?_,laid:=h.laid };intro i B' hi;simp only[eW]at hi;split at hi;rename_i hlt;refine(h.hp i B' hi).mono hg (λhn=>by simpa[Gh.new,upd,show i≠st.hp.length by omega]using hn) λb hb=>dU w o b (h.lt i b hb).1;rename_i hge
  have:i=st.hp.length:=by
    rcases dB (i-st.hp.length) 1 with h1|h1
    omega;rw[iS (by simpa using h1)]at hi;cases hi
  subst this;simp at hi;subst hi;exact hB;intro i b hp;simp only[World.size_alloc,kI,eK,qY];rcases hkeep i b hp with⟨rfl,rfl⟩|⟨_,hp'⟩
  exact⟨by omega,by omega,λhX=>by have:=h.Xlt _ hX;omega⟩;have:=h.lt i b hp';exact⟨by omega,by omega,this.2.2⟩;intro i j b Bi Bj hBi hBj hdi hdj hi hj;rcases hkeep i b hi with⟨rfl,rfl⟩|⟨h1,hi'⟩<;>rcases hkeep j _ hj with⟨rfl,h2⟩|⟨h3,hj'⟩
  rfl;have:=(h.lt _ _ hj').1;omega;have:=(h.lt _ _ hi').1;omega;have l1:=(h.lt _ _ hi').2.1;have l2:=(h.lt _ _ hj').2.1;rw[eW,if_pos l1]at hBi;rw[eW,if_pos l2]at hBj;exact h.inj i j b Bi Bj hBi hBj hdi hdj hi' hj';intro b hX;have:=h.Xlt b hX;simp only[World.size_alloc];omega;have:=h.grown;simp only[World.size_alloc];omega;intro b hb hk;rw[dU w o b (by have:=h.grown;omega)];exact h.keep b hb hk;intro i b hp hb;rcases hkeep i b hp with⟨rfl,rfl⟩|⟨_,hp'⟩
  have:=h.grown;omega;exact h.own i b hp' hb;intro i b hi hm hp;have hne:i≠st.hp.length:=by have:=h.kle;omega
  have:=h.stay i b hi hm hp;simpa[Gh.new,upd,hne]using this;have:=h.kle;simp only[kI,eK,qY];omega
theorem Sim.virt(h:Sim C st g a w)(ty sz:Nat):Sim C ⟨st.fr,st.hp++[.flat ty sz []]⟩ g a w:=by
  refine{ h with hp:=?_,lt:=?_,inj:=?_,kle:=?_ };intro i B hi;simp only[eW]at hi;split at hi;exact h.hp i B hi;rename_i hge
  have:i=st.hp.length:=by
    rcases dB (i-st.hp.length) 1 with h1|h1
    omega;rw[iS (by simpa using h1)]at hi;cases hi
  subst this;simp at hi;subst hi;exact .inl ⟨rfl,h.phi_none (cT _)⟩;intro i b hp;have:=h.lt i b hp;simp only[kI,eK,qY];exact⟨this.1,by omega,this.2.2⟩;intro i j b Bi Bj hBi hBj hdi hdj hi hj;have l1:=(h.lt _ _ hi).2.1;have l2:=(h.lt _ _ hj).2.1;rw[eW,if_pos l1]at hBi;rw[eW,if_pos l2]at hBj;exact h.inj i j b Bi Bj hBi hBj hdi hdj hi hj;have:=h.kle;simp only[kI,eK,qY];omega
def Gh.wide(g:Gh)(b:Nat):Gh:={ g with X:=λc=>g.X c\/c=b }
theorem Sim.allocX(h:Sim C st g a w)(o:Obj):Sim C st (g.wide w.heap.size) a (w.alloc o)/\Grow w g (w.alloc o) (g.wide w.heap.size):=by
  have hg:Grow w g (w.alloc o) (g.wide w.heap.size):=⟨λ_ _ h=>h,λ_ _ _=>rfl,λ_ h=>.inl h,λb hX=>dU w o b (h.Xlt b hX)⟩
  refine ⟨{ defers := h.defers, size := h.size, fr := fun t => (h.fr t).mono hg
            hp:=λi B hB=>(h.hp i B hB).mono hg id λb hb=>dU w o b (h.lt i b hb).1
            lt:=?_,inj:=h.inj,Xlt:=?_,Xold:=?_,os:=h.os,tape:=h.tape,output:=h.output,drawn:=h.drawn,grown:=?_,keep:=?_,own:=h.own,stay:=h.stay,kle:=h.kle,laid:=h.laid },hg⟩
  intro i b hp;have:=h.lt i b hp;refine⟨by simp only[World.size_alloc];omega,this.2.1,λhX=>?_⟩;rcases hX with hX|hX
  exact this.2.2 hX;omega;intro b hX;simp only[World.size_alloc];rcases hX with hX|hX
  have:=h.Xlt b hX;omega;omega;intro b hX hb;rcases hX with hX|hX
  exact h.Xold b hX hb;have:=h.grown;omega;have:=h.grown;simp only[World.size_alloc];omega;intro b hb hk;rw[dU w o b (by have:=h.grown;omega)];exact h.keep b hb hk
theorem Sim.change(h:Sim C st g a w){i b:Nat}{B0:Blk}(hB0:st.hp[i]?=some B0)(hd0:B0≠.dead)(hp:g.phi i=some b){w':World}(hsz:w'.heap.size=w.heap.size)(ho:w'.os=w.os)(ht:w'.tape=w.tape)(hout:w'.output=w.output)(hdr:w.drawn<=w'.drawn)
    (hoth:∀b',b'≠b->w'.heap[b']?=w.heap[b']?) {B:Blk} (hB:BRep w' g i B):Sim C ⟨st.fr,st.hp.set i B⟩ g a w':=by
  have hnX:¬g.X b:=(h.lt i b hp).2.2;have hg:Grow w g w' g:=⟨λ_ _ h=>h,λ_ _ _=>rfl,λ_ h=>h,λc hX=>hoth c λe=>hnX (e ▸ hX)⟩;refine{ defers:=h.defers,size:=h.size,fr:=λt=>(h.fr t).mono hg,hp:=?_,lt:=?_,inj:=?_,Xlt:=?_,Xold:=h.Xold,os:=ho.trans h.os,tape:=ht.trans h.tape,output:=hout.trans h.output,drawn:=dQ h.drawn hdr,grown:=?_,keep:=?_,own:=h.own,stay:=h.stay,kle:=?_,laid:=h.laid };intro j B' hj;rw[cG]at hj;split at hj;rename_i e;subst e;split at hj;cases hj;exact hB;cases hj;rename_i hne;by_cases hdj:B'=.dead;subst hdj;trivial;exact(h.hp j B' hj).mono hg id λc hc=>hoth c λe=>hne (h.inj i j b B0 B' hB0 hj hd0 hdj hp (e ▸ hc));rw[hsz];simpa using h.lt
  have inv:∀(j:Nat)(Bj:Blk),(st.hp.set i B)[j]?=some Bj->Bj≠.dead->∃B',st.hp[j]?=some B'/\B'≠.dead:=by
    intro j Bj hj hd;rw[cG]at hj;split at hj;rename_i e;subst e;exact⟨B0,hB0,hd0⟩;exact⟨Bj,hj,hd⟩
  intro j j' c Bj Bj' h1 h2 h3 h4 h5 h6;obtain⟨B1,e1,d1⟩:=inv j Bj h1 h3;obtain⟨B2,e2,d2⟩:=inv j' Bj' h2 h4;exact h.inj j j' c B1 B2 e1 e2 d1 d2 h5 h6;rw[hsz];exact h.Xlt;rw[hsz];exact h.grown;intro c hc hk
  have hne:c≠b:=by
    intro e;subst e;obtain⟨hj,h0⟩:=h.own i c hp hc;exact hk i hj h0
  rw[hoth c hne];exact h.keep c hc hk;simpa using h.kle
def AV.isRef:AV->Bool
  |.msl ..|.mptr ..|.mmap _|.yld _|.mmapN ..=>true
  |_=>false
mutual
def AV.mapRef(F:AV->AV):AV->AV
  |.junk=>.junk
  |.und=>.und
  |.d x=>.d x
  |.msl i s o l=>F (.msl i s o l)
  |.mptr i s x o=>F (.mptr i s x o)
  |.mmap i=>F (.mmap i)
  |.yld i=>F (.yld i)
  |.mmapN i n=>F (.mmapN i n)
  |.agg cs=>.agg (AV.mapRefs F cs)
  |.tup cs=>.tup (AV.mapRefs F cs)
  |.fnc f cs=>.fnc f (AV.mapRefs F cs)
  |.ifc t c=>.ifc t (AV.mapRef F c)
def AV.mapRefs(F:AV->AV):List AV->List AV
  |[]=>[]
  |c::r=>AV.mapRef F c::AV.mapRefs F r
end
theorem AV.mapRefs_eq(F:AV->AV):∀cs:List AV,AV.mapRefs F cs=cs.map (AV.mapRef F)
  |[]=>rfl
  |c::r=>by simp[AV.mapRefs,AV.mapRefs_eq F r]
theorem ARep.mapRef{w w':World}{g g':Gh}{F:AV->AV}(hD:∀d v,DRep w g.X d v->DRep w' g'.X d v)
    (hF:∀x v,ARep w g x v->x.isRef=true->ARep w' g' (F x) v) {x:AV} {v:Value} (h:ARep w g x v):ARep w' g' (x.mapRef F) v:=by
  induction h with
  |junk=>exact .junk _
  |und=>exact .und
  |d d v h=>exact .d d v (hD d v h)
  |msl0 i s o a=>exact hF _ _ (.msl0 i s o a) rfl
  |msl i s o l c b h1 h2 h3=>exact hF _ _ (.msl i s o l c b h1 h2 h3) rfl
  |mptr i s x o b h=>exact hF _ _ (.mptr i s x o b h) rfl
  |mmap i b h=>exact hF _ _ (.mmap i b h) rfl
  |yld i b h=>exact hF _ _ (.yld i b h) rfl
  |mmapN0 i=>exact hF _ _ (.mmapN0 i) rfl
  |mmapN i n b h=>exact hF _ _ (.mmapN i n b h) rfl
  |agg cs vs hl _ ih=>
    simp only[AV.mapRef,AV.mapRefs_eq];refine .agg _ vs (by simpa using hl) λi c v hc hv=>?_;simp only[cM,bZ]at hc;obtain⟨c',hc',rfl⟩:=hc;exact ih i c' v hc' hv
  |tup cs vs hl _ ih=>
    simp only[AV.mapRef,AV.mapRefs_eq];refine .tup _ vs (by simpa using hl) λi c v hc hv=>?_;simp only[cM,bZ]at hc;obtain⟨c',hc',rfl⟩:=hc;exact ih i c' v hc' hv
  |fnc f cs vs hl _ ih=>
    simp only[AV.mapRef,AV.mapRefs_eq];refine .fnc f _ vs (by simpa using hl) λi c v hc hv=>?_;simp only[cM,bZ]at hc;obtain⟨c',hc',rfl⟩:=hc;exact ih i c' v hc' hv
  |ifc t c v _ ih=>exact .ifc t _ v ih
def Fr.mapRef(F:AV->AV):Fr->Fr
  |[]=>[]
  |(t,v)::r=>(t,v.mapRef F)::Fr.mapRef F r
theorem Fr.get_mapRef(F:AV->AV):∀(fr:Fr)(t:Nat),(Fr.mapRef F fr).get t=(fr.get t).mapRef F
  |[],_=>rfl
  |(k,v)::r,t=>by
    simp only[Fr.mapRef,Fr.get];split;rfl;exact Fr.get_mapRef F r t
def Blk.mapRef(F:AV->AV):Blk->Blk
  |.dead=>.dead
  |.hole=>.hole
  |.flat ty sz es=>.flat ty sz es
  |.box ty cs=>.box ty (AV.mapRefs F cs)
  |.map kt vt es=>.map kt vt es
  |.ob o=>.ob o
  |.mapv kt vt es=>.mapv kt vt (es.map λe=>(e.1,AV.mapRef F e.2))
  |.lp s pd ps asg body n fr=>.lp s pd ps asg body n (Fr.mapRef F fr)
theorem BRep.mapRef{w:World}{g g':Gh}{F:AV->AV}{i j:Nat}(hphi:g'.phi j=g.phi i)(hpsi:g'.psi j=g.psi i)(hX:∀b,g.X b->g'.X b)
    (hF:∀x v,ARep w g x v->x.isRef=true->ARep w g' (F x) v) {B:Blk} (h:BRep w g i B):BRep w g' j (B.mapRef F):=by
  cases B with
  |dead=>trivial
  |hole=>exact hphi.trans h
  |flat ty sz es=>
    rcases h with⟨he,hp⟩|⟨b,cells,hp,hw,hs,hl,h0,h1,hr⟩
    exact .inl ⟨he,hphi.trans hp⟩;refine .inr ⟨b, cells, hphi.trans hp, hw, hpsi.trans hs, hl, h0, h1, fun k e j c he hc => ?_⟩;obtain⟨v,hv,hd⟩:=hr k e j c he hc;exact⟨v,hv,hd.mono hX λ_ _=>rfl⟩
  |box ty cs=>
    obtain⟨b,cells,hp,hw,hs,hl,hr⟩:=h;refine⟨b,cells,hphi.trans hp,hw,hpsi.trans hs,by simpa[AV.mapRefs_eq]using hl,λj c v hc hv=>?_⟩;simp only[AV.mapRefs_eq,cM,bZ]at hc;obtain⟨c',hc',rfl⟩:=hc;exact(hr j c' v hc' hv).mapRef (λd v h=>h.mono hX λ_ _=>rfl) hF
  |map kt vt es=>
    rcases h with⟨he,hp⟩|⟨b,ents,clock,hp,hw,hs,hr⟩
    exact .inl ⟨he,hphi.trans hp⟩;exact .inr ⟨b,ents,clock,hphi.trans hp,hw,hs,λk e m he hm=>⟨(hr k e m he hm).1.mono hX λ_ _=>rfl,(hr k e m he hm).2.mono hX λ_ _=>rfl⟩⟩
  |ob o=>obtain⟨b,hp,hw⟩:=h;exact⟨b,hphi.trans hp,hw⟩
  |mapv kt vt es=>
    obtain⟨b,ents,clock,hp,hw,hs,hr⟩:=h;refine⟨b,ents,clock,hphi.trans hp,hw,by simpa using hs,λk e m he hm=>?_⟩;simp only[cM,bZ]at he;obtain⟨e',he',rfl⟩:=he;exact⟨(hr k e' m he' hm).1.mono hX λ_ _=>rfl,(hr k e' m he' hm).2.mapRef (λd v h=>h.mono hX λ_ _=>rfl) hF⟩
  |lp s pd ps asg body n fr=>
    obtain⟨b,r,hp,hw,h1,h2,h3,h4,h5,h6,hr⟩:=h;exact⟨b,r,hphi.trans hp,hw,h1,h2,h3,h4,h5,h6,λt=>by rw[Fr.get_mapRef];exact(hr t).mapRef (λd v h=>h.mono hX λ_ _=>rfl) hF⟩
def toName(f:Nat->Option Nat):AV->AV
  |.msl i s o l=>match f i with|some j=>.msl j s o l|none=>.junk
  |.mptr i s x o=>match f i with|some j=>.mptr j s x o|none=>.junk
  |.mmap i=>match f i with|some j=>.mmap j|none=>.junk
  |.yld i=>match f i with|some j=>.yld j|none=>.junk
  |.mmapN i n=>match f i with|some j=>.mmapN j n|none=>.junk
  |v=>v
theorem ARep.toName{w:World}{g g':Gh}{f:Nat->Option Nat}(hf:∀i j,f i=some j->g'.phi j=g.phi i/\g'.psi j=g.psi i)(_hX:∀b,g.X b->g'.X b)(x:AV)(v:Value)(h:ARep w g x v)
    (hr:x.isRef=true):ARep w g' (TL.toName f x) v:=by
  cases h with
  |msl0 id sz off a=>
    simp only[TL.toName];split;exact .msl0 _ _ _ _;exact .junk _
  |msl id sz off len cap b hb hc hp=>
    simp only[TL.toName];split;rename_i j hj;exact .msl _ _ _ _ _ b ((hf _ _ hj).1.trans hb) hc (by rw[(hf _ _ hj).2];exact hp);exact .junk _
  |mptr id sz idx off b hb=>
    simp only[TL.toName];split;rename_i j hj;exact .mptr _ _ _ _ b ((hf _ _ hj).1.trans hb);exact .junk _
  |mmap id b hb=>
    simp only[TL.toName];split;rename_i j hj;exact .mmap _ b ((hf _ _ hj).1.trans hb);exact .junk _
  |yld id b hb=>
    simp only[TL.toName];split;rename_i j hj;exact .yld _ b ((hf _ _ hj).1.trans hb);exact .junk _
  |mmapN0 id=>
    simp only[TL.toName];split;exact .mmapN0 _;exact .junk _
  |mmapN id n b hb=>
    simp only[TL.toName];split;rename_i j hj;exact .mmapN _ _ b ((hf _ _ hj).1.trans hb);exact .junk _
  |_=>cases hr
theorem rZ:∀{l:List Nat},l.Nodup->∀{i j x:Nat},l[i]?=some x->l[j]?=some x->i=j
  |[],_,i,_,_,hi,_=>by simp at hi
  |y::r,hn,i,j,x,hi,hj=>by
    simp only[zal83q]at hn
    cases i with
    |zero=>
      cases j with
      |zero=>rfl
      |succ j=>simp at hi hj;subst hi;exact absurd (dR hj) hn.1
    |succ i=>
      cases j with
      |zero=>simp at hi hj;subst hj;exact absurd (dR hi) hn.1
      |succ j=>simp at hi hj;rw[rZ hn.2 hi hj]
def aR:List Nat->Nat->Option Nat
  |[],_=>none
  |x::r,i=>if x=i then some 0 else(aR r i).map (·+1)
theorem cE:∀(l:List Nat)(i j:Nat),aR l i=some j->l[j]?=some i
  |[],_,_,h=>by cases h
  |x::r,i,j,h=>by
    simp only[aR]at h;split at h;rename_i e;cases h;simp[e];simp only[bZ]at h;obtain⟨k,hk,rfl⟩:=h;simpa using cE r i k hk
def Fr.keep(ks:List Nat)(fr:Fr):Fr:=ks.map λt=>(t,fr.get t)
theorem Fr.get_keep(fr:Fr):∀(ks:List Nat)(t:Nat),(Fr.keep ks fr).get t=fr.get t\/(Fr.keep ks fr).get t=.junk
  |[],_=>.inr rfl
  |k::r,t=>by
    simp only[Fr.keep,fX,Fr.get];split;rename_i e;subst e;exact .inl rfl;exact Fr.get_keep fr r t
def St.canon(ks ids:List Nat)(st:St):St:=
  ⟨Fr.mapRef (toName (aR ids)) (Fr.keep ks st.fr),ids.map λi=>(st.hp.getD i .dead).mapRef (toName (aR ids))⟩
def Gh.canon(ids:List Nat)(g:Gh):Gh:=
  { phi:=λj=>(ids[j]?).bind g.phi,psi:=λj=>((ids[j]?).map g.psi).getD 0,X:=g.X }
theorem Sim.canon(h:Sim C st g a w)(ks ids:List Nat)(hnd:ids.Nodup)(hk:∀i,i<C.k->ids[i]?=some i):Sim C (st.canon ks ids) (g.canon ids) a w:=by
  have hphi:∀i b,(g.canon ids).phi i=some b->∃j,ids[i]?=some j/\g.phi j=some b:=by
    intro i b hp;simp only[Gh.canon,zal115q]at hp;exact hp
  have hf:∀i j,aR ids i=some j->(g.canon ids).phi j=g.phi i/\(g.canon ids).psi j=g.psi i:=by
    intro i j hij;have:=cE ids i j hij;simp[Gh.canon,this]
  refine{ defers:=h.defers,size:=h.size,fr:=?_,hp:=?_,lt:=?_,inj:=?_,Xlt:=h.Xlt,Xold:=h.Xold,os:=h.os,tape:=h.tape,output:=h.output,drawn:=h.drawn,grown:=h.grown,keep:=h.keep,own:=?_,stay:=?_,kle:=?_,laid:=h.laid };intro t;simp only[St.canon,Fr.get_mapRef];refine ARep.mapRef (w:=w) (g:=g) (g':=g.canon ids) (λd v hd=>hd) (ARep.toName hf λ_ hb=>hb) ?_;rcases Fr.get_keep st.fr ks t with e|e<;>rw[e]
  exact h.fr t;exact .junk _;intro i B hi;simp only[St.canon,cM,bZ]at hi;obtain⟨j,hj,rfl⟩:=hi
  cases hB:st.hp[j]? with
  |none=>simp[List.getD,hB,Blk.mapRef,BRep]
  |some B=>
    rw[mV,hB];exact BRep.mapRef (i:=j) (g:=g) (g':=g.canon ids) (by simp[Gh.canon,hj]) (by simp[Gh.canon,hj]) (λ_ hb=>hb) (ARep.toName hf λ_ hb=>hb) (h.hp j B hB)
  intro i b hp;obtain⟨j,hj,hp'⟩:=hphi i b hp;have:=h.lt j b hp';exact⟨this.1,by simpa[St.canon]using(zal44q.1 hj).1,this.2.2⟩;intro i j b Bi Bj hBi hBj hdi hdj hi hj;obtain⟨i',hi',hpi⟩:=hphi i b hi;obtain⟨j',hj',hpj⟩:=hphi j b hj
  have inv:∀(m m':Nat)(Bm:Blk),ids[m]?=some m'->(st.canon ks ids).hp[m]?=some Bm->Bm≠.dead->∃B',st.hp[m']?=some B'/\B'≠.dead:=by
    intro m m' Bm hm hB hd;simp only[St.canon,cM,hm,gO,mE]at hB
    cases hh:st.hp[m']? with
    |none=>rw[mV,hh]at hB;subst hB;exact absurd rfl hd
    |some B'=>
      refine⟨B',rfl,λe=>?_⟩;subst e;rw[mV,hh]at hB;subst hB;exact hd rfl
  obtain⟨B1,e1,d1⟩:=inv i i' Bi hi' hBi hdi;obtain⟨B2,e2,d2⟩:=inv j j' Bj hj' hBj hdj;have e:=h.inj i' j' b B1 B2 e1 e2 d1 d2 hpi hpj;subst e;exact rZ hnd hi' hj';intro i b hp hb;obtain⟨j,hj,hp'⟩:=hphi i b hp;obtain⟨h1,h2⟩:=h.own j b hp' hb;have e:i=j:=rZ hnd hj (hk j h1);subst e;exact⟨h1,h2⟩;intro i b hi hm hp;have:=h.stay i b hi hm hp;simpa[Gh.canon,hk i hi]using this;simp only[St.canon,lQ];rcases dB ids.length C.k with hlt|hge
  have:=hk ids.length hlt;simp at this;exact hge
def purge(i:Nat):AV->AV
  |.msl j s o l=>if j=i then .junk else .msl j s o l
  |.mptr j s x o=>if j=i then .junk else .mptr j s x o
  |.mmap j=>if j=i then .junk else .mmap j
  |.yld j=>if j=i then .junk else .yld j
  |.mmapN j n=>if j=i then .junk else .mmapN j n
  |v=>v
def St.purge(i:Nat)(st:St):St:=⟨Fr.mapRef (TL.purge i) st.fr,st.hp.map (Blk.mapRef (TL.purge i))⟩
theorem zB{i j:Nat}{B:Blk}(h:(st.purge i).hp[j]?=some B)(hd:B≠.dead):∃B',st.hp[j]?=some B'/\B'≠.dead:=by
  simp only[St.purge,cM,bZ]at h;obtain⟨B',hB',rfl⟩:=h;exact⟨B',hB',λe=>by subst e;exact hd rfl⟩
theorem Sim.purge(h:Sim C st g a w)(i:Nat):Sim C (st.purge i) g a w:=by
  have hF:∀(x:AV)(v:Value),ARep w g x v->x.isRef=true->ARep w g (TL.purge i x) v:=by
    intro x v hx _;cases x<;>simp only[TL.purge]<;>(try exact hx)<;>split<;>first|exact .junk _|exact hx
  refine{ h with fr:=λt=>?_,hp:=?_,lt:=?_,inj:=?_,kle:=?_ };simp only[St.purge,Fr.get_mapRef];exact(h.fr t).mapRef (λd v hd=>hd) hF;intro j B hj;simp only[St.purge,cM,bZ]at hj;obtain⟨B',hB',rfl⟩:=hj;exact BRep.mapRef rfl rfl (λ_ hb=>hb) hF (h.hp j B' hB');simpa[St.purge]using h.lt;intro j j' b Bj Bj' h1 h2 h3 h4 h5 h6;obtain⟨B1,e1,d1⟩:=zB h1 h3;obtain⟨B2,e2,d2⟩:=zB h2 h4;exact h.inj j j' b B1 B2 e1 e2 d1 d2 h5 h6;simpa[St.purge]using h.kle
theorem Sim.move(h:Sim C st g a w){i:Nat}(hi:i<st.hp.length)(hm:i<C.k->C.mv i=true){o:Obj}{n:Nat}{B:Blk}(hB:BRep (w.alloc o) (g.new i w.heap.size n) i B):
    Sim C ⟨(st.purge i).fr,(st.purge i).hp.set i B⟩ (g.new i w.heap.size n) a (w.alloc o):=by
  have hF:∀(x:AV)(v:Value),ARep w g x v->x.isRef=true->ARep (w.alloc o) (g.new i w.heap.size n) (TL.purge i x) v:=by
    intro x v hx _;have hD:∀b,g.X b->(w.alloc o).heap[b]?=w.heap[b]?:=λb hb=>dU w o b (h.Xlt b hb)
    cases hx with
    |msl0=>simp only[TL.purge];split<;>first|exact .junk _|exact .msl0 _ _ _ _
    |msl id sz off len cap b hb hc hp=>
      simp only[TL.purge];split;exact .junk _;rename_i hne;exact .msl _ _ _ _ _ b (by simpa[Gh.new,upd,hne]using hb) hc (by simpa[Gh.new,upd,hne]using hp)
    |mptr id sz idx off b hb=>
      simp only[TL.purge];split;exact .junk _;rename_i hne;exact .mptr _ _ _ _ b (by simpa[Gh.new,upd,hne]using hb)
    |mmap id b hb=>
      simp only[TL.purge];split;exact .junk _;rename_i hne;exact .mmap _ b (by simpa[Gh.new,upd,hne]using hb)
    |yld id b hb=>
      simp only[TL.purge];split;exact .junk _;rename_i hne;exact .yld _ b (by simpa[Gh.new,upd,hne]using hb)
    |mmapN0=>simp only[TL.purge];split<;>first|exact .junk _|exact .mmapN0 _
    |mmapN id n b hb=>
      simp only[TL.purge];split;exact .junk _;rename_i hne;exact .mmapN _ _ b (by simpa[Gh.new,upd,hne]using hb)
    |d d v hd=>exact .d _ _ (hd.mono (λ_ hb=>hb) hD)
    |_=>contradiction
  have hD:∀(d:D)(v:Value),DRep w g.X d v->DRep (w.alloc o) (g.new i w.heap.size n).X d v:=λd v hd=>hd.mono (λ_ hb=>hb) λb hb=>dU w o b (h.Xlt b hb)
  have hphi:∀j b,(g.new i w.heap.size n).phi j=some b->(j=i/\b=w.heap.size)\/(j≠i/\g.phi j=some b):=by
    intro j b hp;by_cases hj:j=i;subst hj;simp[Gh.new,upd]at hp;exact .inl ⟨rfl,hp.symm⟩;simp[Gh.new,upd,hj]at hp;exact .inr ⟨hj,hp⟩
  refine{ defers:=h.defers,size:=h.size,fr:=λt=>?_,hp:=?_,lt:=?_,inj:=?_,Xlt:=?_,Xold:=h.Xold,os:=h.os,tape:=h.tape,output:=h.output,drawn:=h.drawn,grown:=?_,keep:=?_,own:=?_,stay:=?_,kle:=?_,laid:=h.laid };simp only[St.purge,Fr.get_mapRef];exact(h.fr t).mapRef hD hF;intro j B' hj;by_cases hji:j=i;subst hji;simp only[St.purge]at hj;rw[cG,if_pos rfl]at hj;split at hj;cases hj;exact hB;cases hj;rw [cG, if_neg (fun e => hji e.symm)] at hj;simp only[St.purge,cM,bZ]at hj;obtain⟨B0,hB0,rfl⟩:=hj;have h0:=h.hp j B0 hB0
  cases B0 with
  |dead=>trivial
  |hole=>
    have h0:g.phi j=none:=h0;show(g.new i w.heap.size n).phi j=none;simpa[Gh.new,upd,hji]using h0
  |flat ty sz es=>
    rcases h0 with⟨he,hp⟩|⟨b,cells,hp,hw,hs,hl,h00,h1,hr⟩
    exact .inl ⟨he,by simpa[Gh.new,upd,hji]using hp⟩;refine .inr ⟨b, cells, by simpa [Gh.new, upd, hji] using hp, (dU w o b (h.lt j b hp).1).trans hw, by simpa [Gh.new, upd, hji] using hs, hl, h00, h1, fun k e jj c he hc => ?_⟩;obtain⟨v,hv,hd⟩:=hr k e jj c he hc;exact⟨v,hv,hD _ _ hd⟩
  |box ty cs=>
    obtain⟨b,cells,hp,hw,hs,hl,hr⟩:=h0;refine⟨b,cells,by simpa[Gh.new,upd,hji]using hp,(dU w o b (h.lt j b hp).1).trans hw,by simpa[Gh.new,upd,hji]using hs,by simpa[AV.mapRefs_eq]using hl,λjj c v hc hv=>?_⟩;simp only[AV.mapRefs_eq,cM,bZ]at hc;obtain⟨c',hc',rfl⟩:=hc;exact(hr jj c' v hc' hv).mapRef hD hF
  |map kt vt es=>
    rcases h0 with⟨he,hp⟩|⟨b,ents,clock,hp,hw,hs,hr⟩
    exact .inl ⟨he,by simpa[Gh.new,upd,hji]using hp⟩;exact .inr ⟨b,ents,clock,by simpa[Gh.new,upd,hji]using hp,(dU w o b (h.lt j b hp).1).trans hw,hs,λk e m he hm=>⟨hD _ _ (hr k e m he hm).1,hD _ _ (hr k e m he hm).2⟩⟩
  |ob q=>obtain⟨b,hp,hw⟩:=h0;exact⟨b,by simpa[Gh.new,upd,hji]using hp,(dU w o b (h.lt j b hp).1).trans hw⟩
  |mapv kt vt es=>
    obtain⟨b,ents,clock,hp,hw,hs,hr⟩:=h0;refine⟨b,ents,clock,by simpa[Gh.new,upd,hji]using hp,(dU w o b (h.lt j b hp).1).trans hw,by simpa using hs,λk e m he hm=>?_⟩;simp only[cM,bZ]at he;obtain⟨e',he',rfl⟩:=he;exact⟨hD _ _ (hr k e' m he' hm).1,(hr k e' m he' hm).2.mapRef hD hF⟩
  |lp s pd ps asg body n' fr=>
    obtain⟨b,r,hp,hw,h1,h2,h3,h4,h5,h6,hr⟩:=h0;exact⟨b,r,by simpa[Gh.new,upd,hji]using hp,(dU w o b (h.lt j b hp).1).trans hw,h1,h2,h3,h4,h5,h6,λt=>by rw[Fr.get_mapRef];exact(hr t).mapRef hD hF⟩
  intro j b hp;simp only[World.size_alloc,zal60q,St.purge,lQ];rcases hphi j b hp with⟨rfl,rfl⟩|⟨_,hp'⟩
  exact⟨by omega,hi,λhX=>by have:=h.Xlt _ hX;omega⟩;have:=h.lt j b hp';exact⟨by omega,this.2.1,this.2.2⟩;intro j j' b Bj Bj' hBj hBj' hdj hdj' hj hj';rcases hphi j b hj with⟨rfl,rfl⟩|⟨h1,h1'⟩<;>rcases hphi j' _ hj' with⟨rfl,h2⟩|⟨h3,h3'⟩
  rfl;have:=(h.lt _ _ h3').1;omega;have:=(h.lt _ _ h1').1;omega;rw [cG, if_neg (fun e => h1 e.symm)] at hBj;rw[cG,if_neg (λe=>h3 e.symm)]at hBj';obtain⟨B1,e1,d1⟩:=zB hBj hdj;obtain⟨B2,e2,d2⟩:=zB hBj' hdj';exact h.inj j j' b B1 B2 e1 e2 d1 d2 h1' h3';intro b hX;have:=h.Xlt b hX;simp only[World.size_alloc];omega;have:=h.grown;simp only[World.size_alloc];omega;intro b hb hk;rw[dU w o b (by have:=h.grown;omega)];exact h.keep b hb hk;intro j b hp hb;rcases hphi j b hp with⟨rfl,rfl⟩|⟨_,hp'⟩
  have:=h.grown;omega;exact h.own j b hp' hb;intro j b hj hmj hp
  have hne:j≠i:=by
    intro e;subst e;rw[hm hj]at hmj;cases hmj
  have:=h.stay j b hj hmj hp;simpa[Gh.new,upd,hne]using this;have:=h.kle;simpa[St.purge]using this
theorem Sim.hole(h:Sim C st g a w):Sim C ⟨st.fr,st.hp++[.hole]⟩ g a w:=by
  refine{ h with hp:=?_,lt:=?_,inj:=?_,kle:=?_ };intro i B hi;simp only[eW]at hi;split at hi;exact h.hp i B hi;rename_i hge
  have:i=st.hp.length:=by
    rcases dB (i-st.hp.length) 1 with h1|h1
    omega;rw[iS (by simpa using h1)]at hi;cases hi
  subst this;simp at hi;subst hi;exact h.phi_none (cT _);intro i b hp;have:=h.lt i b hp;simp only[kI,eK,qY];exact⟨this.1,by omega,this.2.2⟩;intro i j b Bi Bj hBi hBj hdi hdj hi hj;have l1:=(h.lt _ _ hi).2.1;have l2:=(h.lt _ _ hj).2.1;rw[eW,if_pos l1]at hBi;rw[eW,if_pos l2]at hBj;exact h.inj i j b Bi Bj hBi hBj hdi hdj hi hj;have:=h.kle;simp only[kI,eK,qY];omega
theorem Sim.grow_at(h:Sim C st g a w)(o:Obj)(n:Nat){i:Nat}(hi:g.phi i=none):Grow w g (w.alloc o) (g.new i w.heap.size n):=by
  refine⟨λj b hp=>?_,λj b hp=>?_,λb hX=>hX,λb hX=>dU w o b (h.Xlt b hX)⟩;have hj : j ≠ i := fun e => by subst e; rw [hi] at hp; cases hp
  simpa[Gh.new,upd,hj]using hp;have hj : j ≠ i := fun e => by subst e; rw [hi] at hp; cases hp
  simp[Gh.new,upd,hj]
theorem Sim.fill(h:Sim C st g a w){i:Nat}(hh:st.hp[i]?=some .hole){o:Obj}{n:Nat}{B:Blk}(hB:BRep (w.alloc o) (g.new i w.heap.size n) i B):
    Sim C ⟨st.fr,st.hp.set i B⟩ (g.new i w.heap.size n) a (w.alloc o):=by
  have hno:g.phi i=none:=h.hp i _ hh;have hi:i<st.hp.length:=(zal44q.1 hh).1;have hg:=h.grow_at o n hno
  have hphi:∀j b,(g.new i w.heap.size n).phi j=some b->(j=i/\b=w.heap.size)\/(j≠i/\g.phi j=some b):=by
    intro j b hp;by_cases hj:j=i;subst hj;simp[Gh.new,upd]at hp;exact .inl ⟨rfl,hp.symm⟩;simp[Gh.new,upd,hj]at hp;exact .inr ⟨hj,hp⟩
  refine{ defers:=h.defers,size:=h.size,fr:=λt=>(h.fr t).mono hg,hp:=?_,lt:=?_,inj:=?_,Xlt:=?_,Xold:=h.Xold,os:=h.os,tape:=h.tape,output:=h.output,drawn:=h.drawn,grown:=?_,keep:=?_,own:=?_,stay:=?_,kle:=?_,laid:=h.laid };intro j B' hj;rw[cG]at hj;split at hj;rename_i e;subst e;cases hj;exact hB;rename_i hne;refine(h.hp j B' hj).mono hg (λhn=>?_) λb hb=>dU w o b (h.lt j b hb).1;simpa[Gh.new,upd,show j≠i from λe=>hne e.symm]using hn;intro j b hp;simp only[World.size_alloc,zal60q];rcases hphi j b hp with⟨rfl,rfl⟩|⟨_,hp'⟩
  exact⟨by omega,hi,λhX=>by have:=h.Xlt _ hX;omega⟩;have:=h.lt j b hp';exact⟨by omega,this.2.1,this.2.2⟩;intro j j' b Bj Bj' hBj hBj' hdj hdj' hj hj';rcases hphi j b hj with⟨rfl,rfl⟩|⟨h1,h1'⟩<;>rcases hphi j' _ hj' with⟨rfl,h2⟩|⟨h3,h3'⟩
  rfl;have:=(h.lt _ _ h3').1;omega;have:=(h.lt _ _ h1').1;omega;rw [cG, if_neg (fun e => h1 e.symm)] at hBj;rw[cG,if_neg (λe=>h3 e.symm)]at hBj';exact h.inj j j' b Bj Bj' hBj hBj' hdj hdj' h1' h3';intro b hX;have:=h.Xlt b hX;simp only[World.size_alloc];omega;have:=h.grown;simp only[World.size_alloc];omega;intro b hb hk;rw[dU w o b (by have:=h.grown;omega)];exact h.keep b hb hk;intro j b hp hb;rcases hphi j b hp with⟨rfl,rfl⟩|⟨_,hp'⟩
  have:=h.grown;omega;exact h.own j b hp' hb;intro j b hj hmj hp
  have hne:j≠i:=λe=>by
    subst e;have:=(h.stay j b hj hmj hp).2;rw[hno]at this;cases this
  have:=h.stay j b hj hmj hp;simpa[Gh.new,upd,hne]using this;have:=h.kle;simpa using this
variable {C:Ctx}{st:St}{g:Gh}{a:Act}{w:World}{P:Program}
def kZ(n:Nat):Option Nat->Bool
  |none=>true
  |some d=>decide (d<n)
def St.put(st:St)(d:Option Nat)(x:AV):St:=
  match d with
  |none=>st
  |some d=>⟨(d,x)::st.fr,st.hp⟩
theorem Sim.put'(h:Sim C st g a w){d:Option Nat}(hd:kZ C.n d=true){x:AV}{v:Value}(hx:ARep w g x v):Sim C (st.put d x) g (a.put d v) w:=by
  cases d with
  |none=>exact h
  |some d=>exact h.put (by simpa[kZ]using hd) hx
def cj:Value->Option D
  |.bool b=>some (.bool b)
  |.int k n=>some (.int k n)
  |.string s=>some (.str s)
  |.slice none 0 0=>some .nilsl
  |.pointer none=>some .nilptr
  |.map none=>some .nilmap
  |.nilFunc=>some .nilfn
  |.nilIface=>some .nilif
  |_=>none
theorem ci{v:Value}{d:D}(h:cj v=some d)(w:World)(X:Nat->Prop):DRep w X d v/\d.one=true:=by
  cases v with
  |bool b=>cases h;exact⟨.bool _,rfl⟩
  |int k n=>cases h;exact⟨.int _ _,rfl⟩
  |string s=>cases h;exact⟨.str _,rfl⟩
  |slice a l c=>
    cases a<;>cases l<;>cases c<;>simp[cj]at h;subst h;exact⟨.nilsl _,rfl⟩
  |pointer a=>cases a<;>simp[cj]at h;subst h;exact⟨.nilptr,rfl⟩
  |map a=>cases a<;>simp[cj]at h;subst h;exact⟨.nilmap,rfl⟩
  |nilFunc=>cases h;exact⟨.nilfn,rfl⟩
  |nilIface=>cases h;exact⟨.nilif,rfl⟩
  |_=>simp[cj]at h
def wz:List Value->Option (List D)
  |[]=>some []
  |v::r=>match cj v,wz r with
    |some d,some ds=>some (d::ds)
    |_,_=>none
theorem va(w:World)(X:Nat->Prop):∀(vs:List Value)(ds:List D),wz vs=some ds->
    ds.length=vs.length/\(∀d∈ds,d.one=true)/\∀(i:Nat)(d:D)(v:Value),ds[i]?=some d->vs[i]?=some v->DRep w X d v
  |[],ds,h=>by cases h;simp
  |v::r,ds,h=>by
    simp only[wz]at h;split at h;rename_i d ds' hd hr;cases h;obtain⟨h1,h2,h3⟩:=va w X r ds' hr;refine⟨by simp[h1],?_,?_⟩;intro x hx;simp only[zal72q]at hx;rcases hx with rfl|hx
    exact(ci hd w X).2;exact h2 x hx;intro i x u hx hu
    cases i with
    |zero=>simp at hx hu;subst hx;subst hu;exact(ci hd w X).1
    |succ i=>simp at hx hu;exact h3 i x u hx hu
    cases h
def ofOne(v:Value):AV:=
  match cj v with
  |some d=>.d d
  |none=>.junk
def dV(v:Value):AV:=
  match v with
  |.agg cs=>match wz cs.toList with
    |some ds=>.d (.agg ds)
    |none=>.junk
  |v=>ofOne v
theorem jF(w:World)(g:Gh)(v:Value):ARep w g (dV v) v:=by
  have one:∀v,ARep w g (ofOne v) v:=by
    intro v;unfold ofOne;split;rename_i d hd;exact .d _ _ (ci hd w g.X).1;exact .junk _
  unfold dV;split;split
  · rename_i ds hds
    obtain⟨h1,h2,h3⟩:=va w g.X _ _ hds;exact .d _ _ (.agg ds _ (by simpa using h1) h2 λi c v hc hv=>h3 i c v hc (by simpa using hv))
  exact .junk _;exact one _
def Fr.ev(fr:Fr):Operand->AV
  |.tmp t=>fr.get t
  |.const v=>dV v
  |.global _=>.junk
  |.func f=>.d (.fn f)
theorem Sim.ev(h:Sim C st g a w)(x:Operand):ARep w g (st.fr.ev x) (a.eval x):=by
  cases x with
  |tmp t=>exact h.fr t
  |const v=>exact jF w g v
  |global g=>exact .junk _
  |func f=>exact .d _ _ (.fn f)
def Sat(C:Ctx)(K:St->Prop)(a:Act)(w:World):Prop:=∃st g,K st/\Sim C st g a w
def OpOk(C:Ctx)(o:Oper)(st:St)(K:St->Prop):Prop:=
  ∀g a w (Q:Exit->Act->World->Prop),Sim C st g a w->o.wp C.P a w (Sat C K) Q
def HpLe(hp hp':List Blk):Prop:=∀(i:Nat)(B:Blk),hp[i]?=some B->B≠.dead->hp'[i]?=some B
theorem HpLe.refl(hp:List Blk):HpLe hp hp:=λ_ _ h _=>h
def RdOk(C:Ctx)(o:Oper)(ev:Operand->AV)(hp:List Blk)(x:AV):Prop:=
  ∀st:St,HpLe hp st.hp->(∀y∈o.op.operands,st.fr.ev y=ev y)->∀g a w,Sim C st g a w->∀(Q:Exit->Act->World->Prop)(K':Act->World->Prop),
    (∀v w' g',Sim C st g' a w'->ARep w' g' x v->K' (a.put o.dst v) w')->o.wp C.P a w K' Q
theorem RdOk.mk{o:Oper}{ev:Operand->AV}{hp:List Blk}{x:AV}(h:∀st:St,HpLe hp st.hp->(∀y∈o.op.operands,st.fr.ev y=ev y)->∀g a w,Sim C st g a w->∃v,(execOp a.eval o).run C.P w=.ok (.value v) w/\ARep w g x v):RdOk C o ev hp x:=by
  intro st h1 h2 g a w hs Q K' hK;obtain⟨v,hr,hx⟩:=h st h1 h2 g a w hs;simp only[Oper.wp,hr,Oper.upon_value];exact hK v w g hs hx
theorem RdOk.ok{o:Oper}{x:AV}{K:St->Prop}(h:RdOk C o st.fr.ev st.hp x)(hd:kZ C.n o.dst=true)(hK:K (st.put o.dst x)):OpOk C o st K:=λg a w Q hs=>
  h st (HpLe.refl _) (λ_ _=>rfl) g a w hs Q _ λ_ _ g' hs' hx=>⟨_,g',hK,hs'.put' hd hx⟩
theorem OpOk.change{o:Oper}{K:St->Prop}(h:∀g a w,Sim C st g a w->∃v w',(execOp a.eval o).run C.P w=.ok (.value v) w'/\Sat C K (a.put o.dst v) w'):OpOk C o st K:=by
  intro g a w Q hs;obtain⟨v,w',hr,hx⟩:=h g a w hs;simp only[Oper.wp,hr,Oper.upon_value];exact hx
theorem OpOk.skip{o:Oper}{K:St->Prop}(h:∀g a w,Sim C st g a w->∃w',(execOp a.eval o).run C.P w=.ok .skip w'/\Sat C K (a.put o.dst undef) w'):OpOk C o st K:=by
  intro g a w Q hs;obtain⟨w',hr,hx⟩:=h g a w hs;simp only[Oper.wp,hr,Oper.upon_skip];exact hx
theorem eg{o:Oper}{ev:Operand->AV}{hp:List Blk}{x:Operand}(ho:o.op=.move x\/o.op=.assign x):RdOk C o ev hp (ev x):=
  RdOk.mk λst hhp hag g a w hs=>⟨a.eval x,by rcases ho with ho|ho<;>simp[execOp,ho],by
    rw[<- hag x (by rcases ho with ho|ho<;>simp[ho,Op.operands])]
    exact hs.ev x⟩
theorem I9{o:Oper}{ev:Operand->AV}{hp:List Blk}{c x y:Operand}(t:Bool)(u:AV)(ho:o.op=.pick c x y)(hc:ev c=.d (.bool t))
    (hu:u=if t then ev x else ev y):RdOk C o ev hp u:=
  RdOk.mk λst hhp hag g a w hs=>by
    have h:=hs.ev c;rw[hag c (by simp[ho,Op.operands]),hc]at h;generalize he:a.eval c=vc at *
    cases h with
    |d _ _ h=>
      cases h;subst hu;refine⟨if t then a.eval x else a.eval y,by simp only[execOp,ho,he];cases t<;>simp[asBool],?_⟩;cases t;have:=hs.ev y;rw[hag y (by simp[ho,Op.operands])]at this;simpa using this;have:=hs.ev x;rw[hag x (by simp[ho,Op.operands])]at this;simpa using this
def lay(P:Program)(t:TypeId):Option (Bool×Nat):=
  match P.underlying t,P.info? t with
  |some (.struct _),some i=>some (true,i.size)
  |some (.array _ _),some i=>some (true,i.size)
  |some _,some i=>some (false,i.size)
  |_,_=>none
theorem vM{t:TypeId}{b:Bool}{s:Nat}(h:lay P t=some (b,s))(w:World):(isAgg t).run P w=.ok b w/\(sizeOf t).run P w=.ok s w:=by
  unfold lay at h
  cases hu:P.underlying t with
  |none=>simp[hu]at h
  |some u=>
    cases hi:P.info? t with
    |none=>cases u<;>simp[hu,hi]at h
    |some i=>
      constructor;cases u<;>simp[hu,hi]at h<;>simp[isAgg,underlying,hu,h.1];cases u<;>simp[hu,hi]at h<;>simp[sizeOf,typeInfo,hi,h.2]
theorem kU{t:TypeId}{s:Nat}(h:lay P t=some (false,s))(w:World)(a:Addr)(v:Value)(hc:w.cell? a=some v):(loadVar t a).run P w=.ok v w:=by
  obtain⟨h1,h2⟩:=vM h w;simp[loadVar,h1,hc]
theorem kV{t:TypeId}{s:Nat}(h:lay P t=some (true,s))(w:World)(a:Addr)(vs:List Value)(hs:vs.length=s)(hc:∀(j:Nat)(v:Value),vs[j]?=some v->w.cell? (a.add j)=some v):
    (loadVar t a).run P w=.ok (.agg vs.toArray) w:=by
  obtain⟨h1,h2⟩:=vM h w;have h3:=run_loadCells_list (P:=P) w a vs hc;rw[hs]at h3;simp[loadVar,h1,h2,h3]
theorem K7(a:Addr):a.add 0=a:=by simp[Addr.add]
theorem wv{α:Type}{R:α->Value->Prop}(cs:List α)(f:Nat->Option Value)(h:∀(j:Nat)(c:α),cs[j]?=some c->∃v,f j=some v/\R c v):
    ∃vs:List Value,vs.length=cs.length/\(∀(j:Nat)(v:Value),vs[j]?=some v->f j=some v)/\∀(j:Nat)(c:α)(v:Value),cs[j]?=some c->vs[j]?=some v->R c v:=by
  refine⟨(List.range cs.length).map λj=>(f j).getD undef,by simp,?_,?_⟩;intro j v hv;simp only[cM,bZ]at hv;obtain⟨k,hk,rfl⟩:=hv;have hj:j<cs.length:=by simpa using(zal44q.1 hk).1
  have:k=j:=by simpa using((zal44q.1 hk).2).symm
  subst this;obtain⟨v,hv,_⟩:=h k _ (eE hj);simp[hv];intro j c v hc hv;simp only[cM,bZ]at hv;obtain⟨k,hk,rfl⟩:=hv;have:k=j:=by simpa using((zal44q.1 hk).2).symm
  subst this;obtain⟨v,hv,hr⟩:=h k c hc;simpa[hv]using hr
def D.part(e:D)(off s:Nat):D:=.agg ((e.cells.drop off).take s)
theorem ptr_agg{e:D}{off s:Nat}{v:Value}{X:Nat->Prop}(h:DRep w X (.ptr e off) v)(hs:off+s<=e.cells.length):
    ∃ad,v=.pointer (some ad)/\∃vs:List Value,vs.length=s/\(∀(j:Nat)(u:Value),vs[j]?=some u->w.cell? (ad.add j)=some u)/\DRep w X (e.part off s) (.agg vs.toArray):=by
  cases h with
  |ptr _ _ ad val hX h1 hv hr=>
    refine⟨ad,rfl,?_⟩;have hlen:((e.cells.drop off).take s).length=s:=by simp;omega
    obtain⟨vs,hl,h2,h3⟩:=wv (R:=DRep w X) ((e.cells.drop off).take s) (λj=>w.cell? (ad.add j)) (λj c hc=>by
      rw[kJ]at hc;split at hc;rw [lG] at hc;exact⟨_,hv j c hc,hr j c hc⟩
      cases hc)
    refine⟨vs,hl.trans hlen,h2,.agg _ _ (by simp[hl]) (λc hc=>h1 c (C4 (xj hc))) λi c v hc hv=>h3 i c v hc (by simpa using hv)⟩
theorem Hq(t:TypeId)(ad:Addr)(w:World):(Instr.loadAt t (.pointer (some ad))).run P w=(loadVar t ad).run P w:=by simp[Instr.loadAt,Instr.sureAddr]
theorem Fg(t:TypeId)(ad:Addr)(v:Value)(w:World):(Instr.storeAt t (.pointer (some ad)) v).run P w=(storeVar t ad v).run P w:=by simp[Instr.storeAt,Instr.sureAddr]
theorem iG{o:Oper}{t:TypeId}{x:Operand}(ho:o.op=.load t x){ad:Addr}(he:a.eval x=.pointer (some ad)){v:Value}(hr:(loadVar t ad).run P w=.ok v w):
    (execOp a.eval o).run P w=.ok (.value v) w:=by
  simp only[execOp,ho,he,Sem.run_bind,Hq,hr,Result.andThen_ok,Sem.run_pure]
theorem qw{o:Oper}{ev:Operand->AV}{hp:List Blk}{t:TypeId}{x:Operand}(e c:D)(off s:Nat)(ho:o.op=.load t x)(hl:lay C.P t=some (false,s))(hx:ev x=.d (.ptr e off))
    (hc:e.cells[off]?=some c):RdOk C o ev hp (.d c):=
  RdOk.mk λst hhp hag g a w hs=>by
    have h:=hs.ev x;rw[hag x (by simp[ho,Op.operands]),hx]at h;generalize he:a.eval x=vx at *
    cases h with
    |d _ _ h=>
      cases h with
      |ptr _ _ ad val hX h1 hv hr=>
        have h2:=hv 0 c (by simpa using hc);rw[K7]at h2;exact⟨val 0,iG ho he (kU hl w ad _ h2),.d _ _ (hr 0 c (by simpa using hc))⟩
theorem xM{o:Oper}{ev:Operand->AV}{hp:List Blk}{t:TypeId}{x:Operand}(e:D)(off s:Nat)(ho:o.op=.load t x)(hl:lay C.P t=some (true,s))(hx:ev x=.d (.ptr e off))
    (hc:off+s<=e.cells.length):RdOk C o ev hp (.d (e.part off s)):=
  RdOk.mk λst hhp hag g a w hs=>by
    have h:=hs.ev x;rw[hag x (by simp[ho,Op.operands]),hx]at h;generalize he:a.eval x=vx at *
    cases h with
    |d _ _ h=>
      obtain⟨ad,rfl,vs,hvs,h2,h3⟩:=ptr_agg h hc;exact⟨_,iG ho he (kV hl w ad vs hvs h2),.d _ _ h3⟩
theorem lZ{id sz idx off:Nat}{v:Value}(h:ARep w g (.mptr id sz idx off) v):∃b,g.phi id=some b/\v=.pointer (some ⟨b,idx*sz+off,none⟩):=by
  cases h with
  |mptr _ _ _ _ b hb=>exact⟨b,hb,rfl⟩
theorem Fq{o:Oper}{ev:Operand->AV}{hp:List Blk}{t ty:TypeId}{x:Operand}(id off s:Nat)(cs:List AV)(c:AV)(ho:o.op=.load t x)(hl:lay C.P t=some (false,s))(hx:ev x=.mptr id 0 0 off)
    (hb:hp[id]?=some (.box ty cs)) (hc:cs[off]?=some c):RdOk C o ev hp c:=
  RdOk.mk λst hhp hag g a w hs=>by
    have hb:=hhp _ _ hb (λe=>by cases e);have h:=hs.ev x;rw[hag x (by simp[ho,Op.operands]),hx]at h;obtain⟨b,hp,he⟩:=lZ h;obtain⟨b',cells,hp',hw,_,hlen,hr⟩:=hs.hp id _ hb;cases hp.symm.trans hp';have hoff:off<cells.size:=by rw[<- hlen];exact(zal44q.1 hc).1
    have hcell:w.cell? ⟨b,0*0+off,none⟩=some cells[off]:=by
      rw[show 0*0+off=off by omega,cell_of_row w b off cells ty (0,0) hw,xn hoff]
    exact⟨cells[off],iG ho he (kU hl w _ _ hcell),hr off c _ hc (by simp[hoff])⟩
def K6:List AV->Option (List D)
  |[]=>some []
  |.d x::r=>if x.one=true then(match K6 r with|some xs=>some (x::xs)|none=>none)else none
  |_::_=>none
theorem zQ:∀(cs:List AV)(ds:List D),K6 cs=some ds->cs=ds.map .d/\∀x∈ds,x.one=true
  |[],ds,h=>by cases h;simp
  |c::r,ds,h=>by
    cases c<;>simp only[K6]at h<;>(try (cases h;done));rename_i x;split at h;rename_i h1;split at h;rename_i xs hxs;cases h;obtain⟨e,h2⟩:=zQ r xs hxs;refine⟨by simp[e],λy hy=>?_⟩;simp only[zal72q]at hy;rcases hy with rfl|hy
    exact h1;exact h2 y hy;cases h;cases h
def wK(cs:List AV):AV:=match K6 cs with
  |some ds=>.d (.agg ds)
  |none=>.agg cs
theorem zD{cs:List AV}{vs:Array Value}(hl:cs.length=vs.size)(h:∀(i:Nat)(c:AV)(v:Value),cs[i]?=some c->vs[i]?=some v->ARep w g c v):ARep w g (wK cs) (.agg vs):=by
  unfold wK;split;rename_i ds hds;obtain⟨rfl,h1⟩:=zQ _ _ hds;refine .d _ _ (.agg ds vs (by simpa using hl) h1 λi c v hc hv=>?_);have:=h i (.d c) v (by simp[hc]) hv
  cases this with
  |d _ _ h=>exact h
  exact .agg _ _ hl h
theorem yo{o:Oper}{ev:Operand->AV}{hp:List Blk}{t ty:TypeId}{x:Operand}(id off s:Nat)(cs:List AV)(ho:o.op=.load t x)(hl:lay C.P t=some (true,s))(hx:ev x=.mptr id 0 0 off)
    (hb:hp[id]?=some (.box ty cs)) (hc:off+s<=cs.length):RdOk C o ev hp (wK ((cs.drop off).take s)):=
  RdOk.mk λst hhp hag g a w hs=>by
    have hb:=hhp _ _ hb (λe=>by cases e);have h:=hs.ev x;rw[hag x (by simp[ho,Op.operands]),hx]at h;obtain⟨b,hp,he⟩:=lZ h;obtain⟨b',cells,hp',hw,_,hlen,hr⟩:=hs.hp id _ hb;cases hp.symm.trans hp';have hlen':((cs.drop off).take s).length=s:=by simp;omega
    obtain⟨vs,hvl,h2,h3⟩:=wv (R:=ARep w g) ((cs.drop off).take s) (λj=>cells[off+j]?) (λj c hc=>by
      rw[kJ]at hc;split at hc;rw [lG] at hc;have hlt:off+j<cells.size:=by rw[<- hlen];exact(zal44q.1 hc).1
      exact⟨cells[off+j],by simp[hlt],hr _ c _ hc (by simp[hlt])⟩
      cases hc)
    refine⟨.agg vs.toArray,?_,zD (by simp[hvl]) λi c v hc hv=>h3 i c v hc (by simpa using hv)⟩
    exact iG ho he (kV hl w ⟨b,0*0+off,none⟩ vs (hvl.trans hlen') (λj v hv=>by
      rw[qF,cell_of_row w b _ cells ty (0,0) hw];simpa using h2 j v hv))
theorem Du{o:Oper}{ev:Operand->AV}{hp:List Blk}{t ty:TypeId}{x:Operand}(id sz idx off s:Nat)(es:List D)(e c:D)(ho:o.op=.load t x)(hl:lay C.P t=some (false,s))(hx:ev x=.mptr id sz idx off)
    (hb:hp[id]?=some (.flat ty sz es)) (he:es[idx]?=some e) (hc:e.cells[off]?=some c):RdOk C o ev hp (.d c):=
  RdOk.mk λst hhp hag g a w hs=>by
    have hb:=hhp _ _ hb (λe=>by cases e);have h:=hs.ev x;rw[hag x (by simp[ho,Op.operands]),hx]at h;obtain⟨b,hp,hv⟩:=lZ h;rcases hs.hp id _ hb with⟨h0,_⟩|⟨b',cells,hp',hw,_,hlen,h0,h1,hr⟩
    subst h0;simp at he;cases hp.symm.trans hp';obtain⟨v,hcv,hdv⟩:=hr idx e off c he hc;have hcell:w.cell? ⟨b,idx*sz+off,none⟩=some v:=by rw[cell_of_row w b _ cells ty (0,0) hw];exact hcv
    exact⟨v,iG ho hv (kU hl w _ _ hcell),.d _ _ hdv⟩
theorem wI{o:Oper}{ev:Operand->AV}{hp:List Blk}{t ty:TypeId}{x:Operand}(id sz idx off s:Nat)(es:List D)(e:D)(ho:o.op=.load t x)(hl:lay C.P t=some (true,s))(hx:ev x=.mptr id sz idx off)
    (hb:hp[id]?=some (.flat ty sz es)) (he:es[idx]?=some e) (hc:off+s<=e.cells.length):RdOk C o ev hp (.d (e.part off s)):=
  RdOk.mk λst hhp hag g a w hs=>by
    have hb:=hhp _ _ hb (λe=>by cases e);have h:=hs.ev x;rw[hag x (by simp[ho,Op.operands]),hx]at h;obtain⟨b,hp,hv⟩:=lZ h;rcases hs.hp id _ hb with⟨h0,_⟩|⟨b',cells,hp',hw,_,hlen,h0,h1,hr⟩
    subst h0;simp at he;cases hp.symm.trans hp';have hlen':((e.cells.drop off).take s).length=s:=by simp;omega
    obtain⟨vs,hvl,h2,h3⟩:=wv (R:=DRep w g.X) ((e.cells.drop off).take s) (λj=>cells[idx*sz+(off+j)]?) (λj c hc=>by
      rw[kJ]at hc;split at hc;rw [lG] at hc;exact hr idx e _ c he hc
      cases hc)
    refine⟨.agg vs.toArray,?_,.d _ _ (.agg _ _ (by simp[hvl]) (λc hc=>?_) λi c v hc hv=>h3 i c v hc (by simpa using hv))⟩
    exact iG ho hv (kV hl w ⟨b,idx*sz+off,none⟩ vs (hvl.trans hlen') (λj v hv=>by
      rw[qF,cell_of_row w b _ cells ty (0,0) hw,tK];exact h2 j v hv))
    obtain⟨j,hj⟩:=iL (C4 (xj hc));exact h1 idx e j c he hj
variable {C:Ctx}{st:St}{g:Gh}{a:Act}{w:World}{P:Program}
def Pw{α β:Type}(R:α->β->Prop)(xs:List α)(ys:List β):Prop:=xs.length=ys.length/\∀(i:Nat)(x:α)(y:β),xs[i]?=some x->ys[i]?=some y->R x y
theorem Pw.append{α β:Type}{R:α->β->Prop}{xs xs':List α}{ys ys':List β}(h:Pw R xs ys)(h':Pw R xs' ys'):Pw R (xs++xs') (ys++ys'):=by
  refine⟨by simp[h.1,h'.1],λi x y hx hy=>?_⟩;rw[eW]at hx hy;split at hx;rename_i hlt;rw[if_pos (by rw[<- h.1];exact hlt)]at hy;exact h.2 i x y hx hy;rename_i hge;rw[if_neg (by rw[<- h.1];exact hge),<- h.1]at hy;exact h'.2 _ x y hx hy
theorem Pw.take{α β:Type}{R:α->β->Prop}{xs:List α}{ys:List β}(h:Pw R xs ys)(n:Nat):Pw R (xs.take n) (ys.take n):=by
  refine⟨by simp[h.1],λi x y hx hy=>?_⟩;rw[kJ]at hx hy;split at hx;rename_i hlt;rw[if_pos hlt]at hy;exact h.2 i x y hx hy;cases hx
theorem Pw.drop{α β:Type}{R:α->β->Prop}{xs:List α}{ys:List β}(h:Pw R xs ys)(n:Nat):Pw R (xs.drop n) (ys.drop n):=
  ⟨by simp[h.1],λi x y hx hy=>by rw[lG]at hx hy;exact h.2 _ x y hx hy⟩
def spl{α:Type}(L:List α)(off:Nat)(cs:List α):List α:=L.take off++(cs++L.drop (off+cs.length))
theorem Pw.spl{α β:Type}{R:α->β->Prop}{xs zs:List α}{ys us:List β}(h:Pw R xs ys)(off:Nat)(h':Pw R zs us):Pw R (spl xs off zs) (spl ys off us):=by
  unfold TL.spl;rw[h'.1];exact(h.take _).append (h'.append (h.drop _))
theorem ARep.pw{w:World}{g:Gh}{c:AV}{v:Value}(h:ARep w g c v)(hf:c.flat=true):Pw (ARep w g) c.cells v.cells.toList/\∀u∈v.cells.toList,u.oneCell'=true:=by
  obtain⟨h1,h2,h3⟩:=h.cells hf
  have hp:Pw (ARep w g) c.cells v.cells.toList:=⟨by simpa using h1.symm,λi x y hx hy=>by
    obtain⟨u,hu,hr⟩:=h3 i x hx
    have:u=y:=by
      have:v.cells.toList[i]?=some u:=by simpa using hu
      rw[hy]at this;cases this;rfl
    exact this ▸ hr⟩
  refine⟨hp,λu hu=>?_⟩;obtain⟨i,hi⟩:=iL hu;have hlt:i<c.cells.length:=by rw[hp.1];exact(zal44q.1 hi).1
  exact((hp.2 i _ u (eE hlt) hi).oneCell (h2 _ (fM hlt))).1
theorem uF{t:TypeId}{bb:Bool}{s:Nat}(hl:lay P t=some (bb,s))(w:World)(b off:Nat)(ty:TypeId)(cur:Array Value)(v:Value)(hg:w.heap[b]?=some (.cells cur ty (0,0)))
    (hs:v.cells.size=s) (h1:∀u∈v.cells.toList,u.oneCell'=true) (hfit:off+s<=cur.size):
    (storeVar t ⟨b,off,none⟩ v).run P w=.ok () (w.setRow b (spl cur.toList off v.cells.toList).toArray):=by
  obtain⟨_,h2⟩:=vM hl w;have h3:=run_storeCells_at P b off ty v.cells.toList 0 cur w hg (by simpa[hs]using hfit) h1;simp only[qV]at h3;simp[storeVar,h2,hs,h3,spl]
theorem xJ{o:Oper}{t:TypeId}{x y:Operand}(ho:o.op=.store t x y){ad:Addr}(he:a.eval x=.pointer (some ad)){w':World}(hr:(storeVar t ad (a.eval y)).run P w=.ok () w'):
    (execOp a.eval o).run P w=.ok .skip w':=by
  simp only[execOp,ho,he,Sem.run_bind,Fg,hr,Result.andThen_ok,Sem.run_pure]
theorem qN(w:World)(b:Nat)(cs:Array Value):(w.setRow b cs).heap.size=w.heap.size:=by simp[World.setRow]
theorem yH{o:Oper}{t ty:TypeId}{x y:Operand}(id off s:Nat)(bb:Bool)(cs:List AV)(v:AV)(ho:o.op=.store t x y)(hd:o.dst=none)(hl:lay C.P t=some (bb,s))(hx:st.fr.ev x=.mptr id 0 0 off)
    (hy:st.fr.ev y=v) (hf:v.flat=true) (hs:v.cells.length=s) (hb:st.hp[id]?=some (.box ty cs)) (hc:off+s<=cs.length) (hsim:Sim C st g a w):∃w',(execOp a.eval o).run C.P w=.ok .skip w'/\Sim C ⟨st.fr,st.hp.set id (.box ty (spl cs off v.cells))⟩ g (a.put o.dst undef) w':=by
    have h:=hsim.ev x;rw[hx]at h;obtain⟨b,hp,he⟩:=lZ h;rw[show 0*0+off=off by omega]at he;have hv:=hsim.ev y;rw[hy]at hv;obtain⟨hpw,h1⟩:=hv.pw hf;obtain⟨b',cells,hp',hw,hpsi,hlen,hr⟩:=hsim.hp id _ hb;cases hp.symm.trans hp';have hvs:(a.eval y).cells.size=s:=by have:=hpw.1;simp only[mQ]at this;omega
    refine⟨_,xJ ho he (uF hl w b off ty cells _ hw hvs h1 (by omega)),?_⟩;rw[hd];have hX:∀b',g.X b'->b'≠b:=λb' hX e=>(hsim.lt id b hp).2.2 (e ▸ hX);have hgr:Grow w g (w.setRow b (spl cells.toList off (a.eval y).cells.toList).toArray) g:=⟨λ_ _ h=>h,λ_ _ _=>rfl,λ_ h=>h,λb' hb'=>setRow_other w b b' _ (hX b' hb')⟩;have hpw2:Pw (ARep w g) cs cells.toList:=⟨by simpa using hlen,λi c v hc hv=>hr i c v hc (by simpa using hv)⟩;have hpw3:=hpw2.spl off hpw;refine hsim.change hb (λe=>by cases e) hp (qN _ _ _) rfl rfl rfl (cT _) (λb' hb'=>setRow_other w b b' _ hb') ⟨b,_,hp,setRow_heap w b cells _ ty (0,0) hw,?_,by simpa using hpw3.1,λj c v hc hv=>(hpw3.2 j c v hc (by simpa using hv)).mono hgr⟩;have hlen3:=hpw3.1;simp only[spl,kI,gB,qZ,mQ]at hlen3;simp only[hpsi,pQ,spl,kI,gB,qZ,mQ];omega
theorem D4{o:Oper}{K:St->Prop}{t ty:TypeId}{x y:Operand}(id off s:Nat)(bb:Bool)(cs:List AV)(v:AV)(ho:o.op=.store t x y)(hd:o.dst=none)(hl:lay C.P t=some (bb,s))(hx:st.fr.ev x=.mptr id 0 0 off)
    (hy:st.fr.ev y=v) (hf:v.flat=true) (hs:v.cells.length=s) (hb:st.hp[id]?=some (.box ty cs)) (hc:off+s<=cs.length) (hK:K ⟨st.fr,st.hp.set id (.box ty (spl cs off v.cells))⟩):OpOk C o st K:=
  OpOk.skip λ_ _ _ hsim=>by
    obtain⟨w',h1,h2⟩:=yH id off s bb cs v ho hd hl hx hy hf hs hb hc hsim;exact⟨w',h1,_,_,hK,h2⟩
def D.upd(e:D)(off:Nat)(v:D):D:=
  match e with
  |.agg cs=>.agg (spl cs off v.cells)
  |_=>v
theorem spl_one{α:Type}(x y:α):spl [x] 0 [y]=[y]:=by simp[spl]
theorem D.cells_one{e:D}(h:e.one=true):e.cells=[e]:=by cases e<;>first|rfl|cases h
theorem D.cells_upd{e v:D}{off:Nat}(h:e.one=true->v.one=true)(hfit:off+v.cells.length<=e.cells.length):(e.upd off v).cells=spl e.cells off v.cells:=by
  have main:e.one=true->e.upd off v=v->(e.upd off v).cells=spl e.cells off v.cells:=by
    intro he hu;have hv:=h he;rw[hu,D.cells_one he,D.cells_one hv];rw[D.cells_one he,D.cells_one hv]at hfit;have:off=0:=by simpa using hfit
    subst this;exact(spl_one _ _).symm
  cases e with
  |agg cs=>rfl
  |_=>exact main rfl rfl
theorem Dj{α:Type}{es:List α}{idx k:Nat}{x y:α}(h:(es.set idx x)[k]?=some y):(k=idx/\y=x)\/(k≠idx/\es[k]?=some y):=by
  rw[cG]at h;by_cases e:idx=k;rw[if_pos e]at h;split at h;cases h;exact .inl ⟨e.symm,rfl⟩;cases h;rw[if_neg e]at h;exact .inr ⟨λe'=>e e'.symm,h⟩
theorem wM{o:Oper}{t ty:TypeId}{x y:Operand}(id sz idx off s:Nat)(bb:Bool)(es:List D)(e v:D)(ho:o.op=.store t x y)(hd:o.dst=none)(hl:lay C.P t=some (bb,s))(hx:st.fr.ev x=.mptr id sz idx off)
    (hy:st.fr.ev y=.d v) (hs:v.cells.length=s) (hb:st.hp[id]?=some (.flat ty sz es)) (hidx:es[idx]?=some e) (hone:e.one=false\/v.one=true) (hc:off+s<=e.cells.length) (hsim:Sim C st g a w):∃w',(execOp a.eval o).run C.P w=.ok .skip w'/\Sim C ⟨st.fr,st.hp.set id (.flat ty sz (es.set idx (e.upd off v)))⟩ g (a.put o.dst undef) w':=by
    have h:=hsim.ev x;rw[hx]at h;obtain⟨b,hp,he⟩:=lZ h;have hv:=hsim.ev y;rw[hy]at hv;obtain⟨hpw,h1⟩:=hv.pw rfl;rcases hsim.hp id _ hb with⟨h0,_⟩|⟨b',cells,hp',hw,hpsi,hlen,h0,hones,hr⟩
    subst h0;simp at hidx;cases hp.symm.trans hp';have hvs:(a.eval y).cells.size=s:=by have:=hpw.1;simp only[mQ,AV.cells,lQ]at this;omega
    have hesz:=h0 idx e hidx;have hilt:=(zal44q.1 hidx).1;have hmul:(idx+1)*sz<=es.length*sz:=iW _ hilt;rw[oR,Nat.one_mul]at hmul;refine⟨_,xJ ho he (uF hl w b (idx*sz+off) ty cells _ hw hvs h1 (by omega)),?_⟩;rw[hd];have hX:∀b',g.X b'->b'≠b:=λb' hX e=>(hsim.lt id b hp).2.2 (e ▸ hX);have hdm:∀{d:D}{u:Value},DRep w g.X d u->DRep (w.setRow b (spl cells.toList (idx*sz+off) (a.eval y).cells.toList).toArray) g.X d u:=λhd=>hd.mono (λ_ h=>h) λb' hb'=>setRow_other w b b' _ (hX b' hb');have hcu:(e.upd off v).cells=spl e.cells off v.cells:=D.cells_upd (λhe=>hone.resolve_left (by simp[he])) (by omega);have hvd:DRep w g.X v (a.eval y):=by cases hv with|d _ _ h=>exact h
    obtain⟨hvc1,hvc2,hvc3⟩:=hvd.cells;have hul:(e.upd off v).cells.length=sz:=by rw[hcu];simp[spl];omega
    refine hsim.change hb (λe=>by cases e) hp (qN _ _ _) rfl rfl rfl (cT _) (λb' hb'=>setRow_other w b b' _ hb') (.inr ⟨b,_,hp,setRow_heap w b cells _ ty (0,0) hw,?_,?_,?_,?_,?_⟩);simp only[hpsi,pQ,spl,kI,gB,qZ,mQ];omega;simp only[zal60q,pQ,spl,kI,gB,qZ,mQ];omega;intro k e' hk;rcases Dj hk with⟨_,rfl⟩|⟨_,hk⟩
    exact hul;exact h0 k e' hk;intro k e' j c hk hj;rcases Dj hk with⟨_,rfl⟩|⟨_,hk⟩
    rw[hcu]at hj;have hm:=dR hj;simp only[spl,qX]at hm;rcases hm with hm|hm|hm
    obtain⟨j',hj'⟩:=iL (xj hm);exact hones idx e j' c hidx hj';exact hvc2 c hm;obtain⟨j',hj'⟩:=iL (C4 hm);exact hones idx e j' c hidx hj';exact hones k e' j c hk hj;intro k e' j c hk hj
    have hjlt:j<sz:=by
      have hl':e'.cells.length=sz:=by
        rcases Dj hk with⟨_,rfl⟩|⟨_,hk⟩
        exact hul;exact h0 k e' hk
      rw[<- hl'];exact(zal44q.1 hj).1
    have hget:∀m,(spl cells.toList (idx*sz+off) (a.eval y).cells.toList).toArray[m]?=if m<idx*sz+off then cells[m]? else if m<idx*sz+off+s then(a.eval y).cells[m-(idx*sz+off)]? else cells[m]?:=by
      intro m;simp only[xm,spl,eW,gB,mQ,kJ,lG,Cc,hvs];have hmin:min (idx*sz+off) cells.size=idx*sz+off:=by omega
      rw[hmin];by_cases m1:m<idx*sz+off;simp[m1];rw[if_neg m1,if_neg m1];by_cases m2:m<idx*sz+off+s;rw[if_pos (by omega),if_pos m2];rw [if_neg (by omega), if_neg m2]
      congr 1
      omega
    rw[hget];by_cases hki:k=idx;subst hki;rw[cG,if_pos rfl,if_pos hilt]at hk;cases hk;rw[hcu]at hj;simp only[spl,eW,gB,kJ,lG]at hj;have hmin:min off e.cells.length=off:=by omega
    rw[hmin]at hj;by_cases j1:j<off;rw [if_pos (by omega)];rw[if_pos j1,if_pos j1]at hj;obtain⟨u,hu,hd⟩:=hr k e j c hidx hj;exact⟨u,hu,hdm hd⟩;rw [if_neg (by omega)];rw[if_neg j1]at hj;by_cases j2:j<off+s;rw [if_pos (by omega)];rw[if_pos (by omega)]at hj;obtain⟨u,hu,hd⟩:=hvc3 _ c hj;exact⟨u,by rw[show k*sz+j-(k*sz+off)=j-off by omega];exact hu,hdm hd⟩;rw [if_neg (by omega)];rw[if_neg (by omega)]at hj;obtain⟨u,hu,hd⟩:=hr k e j c hidx (by rw[<- hj];congr 1;omega);exact⟨u,hu,hdm hd⟩;rw [cG, if_neg (fun e => hki e.symm)] at hk;obtain⟨u,hu,hd⟩:=hr k e' j c hk hj;refine⟨u,?_,hdm hd⟩
    have hne:k*sz+j<idx*sz+off\/idx*sz+off+s<=k*sz+j:=by
      rcases dB k idx with hlt|hge
      have:=iW sz hlt;rw[rK]at this;omega;have hlt : idx < k := by omega
      have:=iW sz hlt;rw[rK]at this;omega
    rcases hne with h'|h'
    rw[if_pos h'];exact hu;rw[if_neg (by omega),if_neg (by omega)];exact hu
theorem Bx{o:Oper}{K:St->Prop}{t ty:TypeId}{x y:Operand}(id sz idx off s:Nat)(bb:Bool)(es:List D)(e v:D)(ho:o.op=.store t x y)(hd:o.dst=none)(hl:lay C.P t=some (bb,s))(hx:st.fr.ev x=.mptr id sz idx off)
    (hy:st.fr.ev y=.d v) (hs:v.cells.length=s) (hb:st.hp[id]?=some (.flat ty sz es)) (hidx:es[idx]?=some e) (hone:e.one=false\/v.one=true) (hc:off+s<=e.cells.length) (hK:K ⟨st.fr,st.hp.set id (.flat ty sz (es.set idx (e.upd off v)))⟩):OpOk C o st K:=
  OpOk.skip λ_ _ _ hsim=>by
    obtain⟨w',h1,h2⟩:=wM id sz idx off s bb es e v ho hd hl hx hy hs hb hidx hone hc hsim;exact⟨w',h1,_,_,hK,h2⟩
theorem newBox{cs:List AV}{vs:Array Value}(t:TypeId)(hsim:Sim C st g a w)(hpw:Pw (ARep w g) cs vs.toList):
    Sim C ⟨st.fr,st.hp++[.box t cs]⟩ (g.new st.hp.length w.heap.size vs.size) a (w.alloc (.cells vs t))/\ARep (w.alloc (.cells vs t)) (g.new st.hp.length w.heap.size vs.size) (.mptr st.hp.length 0 0 0) (.pointer (some ⟨w.heap.size,0,none⟩)):=by
  have hgr:=hsim.grow_new (.cells vs t) vs.size;refine⟨hsim.alloc ⟨w.heap.size,vs,by simp[Gh.new,upd],heap_alloc_new w _,by simp[Gh.new,upd],by simpa using hpw.1,λj c v hc hv=>(hpw.2 j c v hc (by simpa using hv)).mono hgr⟩,?_⟩;exact .mptr _ 0 0 0 w.heap.size (by simp[Gh.new,upd])
theorem ok_alloc{o:Oper}{K:St->Prop}{t:TypeId}(z:Value)(ho:o.op=.alloc t)(hd:kZ C.n o.dst=true)(hz:(C.P.info? t).bind (·.zero)=some z)(hf:(dV z).flat=true)
    (hK:K (St.put ⟨st.fr,st.hp++[.box t (dV z).cells]⟩ o.dst (.mptr st.hp.length 0 0 0))):OpOk C o st K:=
  OpOk.change λg a w hs=>by
    cases hi:C.P.info? t with
    |none=>simp[hi]at hz
    |some i=>
      simp[hi]at hz;obtain⟨h1,h2⟩:=newBox t hs ((jF w g z).pw hf).1;exact⟨_,_,by simp[execOp,ho,Instr.alloc,zeroValue,typeInfo,hi,hz,newVar,newRow],_,_,hK,h1.put' hd h2⟩
theorem ok_box{o:Oper}{K:St->Prop}{t:TypeId}{x:Operand}(v:AV)(ho:o.op=.box t x)(hd:kZ C.n o.dst=true)(hx:st.fr.ev x=v)(hf:v.flat=true)
    (hK:K (St.put ⟨st.fr,st.hp++[.box t v.cells]⟩ o.dst (.mptr st.hp.length 0 0 0))):OpOk C o st K:=
  OpOk.change λg a w hs=>by
    have hv:=hs.ev x;rw[hx]at hv;obtain⟨h1,h2⟩:=newBox t hs (hv.pw hf).1;exact⟨_,_,by simp[execOp,ho,Instr.box,newVar,newRow],_,_,hK,h1.put' hd h2⟩
def fld(P:Program)(s:TypeId)(f:Nat):Option Nat:=
  match P.underlying s with
  |some (.struct fs)=>match fs[f]? with
    |some fl=>match P.info? fl.type with
      |some i=>if i.size=0 then none else some fl.offset
      |none=>none
    |none=>none
  |_=>none
theorem Fi{s:TypeId}{f off:Nat}(h:fld P s f=some off)(w:World)(ad:Addr):(Instr.fieldAt s (.pointer (some ad)) f).run P w=.ok (.pointer (some (ad.add off))) w:=by
  unfold fld at h;split at h;rename_i fs hu;split at h;rename_i fl hf;split at h;rename_i i hi;split at h;cases h;rename_i h0;cases h;simp[Instr.fieldAt,run_underlying hu,hf,Instr.sureAddr,fieldPlace,sizeOf,typeInfo,hi,h0];cases h;cases h;cases h
theorem sH{o:Oper}{s:TypeId}{x:Operand}{f off:Nat}(ho:o.op=.fieldAddr s x f)(hl:fld P s f=some off){ad:Addr}(he:a.eval x=.pointer (some ad)):
    (execOp a.eval o).run P w=.ok (.value (.pointer (some (ad.add off)))) w:=by
  simp only[execOp,ho,he,Sem.run_bind,Fi hl,Result.andThen_ok,Sem.run_pure]
theorem kg{o:Oper}{ev:Operand->AV}{hp:List Blk}{s:TypeId}{x:Operand}{f:Nat}(e:D)(off fo:Nat)(ho:o.op=.fieldAddr s x f)(hl:fld C.P s f=some fo)(hx:ev x=.d (.ptr e off)):RdOk C o ev hp (.d (.ptr e (off+fo))):=
  RdOk.mk λst hhp hag g a w hs=>by
    have h:=hs.ev x;rw[hag x (by simp[ho,Op.operands]),hx]at h;generalize he:a.eval x=vx at *
    cases h with
    |d _ _ h=>
      cases h with
      |ptr _ _ ad val hX h1 hv hr=>
        refine⟨_,sH ho hl he,.d _ _ (.ptr e (off+fo) (ad.add fo) (λj=>val (fo+j)) (by rw[sB];exact hX) h1 (λj c hc=>?_) λj c hc=>?_)⟩;rw[yM];exact hv (fo+j) c (by rw[<- Nat.add_assoc];exact hc);exact hr (fo+j) c (by rw[<- Nat.add_assoc];exact hc)
theorem eh{o:Oper}{ev:Operand->AV}{hp:List Blk}{s:TypeId}{x:Operand}{f:Nat}(id sz idx off fo:Nat)(ho:o.op=.fieldAddr s x f)(hl:fld C.P s f=some fo)(hx:ev x=.mptr id sz idx off):RdOk C o ev hp (.mptr id sz idx (off+fo)):=
  RdOk.mk λst hhp hag g a w hs=>by
    have h:=hs.ev x;rw[hag x (by simp[ho,Op.operands]),hx]at h;obtain⟨b,hp,he⟩:=lZ h;refine⟨_,sH ho hl he,?_⟩;rw[qF,tK];exact .mptr id sz idx (off+fo) b hp
def sel(P:Program)(t:TypeId):Option (TypeId×Nat×Nat):=
  match P.underlying t with
  |some (.slice e)=>match P.info? e with
    |some i=>some (e,i.size,i.bytes)
    |none=>none
  |_=>none
theorem lM{t e:TypeId}{s by':Nat}(h:sel P t=some (e,s,by')):∃i,P.underlying t=some (.slice e)/\P.info? e=some i/\i.size=s/\i.bytes=by':=by
  unfold sel at h;split at h;rename_i e' hu;split at h;rename_i i hi;cases h;exact⟨i,hu,hi,rfl,rfl⟩;cases h;cases h
theorem yk{t e:TypeId}{s by':Nat}(h:sel P t=some (e,s,by'))(w:World)(ad:Addr)(len cap:Nat)(k:IntKind)(i:Int)(h0:0<=i)(h1:i<len):
    (Instr.indexAt t (.slice (some ad) len cap) (.int k i)).run P w=.ok (.pointer (some (ad.add (i.toNat*s)))) w:=by
  obtain⟨inf,hu,hi,hs,_⟩:=lM h;simp[Instr.indexAt,run_underlying hu,asIntOf,h0,h1,sizeOf,typeInfo,hi,hs]
theorem sG{o:Oper}{t e:TypeId}{s by':Nat}{x y:Operand}(ho:o.op=.indexAddr t x y)(hl:sel P t=some (e,s,by')){ad:Addr}{len cap:Nat}{k:IntKind}{i:Int}(he:a.eval x=.slice (some ad) len cap)
    (hi:a.eval y=.int k i) (h0:0<=i) (h1:i<len):(execOp a.eval o).run P w=.ok (.value (.pointer (some (ad.add (i.toNat*s))))) w:=by
  simp only[execOp,ho,he,hi,Sem.run_bind,yk hl w ad len cap k i h0 h1,Result.andThen_ok,Sem.run_pure]
theorem int_inv{k:IntKind}{n:Int}{v:Value}(h:ARep w g (.d (.int k n)) v):v=.int k n:=by
  cases h with
  |d _ _ h=>cases h;rfl
theorem bool_inv{b:Bool}{v:Value}(h:ARep w g (.d (.bool b)) v):v=.bool b:=by
  cases h with
  |d _ _ h=>cases h;rfl
theorem str_inv{s:ByteArray}{v:Value}(h:ARep w g (.d (.str s)) v):v=.string s:=by
  cases h with
  |d _ _ h=>cases h;rfl
theorem vv{o:Oper}{ev:Operand->AV}{hp:List Blk}{t e:TypeId}{x y:Operand}(sz by':Nat)(es:List D)(k:IntKind)(i:Int)(d:D)(ho:o.op=.indexAddr t x y)(hl:sel C.P t=some (e,sz,by'))(hx:ev x=.d (.sl sz es))
    (hy:ev y=.d (.int k i)) (h0:0<=i) (he:es[i.toNat]?=some d):RdOk C o ev hp (.d (.ptr d 0)):=
  RdOk.mk λst hhp hag g a w hs=>by
    have h:=hs.ev x;rw[hag x (by simp[ho,Op.operands]),hx]at h;have hi:=hs.ev y;rw[hag y (by simp[ho,Op.operands]),hy]at hi;generalize hev:a.eval x=vx at *;have hlt:=(zal44q.1 he).1
    cases h with
    |d _ _ h=>
      cases h with
      |sl0=>simp at he
      |sl _ _ ad cap val hX hc hs' h1 hv hr=>
        refine⟨_,sG ho hl hev (int_inv hi) h0 (by omega),.d _ _ (.ptr d 0 _ (val i.toNat) (by rw[sB];exact hX) (λc hc'=>?_) (λj c hj=>?_) λj c hj=>hr i.toNat d j c he (by simpa using hj))⟩;obtain⟨j,hj⟩:=iL hc';exact h1 i.toNat d j c he hj;rw[yM];exact hv i.toNat d j c he (by simpa using hj)
theorem ke{o:Oper}{ev:Operand->AV}{hp:List Blk}{t e:TypeId}{x y:Operand}(id sz by' off len:Nat)(k:IntKind)(i:Int)(ho:o.op=.indexAddr t x y)(hl:sel C.P t=some (e,sz,by'))(hx:ev x=.msl id sz off len)
    (hy:ev y=.d (.int k i)) (h0:0<=i) (h1:i<len):RdOk C o ev hp (.mptr id sz (off+i.toNat) 0):=
  RdOk.mk λst hhp hag g a w hs=>by
    have h:=hs.ev x;rw[hag x (by simp[ho,Op.operands]),hx]at h;have hi:=hs.ev y;rw[hag y (by simp[ho,Op.operands]),hy]at hi;generalize hev:a.eval x=vx at *
    cases h with
    |msl0=>omega
    |msl _ _ _ _ cap b hb hc hp=>
      refine⟨_,sG ho hl hev (int_inv hi) h0 h1,?_⟩;rw[qF,<- Nat.add_mul];exact .mptr id sz (off+i.toNat) 0 b hb
def AV.isAgg:AV->Bool
  |.agg _|.d (.agg _)=>true
  |_=>false
theorem Fs{o:Oper}{ev:Operand->AV}{hp:List Blk}{s:TypeId}{x:Operand}{f:Nat}(fo fs:Nat)(bb:Bool)(ft:TypeId)(u v:AV)(flds:Array Field)(fl:Field)(ho:o.op=.field s x f)
    (hu:C.P.underlying s=some (.struct flds)) (hfl:flds[f]?=some fl) (hft:fl.type=ft) (hfo:fl.offset=fo) (hl:lay C.P ft=some (bb,fs)) (hx:ev x=u)
    (hagg:u.isAgg=true) (hv:if bb=true then fo+fs<=u.cells.length/\v=wK ((u.cells.drop fo).take fs)else u.cells[fo]?=some v):RdOk C o ev hp v:=
  RdOk.mk λst hhp hag g a w hs=>by
    have h:=hs.ev x;rw[hag x (by simp[ho,Op.operands]),hx]at h;generalize hev:a.eval x=vx at *
    have hagg:∃vs:Array Value,vx=.agg vs/\Pw (ARep w g) u.cells vs.toList:=by
      cases h with
      |agg cs vs hl h=>exact⟨vs,rfl,by simpa[AV.cells]using hl,λi c v hc hv=>h i c v (by simpa[AV.cells]using hc) (by simpa using hv)⟩
      |d d v h=>
        cases h with
        |agg cs vs hl h1 h=>
          refine⟨vs,rfl,by simpa[AV.cells,D.cells]using hl,λi c v hc hv=>?_⟩;simp only[AV.cells,D.cells,cM,bZ]at hc;obtain⟨c',hc',rfl⟩:=hc;exact .d _ _ (h i c' v hc' (by simpa using hv))
        |_=>cases hagg
      |_=>cases hagg
    obtain⟨vs,rfl,hpw⟩:=hagg;obtain⟨h1,h2⟩:=vM hl w;subst hft hfo
    cases bb with
    |true=>
      simp only[if_true]at hv;obtain⟨hle,rfl⟩:=hv;have hlen:=hpw.1;simp only[mQ]at hlen;refine⟨.agg (vs.extract fl.offset (fl.offset+fs)),?_,?_⟩;simp only[execOp,ho,hev];simp[Instr.field,run_underlying hu,hfl,asAgg,part,h1,h2];have hp2:=(hpw.drop fl.offset).take fs;refine zD ?_ λi c v hc hv=>hp2.2 i c v hc ?_;simp;omega;simp only[Array.getElem?_extract]at hv;split at hv;rename_i hlt;rw[kJ,lG,if_pos (by omega)];simpa using hv;cases hv
    |false=>
      simp only[gu,if_false]at hv;have hlt:fl.offset<vs.size:=by have:=hpw.1;simp only[mQ]at this;rw[<- this];exact(zal44q.1 hv).1
      refine⟨vs[fl.offset],?_,hpw.2 _ _ _ hv (by simp[hlt])⟩;simp only[execOp,ho,hev];simp[Instr.field,run_underlying hu,hfl,asAgg,part,h1,hlt]
def Em(op:BinOp)(x y:Int):Option Bool:=
  match op with
  |.eql=>some (decide (x=y))
  |.neq=>some (!decide (x=y))
  |.lss=>some (decide (x<y))
  |.leq=>some (decide (x<=y))
  |.gtr=>some (decide (y<x))
  |.geq=>some (decide (y<=x))
  |_=>none
theorem rd_cmp{o:Oper}{ev:Operand->AV}{hp:List Blk}{op:BinOp}{t t':TypeId}{x y:Operand}(k:IntKind)(m n:Int)(b:Bool)(ho:o.op=.binOp op t x y t')(hx:ev x=.d (.int k m))(hy:ev y=.d (.int k n))
    (hb:Em op m n=some b):RdOk C o ev hp (.d (.bool b)):=
  RdOk.mk λst hhp hag g a w hs=>by
    have h:=hs.ev x;rw[hag x (by simp[ho,Op.operands]),hx]at h;have hi:=hs.ev y;rw[hag y (by simp[ho,Op.operands]),hy]at hi;refine⟨.bool b,?_,.d _ _ (.bool b)⟩;simp only[execOp,ho,int_inv h,int_inv hi];cases op<;>simp only[Em]at hb<;>cases hb<;>simp[eqGuard,binOp,Op.intCmp,bne]<;>rfl
def arInt(op:BinOp)(k:IntKind)(x y:Int):Option Int:=
  match op with
  |.add=>some (k.wrap (x+y))
  |.sub=>some (k.wrap (x-y))
  |.mul=>some (k.wrap (x*y))
  |_=>none
theorem rd_arith{o:Oper}{ev:Operand->AV}{hp:List Blk}{op:BinOp}{t t':TypeId}{x y:Operand}(k:IntKind)(m n r:Int)(ho:o.op=.binOp op t x y t')(hx:ev x=.d (.int k m))(hy:ev y=.d (.int k n))
    (hr:arInt op k m n=some r):RdOk C o ev hp (.d (.int k r)):=
  RdOk.mk λst hhp hag g a w hs=>by
    have h:=hs.ev x;rw[hag x (by simp[ho,Op.operands]),hx]at h;have hi:=hs.ev y;rw[hag y (by simp[ho,Op.operands]),hy]at hi;refine⟨.int k r,?_,.d _ _ (.int k r)⟩;simp only[execOp,ho,int_inv h,int_inv hi];cases op<;>simp[arInt]at hr<;>subst hr<;>simp[eqGuard,binOp,Op.intArith]
theorem rd_not{o:Oper}{ev:Operand->AV}{hp:List Blk}{t:TypeId}{x:Operand}(b:Bool)(ho:o.op=.unOp .not t x)(hx:ev x=.d (.bool b)):RdOk C o ev hp (.d (.bool (!b))):=
  RdOk.mk λst hhp hag g a w hs=>by
    have h:=hs.ev x;rw[hag x (by simp[ho,Op.operands]),hx]at h;exact⟨.bool (!b),by simp only[execOp,ho,bool_inv h];simp[Op.unary],.d _ _ (.bool _)⟩
theorem H2{o:Oper}{ev:Operand->AV}{hp:List Blk}{s t:TypeId}{x:Operand}(k k':IntKind)(n:Int)(us:TypeDesc)(ho:o.op=.convert s t x)(hs:C.P.underlying s=some us)(ht:C.P.underlying t=some (.int k'))(hx:ev x=.d (.int k n)):RdOk C o ev hp (.d (.int k' (k'.wrap n))):=
  RdOk.mk λst hhp hag g a w hsim=>by
    have h:=hsim.ev x;rw[hag x (by simp[ho,Op.operands]),hx]at h;exact⟨_,by simp only[execOp,ho,int_inv h];simp[convert,run_underlying hs,run_underlying ht,Conv.intToInt],.d _ _ (.int _ _)⟩
def AV.notNil:AV->Bool
  |.mptr ..|.fnc ..|.ifc ..=>true
  |.d (.ptr ..)|.d (.fn _)|.d (.iface ..)=>true
  |_=>false
theorem Fl{o:Oper}{ev:Operand->AV}{hp:List Blk}{x:Operand}(u:AV)(ho:o.op=.nilCheck x)(hx:ev x=u)(hn:u.notNil=true):RdOk C o ev hp u:=
  RdOk.mk λst hhp hag g a w hs=>by
    have h:=hs.ev x;rw[hag x (by simp[ho,Op.operands]),hx]at h;refine⟨a.eval x,?_,h⟩;simp only[execOp,ho];generalize a.eval x=vx at *
    cases h with
    |d d' v' h'=>cases h'<;>first|rfl|cases hn
    |mptr=>rfl
    |fnc=>rfl
    |ifc=>rfl
    |_=>cases hn
theorem H1{o:Oper}{ev:Operand->AV}{hp:List Blk}{x:Operand}{i:Nat}(vs:List AV)(v:AV)(ho:o.op=.extract x i)(hx:ev x=.tup vs)(hv:vs[i]?=some v):RdOk C o ev hp v:=
  RdOk.mk λst hhp hag g a w hs=>by
    have h:=hs.ev x;rw[hag x (by simp[ho,Op.operands]),hx]at h;generalize he:a.eval x=vx at *
    cases h with
    |tup _ us hl h=>
      have hi:i<us.size:=by rw[<- hl];exact(zal44q.1 hv).1
      exact⟨us[i],by simp only[execOp,ho,he];simp[Instr.extract,hi],h i v _ hv (by simp[hi])⟩
def AV.slLen:AV->Option Nat
  |.d (.sl _ es)=>some es.length
  |.d .nilsl=>some 0
  |.msl _ _ _ l=>some l
  |_=>none
theorem kd{o:Oper}{ev:Operand->AV}{hp:List Blk}{t e:TypeId}{x:Operand}(u:AV)(s by' n:Nat)(ho:o.op=.call { callee:=.builtin .len,args:=#[x],argTypes:=#[t] })(hl:sel C.P t=some (e,s,by'))(hx:ev x=u)
    (hn:u.slLen=some n):RdOk C o ev hp (.d (.int .i64 n)):=
  RdOk.mk λst hhp hag g a w hs=>by
    have h:=hs.ev x;rw[hag x (by simp[ho,Op.operands,Call.operands]),hx]at h;obtain⟨inf,hu,hi,_,_⟩:=lM hl
    have hv:∃ad cap,a.eval x=.slice ad n cap:=by
      generalize a.eval x=vx at *
      cases h with
      |d d v h=>cases h<;>cases hn<;>exact⟨_,_,rfl⟩
      |msl0=>cases hn;exact⟨_,_,rfl⟩
      |msl=>cases hn;exact⟨_,_,rfl⟩
      |_=>cases hn
    obtain⟨ad,cap,he⟩:=hv;refine⟨goInt n,?_,.d _ _ (.int _ _)⟩;simp only[execOp,ho];simp[resolve,invoke,builtin,Builtin.len_,run_underlying hu,he]
theorem Hz{o:Oper}{ev:Operand->AV}{hp:List Blk}{t:TypeId}{x:Operand}(s:ByteArray)(ho:o.op=.call { callee:=.builtin .len,args:=#[x],argTypes:=#[t] })(hl:C.P.underlying t=some .string)(hx:ev x=.d (.str s)):RdOk C o ev hp (.d (.int .i64 s.size)):=
  RdOk.mk λst hhp hag g a w hs=>by
    have h:=hs.ev x;rw[hag x (by simp[ho,Op.operands,Call.operands]),hx]at h;refine⟨goInt s.size,?_,.d _ _ (.int _ _)⟩;simp only[execOp,ho];simp[resolve,invoke,builtin,Builtin.len_,run_underlying hl,str_inv h]
variable {C:Ctx}{st:St}{g:Gh}{a:Act}{w:World}{P:Program}
def SrcA(hp:List Blk)(sz:Nat)(ds:List D):AV->Prop
  |.d (.sl s es)=>s=sz/\es=ds
  |.d .nilsl=>ds=[]
  |.msl id s off len=>s=sz/\∃ty es,hp[id]?=some (.flat ty sz es)/\off+len<=es.length/\ds=(es.drop off).take len
  |_=>False
def Src(w:World)(X:Nat->Prop)(sz:Nat)(ds:List D)(v:Value):Prop:=
  (∃a cap,v=.slice a 0 cap/\ds=[])\/
  ∃(ad:Addr)(cap:Nat)(news:List Value),v=.slice (some ad) ds.length cap/\news.length=ds.length*sz/\(∀(j:Nat)(u:Value),news[j]?=some u->w.cell? (ad.add j)=some u)/\(∀u∈news,u.oneCell'=true)/\
    (∀(i:Nat)(e:D),ds[i]?=some e->e.cells.length=sz)/\(∀(i:Nat)(e:D)(j:Nat)(c:D),ds[i]?=some e->e.cells[j]?=some c->c.one=true)/\
    ∀(i:Nat)(e:D)(j:Nat)(c:D),ds[i]?=some e->e.cells[j]?=some c->∃v,news[i*sz+j]?=some v/\DRep w X c v
theorem ww{sz:Nat}{ds:List D}{X:Nat->Prop}(f:Nat->Option Value)(hs:∀(i:Nat)(e:D),ds[i]?=some e->e.cells.length=sz)
    (h1:∀(i:Nat)(e:D)(j:Nat)(c:D),ds[i]?=some e->e.cells[j]?=some c->c.one=true)
    (h:∀(i:Nat)(e:D)(j:Nat)(c:D),ds[i]?=some e->e.cells[j]?=some c->∃v,f (i*sz+j)=some v/\DRep w X c v):
    ∃news:List Value,news.length=ds.length*sz/\(∀(j:Nat)(u:Value),news[j]?=some u->f j=some u)/\(∀u∈news,u.oneCell'=true)/\
      ∀(i:Nat)(e:D)(j:Nat)(c:D),ds[i]?=some e->e.cells[j]?=some c->∃v,news[i*sz+j]?=some v/\DRep w X c v:=by
  have key:∀m,m<ds.length*sz->∃i e j c,ds[i]?=some e/\e.cells[j]?=some c/\m=i*sz+j:=by
    intro m hm
    have hsz : 0 < sz := by rcases cy sz with h0 | h0; · subst h0; simp at hm
                            · exact h0
    have hi:m/sz<ds.length:=by rw[Nat.div_lt_iff_lt_mul hsz];exact hm
    have hj:m%sz<sz:=Nat.mod_lt _ hsz;refine⟨m/sz,ds[m/sz],m%sz,_,eE hi,eE (by rw[hs _ _ (eE hi)];exact hj),?_⟩;have:=Nat.div_add_mod m sz;rw[yV]at this;exact this.symm
  refine⟨(List.range (ds.length*sz)).map λm=>(f m).getD undef,by simp,?_,?_,?_⟩;intro m u hu;simp only[cM,bZ]at hu;obtain⟨k,hk,rfl⟩:=hu;have hlt:m<ds.length*sz:=by simpa using(zal44q.1 hk).1
  have:k=m:=by simpa using((zal44q.1 hk).2).symm
  subst this;obtain⟨i,e,j,c,he,hc,rfl⟩:=key k hlt;obtain⟨v,hv,_⟩:=h i e j c he hc;simp[hv];intro u hu;simp only[zal76q,zal81q]at hu;obtain⟨m,hm,rfl⟩:=hu;obtain⟨i,e,j,c,he,hc,rfl⟩:=key m hm;obtain⟨v,hv,hd⟩:=h i e j c he hc;rw[hv];exact(hd.oneCell (h1 i e j c he hc)).1;intro i e j c he hc;obtain⟨v,hv,hd⟩:=h i e j c he hc;refine⟨v,?_,hd⟩;have hi:=(zal44q.1 he).1;have hj:=(zal44q.1 hc).1;rw[hs i e he]at hj;have hm:=iW sz hi;rw[rK]at hm;rw[cM,List.getElem?_range (by omega)];simp[hv]
theorem Dh(hs:Sim C st g a w){x:AV}{v:Value}(h:ARep w g x v){sz:Nat}{ds:List D}(hx:SrcA st.hp sz ds x):Src w g.X sz ds v:=by
  cases h with
  |d d v h=>
    cases h with
    |nilsl ad=>exact Or.inl ⟨ad,0,rfl,hx⟩
    |sl0 s ad cap=>exact Or.inl ⟨ad,cap,rfl,hx.2.symm⟩
    |sl s es ad cap val hX hc h0 h1 hv hr=>
      obtain⟨rfl,rfl⟩:=hx;obtain⟨news,n1,n2,n3,n4⟩:=ww (w:=w) (X:=g.X) (λm=>w.cell? (ad.add m)) h0 h1 λi e j c he hc=>⟨_,hv i e j c he hc,hr i e j c he hc⟩;exact Or.inr ⟨ad,cap,news,rfl,n1,n2,n3,h0,h1,n4⟩
    |_=>cases hx
  |msl0 id s off ad=>
    obtain⟨rfl,ty,es,hb,hle,rfl⟩:=hx;exact Or.inl ⟨ad,0,rfl,by simp⟩
  |msl id s off len cap b hb hc hp=>
    obtain⟨rfl,ty,es,hblk,hle,rfl⟩:=hx;have hlen:((es.drop off).take len).length=len:=by simp;omega
    rcases hs.hp id _ hblk with⟨he,hn⟩|⟨b',cells,hp',hw,hpsi,hl,h0,h1,hr⟩
    rw[hb]at hn;cases hn;cases hb.symm.trans hp'
    have hds:∀(i:Nat)(e:D),((es.drop off).take len)[i]?=some e->es[off+i]?=some e:=by
      intro i e he;rw[kJ]at he;split at he
      rwa [lG]at he
      cases he
    obtain⟨news,n1,n2,n3,n4⟩:=ww (w:=w) (X:=g.X) (ds:=(es.drop off).take len) (sz:=s) (λm=>cells[off*s+m]?) (λi e he=>h0 _ e (hds i e he)) (λi e j c he hc=>h1 _ e j c (hds i e he) hc) λi e j c he hc=>by
      obtain⟨u,hu,hd⟩:=hr _ e j c (hds i e he) hc;exact⟨u,by rw[<- hu,oR];congr 1;omega,hd⟩
    refine Or.inr ⟨⟨b,off*s,none⟩,cap,news,by rw[hlen],n1,λj u hu=>?_,n3,λi e he=>h0 _ e (hds i e he),λi e j c he hc=>h1 _ e j c (hds i e he) hc,n4⟩;rw[qF,cell_of_row w b _ cells ty (0,0) hw];exact n2 j u hu
  |_=>cases hx
theorem nB{t:TypeId}{z:Value}(hz:(P.info? t).bind (·.zero)=some z):∃i,P.info? t=some i/\i.zero=some z:=by
  cases hi:P.info? t with
  |none=>simp[hi]at hz
  |some i=>exact⟨i,rfl,by simpa[hi]using hz⟩
theorem B4(z:Array Value)(n sz i j:Nat)(hs:z.size=sz)(hi:i<n)(hj:j<sz):(madeCells z (n*sz))[i*sz+j]?=z[j]?:=by
  have hlt:i*sz+j<n*sz:=by
    have:=iW sz hi;rw[rK]at this;omega
  have hmod:(i*sz+j)%sz=j:=by rw[yV,Nat.mul_add_mod];exact Nat.mod_eq_of_lt hj
  subst hs;simp only[madeCells,Array.getElem?_map,Array.getElem?_range,hlt];simp[hmod,hj]
theorem eq{ty:TypeId}{sz:Nat}{es:List D}{vs:Array Value}(hsim:Sim C st g a w)(hl:es.length*sz<=vs.size)(h0:∀(i:Nat)(e:D),es[i]?=some e->e.cells.length=sz)
    (h1:∀(i:Nat)(e:D)(j:Nat)(c:D),es[i]?=some e->e.cells[j]?=some c->c.one=true)
    (h:∀(i:Nat)(e:D)(j:Nat)(c:D),es[i]?=some e->e.cells[j]?=some c->∃v,vs[i*sz+j]?=some v/\DRep w g.X c v):
    Sim C ⟨st.fr,st.hp++[.flat ty sz es]⟩ (g.new st.hp.length w.heap.size vs.size) a (w.alloc (.cells vs ty))/\
      ∀cap,es.length<=cap->cap*sz<=vs.size->ARep (w.alloc (.cells vs ty)) (g.new st.hp.length w.heap.size vs.size) (.msl st.hp.length sz 0 es.length) (.slice (some ⟨w.heap.size,0,none⟩) es.length cap):=by
  have hgr:=hsim.grow_new (.cells vs ty) vs.size;refine⟨hsim.alloc (.inr ⟨w.heap.size,vs,by simp[Gh.new,upd],heap_alloc_new w _,by simp[Gh.new,upd],hl,h0,h1,λi e j c he hc=>?_⟩),λcap hc hcap=>?_⟩;obtain⟨v,hv,hd⟩:=h i e j c he hc;exact⟨v,hv,hd.mono hgr.X hgr.mem⟩;have := ARep.msl (w := w.alloc (.cells vs ty)) (g := g.new st.hp.length w.heap.size vs.size) st.hp.length sz 0 es.length cap w.heap.size (by simp [Gh.new, upd]) hc (by simpa [Gh.new, upd] using hcap);simpa using this
structure RowOf (w:World) (X:Nat->Prop) (sz:Nat) (es:List D) (vs:Array Value):Prop where
  le:es.length*sz<=vs.size
  h0:∀(i:Nat)(e:D),es[i]?=some e->e.cells.length=sz
  h1:∀(i:Nat)(e:D)(j:Nat)(c:D),es[i]?=some e->e.cells[j]?=some c->c.one=true
  rep:∀(i:Nat)(e:D)(j:Nat)(c:D),es[i]?=some e->e.cells[j]?=some c->∃v,vs[i*sz+j]?=some v/\DRep w X c v
theorem zk{o:Oper}{t e:TypeId}{x y:Operand}(sz by':Nat)(n:Int)(z:Value)(zd:D)(ho:o.op=.makeSlice t x y)(hl:sel C.P t=some (e,sz,by'))(hz:(C.P.info? e).bind (·.zero)=some z)(hzd:dV z=.d zd)(hzs:zd.cells.length=sz)
    (hx:st.fr.ev x=.d (.int .i64 n)) (hy:st.fr.ev y=.d (.int .i64 n)) (h0:0<=n) (hb:(by':Int)*n<=281474976710656) (hm:n<=9223372036854775807)
    (hs:Sim C st g a w):∃vs:Array Value,(execOp a.eval o).run C.P w=.ok (.value (.slice (some ⟨w.heap.size,0,none⟩) n.toNat n.toNat)) (w.alloc (.cells vs e))/\RowOf w g.X sz (List.replicate n.toNat zd) vs:=by
    obtain⟨inf,hu,hi,hsz,hby⟩:=lM hl;obtain⟨i',hi',hzero⟩:=nB hz;cases hi.symm.trans hi';have hvx:=hs.ev x;rw[hx]at hvx;have hvy:=hs.ev y;rw[hy]at hvy;have hrun:=run_make (P:=C.P) w t e inf z hu hi hzero .i64 .i64 n n h0 (jV _) (by rw[hby];exact hb) hm;have hzr:=jF w g z;rw[hzd]at hzr;have hzr':DRep w g.X zd z:=by cases hzr with|d _ _ h=>exact h
    obtain⟨z1,z2,z3⟩:=hzr'.cells;have hzsz:z.cells.size=sz:=z1.trans hzs
    refine ⟨madeCells z.cells (n.toNat * inf.size), ?_, (by simp [size_madeCells, hsz]),
      (λi e he=>by rw[xo]at he;split at he<;>cases he;exact hzs),
      (λi e j c he hc=>by rw[xo]at he;split at he<;>cases he;exact z2 c (dR hc)),
      (λi e j c he hc=>by
        rw[xo]at he;split at he;rename_i hlt;cases he;obtain⟨u,hu',hd'⟩:=z3 j c hc;exact⟨u,by rw[hsz,B4 _ _ _ _ _ hzsz hlt (by rw[<- hzs];exact(zal44q.1 hc).1)];exact hu',hd'⟩
        cases he)⟩
    simp only[execOp,ho,int_inv hvx,int_inv hvy,Sem.run_bind,hrun,Result.andThen_ok,Sem.run_pure]
theorem D5{o:Oper}{K:St->Prop}{t e:TypeId}{x y:Operand}(sz by':Nat)(n:Int)(z:Value)(zd:D)(ho:o.op=.makeSlice t x y)(hd:kZ C.n o.dst=true)(hl:sel C.P t=some (e,sz,by'))(hz:(C.P.info? e).bind (·.zero)=some z)(hzd:dV z=.d zd)(hzs:zd.cells.length=sz)
    (hx:st.fr.ev x=.d (.int .i64 n)) (hy:st.fr.ev y=.d (.int .i64 n)) (h0:0<=n) (hb:(by':Int)*n<=281474976710656) (hm:n<=9223372036854775807)
    (hK:K (St.put ⟨st.fr,st.hp++[.flat e sz (List.replicate n.toNat zd)]⟩ o.dst (.msl st.hp.length sz 0 n.toNat))):OpOk C o st K:=
  OpOk.change λg a w hs=>by
    obtain⟨vs,hr,row⟩:=zk sz by' n z zd ho hl hz hzd hzs hx hy h0 hb hm hs
    obtain⟨h1,h2⟩:=eq (ty:=e) hs row.le row.h0 row.h1 row.rep;refine⟨_,_,hr,_,_,hK,h1.put' hd ?_⟩;have:=h2 n.toNat (by simp) (by simpa using row.le);simpa using this
theorem Jp(cells vs:Array Value)(off:Nat)(hfit:off+vs.size<=cells.size):(vs.zipIdx.foldl (λcs (c,j)=>cs.setIfInBounds (off+j) c) cells).toList=spl cells.toList off vs.toList:=by
  have key:∀(l:List Value)(k:Nat)(cs:Array Value),off+k+l.length<=cs.size->
      ((l.zipIdx k).foldl (λ(cs:Array Value)(x:Value×Nat)=>cs.setIfInBounds (off+x.2) x.1) cs).toList=spl cs.toList (off+k) l:=by
    intro l
    induction l with
    |nil=>intro k cs _;simp[spl]
    |cons v r ih=>
      intro k cs h;simp only[eK]at h;simp only[List.zipIdx_cons,xD];rw[ih (k+1) _ (by simp;omega)];simp only[spl,Array.toList_setIfInBounds,eK];apply hU;intro m;simp only[eW,gB,kJ,lG,zal60q,mQ,cG,eK,List.getElem?_cons];have e1:min (off+(k+1)) cs.size=off+k+1:=by omega
      have e2:min (off+k) cs.size=off+k:=by omega
      rw[e1,e2];by_cases m1:m<off+k;simp[m1,show m<off+k+1 by omega,show m<off+(k+1) by omega,show ¬(off+k=m) by omega];by_cases m2:m=off+k
      · subst m2;simp[show off+k<cs.size by omega]
      simp only [m1, show ¬ m < off + k + 1 by omega, if_false, show ¬ (m - (off + k) = 0) by omega];by_cases m3:m-(off+k+1)<r.length;simp only [m3, if_true, show m - (off + k) < r.length + 1 by omega]
      congr 1
      simp only [m3, if_false, show ¬ (m - (off + k) < r.length + 1) by omega];rw[if_neg (by omega)]
      congr 1
      omega
  have h:=key vs.toList 0 cells (by simpa using hfit);simp only[qV]at h;rw[<- h,<- Array.foldl_toList,Array.toList_zipIdx]
theorem zg{w:World}{X:Nat->Prop}{sz:Nat}:∀(ds:List D)(vs:List Value)(k:Nat)(cells:Array Value),Pw (DRep w X) ds vs->(∀d∈ds,d.cells.length=sz)->(k+ds.length)*sz<=cells.size->
    ∃ res, Instr.fill (fun i => some (i * sz, sz)) cells ((vs.zipIdx k).map fun x => (x.2, x.1)) = some res /\ res.size = cells.size /\ (∀ m, m < k * sz -> res[m]? = cells[m]?) /\
      ∀(i:Nat)(e:D)(j:Nat)(c:D),ds[i]?=some e->e.cells[j]?=some c->∃v,res[(k+i)*sz+j]?=some v/\DRep w X c v
  |[],vs,k,cells,hp,_,_=>by
    have:vs=[]:=rA (by simpa using hp.1.symm);subst this;exact⟨cells,by simp[Instr.fill],rfl,λ_ _=>rfl,λi e j c he _=>by simp at he⟩
  |d::ds,[],k,cells,hp,_,_=>by have:=hp.1;simp at this
  |d::ds,v::vs,k,cells,hp,hs,hl=>by
    have hd:DRep w X d v:=hp.2 0 d v rfl rfl;obtain⟨d1,d2,d3⟩:=hd.cells;have hds:d.cells.length=sz:=hs d (by simp);have hvs:v.cells.size=sz:=d1.trans hds;simp only[eK]at hl;have e1:(k+(ds.length+1))*sz=k*sz+sz+ds.length*sz:=by rw[oR,oR];omega
    rw[e1]at hl;have hf:=Jp cells v.cells (k*sz) (by omega);generalize hc':v.cells.zipIdx.foldl (λcs (c,j)=>cs.setIfInBounds (k*sz+j) c) cells=cells' at hf
    have hsz':cells'.size=cells.size:=by
      have:=congrArg List.length hf;simp only[mQ,spl,kI,gB,qZ]at this;omega
    have hget:∀m,cells'[m]?=if m<k*sz then cells[m]? else if m<k*sz+sz then v.cells[m-k*sz]? else cells[m]?:=by
      intro m;rw[<- Array.getElem?_toList,hf];simp only[spl,eW,gB,mQ,kJ,lG,Cc,hvs];have hmin:min (k*sz) cells.size=k*sz:=by omega
      rw[hmin];by_cases m1:m<k*sz;simp[m1];rw[if_neg m1,if_neg m1];by_cases m2:m<k*sz+sz;rw[if_pos (by omega),if_pos m2];rw [if_neg (by omega), if_neg m2]
      congr 1
      omega
    obtain ⟨res, r1, r2, r3, r4⟩ := zg (w := w) (X := X) (sz := sz) ds vs (k + 1) cells' ⟨by have := hp.1; simpa using this, fun i x y hx hy => hp.2 (i + 1) x y (by simpa using hx) (by simpa using hy)⟩
      (λx hx=>hs x (by simp[hx])) (by rw[hsz',oR,oR,Nat.one_mul];omega)
    refine⟨res,?_,r2.trans hsz',λm hm=>?_,λi e j c he hc=>?_⟩;simp only[List.zipIdx_cons,fX,Instr.fill];rw[if_neg (by simp only[hvs,ne_eq,not_true,mX,decide_eq_true_eq,false_or,decide_false,gu];omega)];rw[hc'];exact r1;rw[r3 m (by rw[oR];omega),hget,if_pos hm]
    cases i with
    |zero=>
      simp only[List.getElem?_cons_zero,mE]at he;subst he;obtain⟨u,hu,hdu⟩:=d3 j c hc;have hj:j<sz:=by rw[<- hds];exact(zal44q.1 hc).1
      refine⟨u,?_,hdu⟩;rw[qV,r3 _ (by rw[oR];omega),hget,if_neg (by omega),if_pos (by omega),show k*sz+j-k*sz=j by omega];exact hu
    |succ i=>
      obtain⟨u,hu,hdu⟩:=r4 i e j c (by simpa using he) hc;exact⟨u,by rw[show k+(i+1)=k+1+i by omega];exact hu,hdu⟩
def oG(parts:Array (Nat×Operand))(xs:List Operand):Prop:=parts.toList=(xs.zipIdx 0).map λx=>(x.2,x.1)
theorem Jq(hs:Sim C st g a w):∀(xs:List Operand)(ds:List D),xs.map st.fr.ev=ds.map AV.d->Pw (DRep w g.X) ds (xs.map a.eval)
  |[],ds,h=>by
    have:ds=[]:=by simpa using h.symm
    subst this;exact⟨rfl,λi x y hx=>by simp at hx⟩
  |x::xs,[],h=>by simp at h
  |x::xs,d::ds,h=>by
    simp only[fX,cR]at h;have ih:=Jq hs xs ds h.2;refine⟨by simpa using ih.1,λi y v hy hv=>?_⟩
    cases i with
    |zero=>
      simp at hy hv;subst hy hv;have:=hs.ev x;rw[h.1]at this;cases this with|d _ _ h=>exact h
    |succ i=>exact ih.2 i y v (by simpa using hy) (by simpa using hv)
theorem run_lit(w:World)(t e:TypeId)(len:Nat)(parts:Array (Nat×Value))(cells:Array Value)(ie:TypeInfo)(z:Value)(hu:P.underlying t=some (.slice e))(hie:P.info? e=some ie)(hz:ie.zero=some z)(hsmall:len*ie.size<=16777216)
    (h:Instr.fill (λi=>some (i*ie.size,ie.size)) ((Array.range (len*ie.size)).map (z.cells[·%z.cells.size]!)) parts.toList=some cells):
    (Instr.buildSlice t len parts).run P w=.ok (.slice (some ⟨w.heap.size,0,none⟩) len len) (w.alloc (.cells cells e)):=by
  by_cases h0:len*ie.size=0;have hz0 : ∀ f : Nat -> Value, (Array.range (len * ie.size)).map f = #[] := fun f => by rw [h0]; simp
  rw[hz0]at h;unfold Instr.buildSlice;simp only[Sem.run_bind,run_underlying hu,Result.andThen_ok,sizeOf,typeInfo,run_program,hie,Sem.run_pure,hz0];rw[if_neg (by omega),if_pos h0];simp[h,newRow];exact run_buildSlice w t e len parts cells ie z hu hie hz (by omega) h0 h
theorem wN{o:Oper}{t e:TypeId}{parts:Array (Nat×Operand)}{n:Nat}(sz by':Nat)(xs:List Operand)(ds:List D)(z:Value)(ho:o.op=.buildSlice t n parts)(hl:sel C.P t=some (e,sz,by'))
    (hz:(C.P.info? e).bind (·.zero)=some z) (hp:oG parts xs) (hx:xs.map st.fr.ev=ds.map AV.d) (hn:ds.length=n) (hs:∀d∈ds,d.cells.length=sz) (hsmall:n*sz<=16777216)
    (hsim:Sim C st g a w):∃vs:Array Value,(execOp a.eval o).run C.P w=.ok (.value (.slice (some ⟨w.heap.size,0,none⟩) n n)) (w.alloc (.cells vs e))/\RowOf w g.X sz ds vs/\vs.size=n*sz:=by
    obtain⟨inf,hu,hi,hsz,hby⟩:=lM hl;obtain⟨i',hi',hzero⟩:=nB hz;cases hi.symm.trans hi';have hpw:=Jq hsim xs ds hx
    have hparts:(parts.map λ(i,x)=>(i,a.eval x)).toList=((xs.map a.eval).zipIdx 0).map λx=>(x.2,x.1):=by
      rw[sD,hp,List.zipIdx_map,List.map_map,List.map_map];rfl
    obtain⟨res,r1,r2,_,r4⟩:=zg (w:=w) (X:=g.X) (sz:=sz) ds (xs.map a.eval) 0 ((Array.range (n*sz)).map (z.cells[·%z.cells.size]!)) hpw hs (by simp[hn])
    have hones:∀(i:Nat)(e:D)(j:Nat)(c:D),ds[i]?=some e->e.cells[j]?=some c->c.one=true:=by
      intro i e j c he hc;have hlt:i<(xs.map a.eval).length:=by rw[<- hpw.1];exact(zal44q.1 he).1
      exact((hpw.2 i e _ he (eE hlt)).cells).2.1 c (dR hc)
    refine⟨res,?_,⟨by rw[r2];simp[hn],λi e he=>hs e (dR he),hones,λi e j c he hc=>by simpa using r4 i e j c he hc⟩,by rw[r2];simp⟩;have hrun:=run_lit (P:=C.P) w t e n (parts.map λ(i,x)=>(i,a.eval x)) res inf z hu hi hzero (by rw[hsz];exact hsmall) (by rw[hsz,hparts];exact r1);simp only[execOp,ho,Sem.run_bind,hrun,Result.andThen_ok,Sem.run_pure]
theorem By{o:Oper}{K:St->Prop}{t e:TypeId}{parts:Array (Nat×Operand)}{n:Nat}(sz by':Nat)(xs:List Operand)(ds:List D)(z:Value)(ho:o.op=.buildSlice t n parts)(hd:kZ C.n o.dst=true)(hl:sel C.P t=some (e,sz,by'))
    (hz:(C.P.info? e).bind (·.zero)=some z) (hp:oG parts xs) (hx:xs.map st.fr.ev=ds.map AV.d) (hn:ds.length=n) (hs:∀d∈ds,d.cells.length=sz) (hsmall:n*sz<=16777216)
    (hK:K (St.put ⟨st.fr,st.hp++[.flat e sz ds]⟩ o.dst (.msl st.hp.length sz 0 n))):OpOk C o st K:=
  OpOk.change λg a w hsim=>by
    obtain⟨vs,hr,row,hsz⟩:=wN sz by' xs ds z ho hl hz hp hx hn hs hsmall hsim
    obtain⟨h1,h2⟩:=eq (ty:=e) hsim row.le row.h0 row.h1 row.rep;exact⟨_,_,hr,_,_,hK,h1.put' hd (by have:=h2 n (by omega) (by rw[hsz];exact cT _);rwa [hn]at this)⟩
theorem nX{t e:TypeId}{s by':Nat}(h:sel P t=some (e,s,by'))(w:World)(ty:TypeId)(b b':Option Addr)(n cap cap':Nat)(hle:n<=cap):
    (Builtin.append_ #[t,t] ty #[.slice b n cap,.slice b' 0 cap']).run P w=.ok (.slice b n cap) w:=by
  obtain⟨inf,hu,hi,hs,_⟩:=lM h
  have hf:(Builtin.firstCells inf.size 0 (.slice b' 0 cap')).run P w=.ok #[] w:=by
    cases b' with
    |none=>simp[Builtin.firstCells]
    |some ad=>have:=run_firstCells_some (P:=P) w inf.size 0 ad 0 cap' [] (by simp) (λj v hv=>by simp at hv);simpa using this
  cases b with
  |none=>simp[Builtin.append_,run_underlying hu,sizeOf,typeInfo,hi,Builtin.lenOf,hle,hf]
  |some ad=>simp[Builtin.append_,run_underlying hu,sizeOf,typeInfo,hi,Builtin.lenOf,hle,hf,storeCells]
theorem cX{o:Oper}{t:TypeId}{x y:Operand}(ho:o.op=.call { callee:=.builtin .append,args:=#[x,y],argTypes:=#[t,t] }){v:Value}{w':World}(hr:(Builtin.append_ #[t,t] o.type #[a.eval x,a.eval y]).run P w=.ok v w'):
    (execOp a.eval o).run P w=.ok (.value v) w':=by
  simp only[execOp,ho];simp[resolve,invoke,builtin,hr]
theorem zI(olds news:List Value)(zs:Array Value)(m:Nat):(olds.toArray++news.toArray++zs)[m]?=if m<olds.length then olds[m]? else if m<olds.length+news.length then news[m-olds.length]? else zs[m-(olds.length+news.length)]?:=by
  simp only[cx,xm,vA,pQ];by_cases m1:m<olds.length;simp[m1,show m<olds.length+news.length by omega];simp only[m1,if_false]
theorem Bz{o:Oper}{K:St->Prop}{t e:TypeId}{x y:Operand}(sz by':Nat)(u:AV)(ds:List D)(z:Value)(ho:o.op=.call { callee:=.builtin .append,args:=#[x,y],argTypes:=#[t,t] })(hd:kZ C.n o.dst=true)(hl:sel C.P t=some (e,sz,by'))
    (hz:(C.P.info? e).bind (·.zero)=some z) (hx:st.fr.ev x=.d .nilsl) (hy:st.fr.ev y=u) (hu:SrcA st.hp sz ds u) (hlen:ds.length*by'<=140737488355328) (hlen':ds.length<=9223372036854775807)
    (hzs:z.cells.size=sz)
    (hK:K (St.put ⟨st.fr,st.hp++[.flat e sz ds]⟩ o.dst (.msl st.hp.length sz 0 ds.length))):OpOk C o st K:=
  OpOk.change λg a w hsim=>by
    obtain⟨inf,hun,hi,hsz,hby⟩:=lM hl;obtain⟨i',hi',hzero⟩:=nB hz;cases hi.symm.trans hi';have hvx:=hsim.ev x;rw[hx]at hvx
    have hex:∃ad,a.eval x=.slice ad 0 0:=by
      generalize a.eval x=vx at *;cases hvx with|d _ _ h=>cases h;exact⟨_,rfl⟩
    obtain⟨ad0,hex⟩:=hex;have hvy:=hsim.ev y;rw[hy]at hvy;rcases Dh hsim hvy hu with⟨ad,cap,hey,rfl⟩|⟨ad,cap,news,hey,n1,n2,n3,n4,n5,n6⟩
    have hr:=nX hl w o.type ad0 ad 0 0 cap (cT _);rw[<- hex,<- hey]at hr;refine⟨_,_,cX ho hr,_,g,hK,(hsim.virt e sz).put' hd ?_⟩;rw[hex];exact .msl0 _ _ _ _;by_cases hm:ds.length=0
    · have hds:ds=[]:=rA hm
      subst hds;have hr:=nX hl w o.type ad0 (some ad) 0 0 cap (cT _);rw[<- hex]at hr;simp only[qY]at hey;rw[<- hey]at hr;refine⟨_,_,cX ho hr,_,g,hK,(hsim.virt e sz).put' hd ?_⟩;rw[hex];exact .msl0 _ _ _ _
    have hsim':=hsim.drew
    have hcells:∀zs:Array Value,∀(i:Nat)(e:D)(j:Nat)(c:D),ds[i]?=some e->e.cells[j]?=some c->∃v,(news.toArray++zs)[i*sz+j]?=some v/\DRep w.drew g.X c v:=by
      intro zs i e j c he hc;obtain⟨v,hv,hd⟩:=n6 i e j c he hc;have hlt:=(zal44q.1 hv).1;exact⟨v,by rw[cx,if_pos (by simpa using hlt)];simpa using hv,hd.mono (λ_ h=>h) λ_ _=>rfl⟩
    have hcap:ds.length<=grownCap w ds.length 0 e:=by simpa using grownCap_ge w ds.length 0 e
    have hzsz:∀k,(Builtin.zeroCells z.cells k).size=k*sz:=λk=>by rw[size_zeroCells,hzs]
    have hfin:∀zs:Array Value,zs.size=(grownCap w ds.length 0 e-ds.length)*sz->∃st' g',K st'/\Sim C st' g' (a.put o.dst (.slice (some ⟨w.heap.size,0,none⟩) ds.length (grownCap w ds.length 0 e))) (w.drew.alloc (.cells (news.toArray++zs) e)):=by
      intro zs hzz;obtain⟨h1,h2⟩:=eq (ty:=e) (sz:=sz) (es:=ds) (vs:=news.toArray++zs) hsim' (by simp[n1]) n4 n5 (hcells zs);refine⟨_,_,hK,h1.put' hd (h2 _ hcap ?_)⟩;simp only[vA,pQ,n1,hzz,<- Nat.add_mul];rw[show ds.length+(grownCap w ds.length 0 e-ds.length)=grownCap w ds.length 0 e by omega];exact cT _
    cases ad0 with
    |none=>
      have hr:=run_append_nil (P:=C.P) w t o.type e inf z hun hi hzero ad ds.length cap news (by rw[n1,hsz]) n2 (by omega) (by omega) (by rw[hby];omega);rw[<- hex,<- hey]at hr;exact⟨_,_,cX ho hr,hfin _ (hzsz _)⟩
    |some b0=>
      have hr := run_append_grow (P := C.P) w t o.type e inf z hun hi hzero b0 0 0 [] (by simp) (fun j v hv => by simp at hv) ad ds.length cap news (by rw [n1, hsz]) n2 (by omega) (by omega)
        (by rw[hby,eL,nextslicecap_zero (by omega)];omega)
      rw[<- hex,<- hey]at hr;simp only[eL]at hr;have he:(#[]:Array Value)++news.toArray++Builtin.zeroCells z.cells (grownCap w ds.length 0 e-ds.length)=news.toArray++Builtin.zeroCells z.cells (grownCap w ds.length 0 e-ds.length):=by simp
      rw[show([]:List Value).toArray=#[]from rfl,he]at hr;exact⟨_,_,cX ho hr,hfin _ (hzsz _)⟩
variable {C:Ctx}{st:St}{g:Gh}{a:Act}{w:World}{P:Program}
theorem Fw(i:Nat)(j:Nat){B:Blk}(h:st.hp[j]?=some B):(st.purge i).hp[j]?=some (B.mapRef (purge i)):=by simp[St.purge,h]
theorem B3{o:Oper}{K:St->Prop}{t e:TypeId}{x y:Operand}(id sz by' n:Nat)(u:AV)(es ds:List D)(z:Value)(ho:o.op=.call { callee:=.builtin .append,args:=#[x,y],argTypes:=#[t,t] })(hd:kZ C.n o.dst=true)(hl:sel C.P t=some (e,sz,by'))
    (hz:(C.P.info? e).bind (·.zero)=some z) (hzs:z.cells.size=sz) (hx:st.fr.ev x=.msl id sz 0 n) (hb:st.hp[id]?=some (.flat e sz es)) (hn:n=es.length) (hmv:id<C.k->C.mv id=true) (hy:st.fr.ev y=u) (hu:SrcA st.hp sz ds u)
    (hlen:(es.length+ds.length)*by'<=140737488355328) (hlen':es.length+ds.length<=9223372036854775807)
    (hK:K (St.put ⟨(st.purge id).fr,(st.purge id).hp.set id (.flat e sz (es++ds))⟩ o.dst (.msl id sz 0 (es.length+ds.length)))):OpOk C o st K:=
  OpOk.change λg a w hsim=>by
    obtain⟨inf,hun,hi,hsz,hby⟩:=lM hl;obtain⟨i',hi',hzero⟩:=nB hz;cases hi.symm.trans hi';have hid:=(zal44q.1 hb).1;have hvx:=hsim.ev x;rw[hx]at hvx;have hvy:=hsim.ev y;rw[hy]at hvy;have hsrc:=Dh hsim hvy hu;have hblk:=hsim.hp id _ hb;have hpurge:=hsim.purge id
    have zero:ds=[]->(∃ad cap,a.eval y=.slice ad 0 cap)->∃v w',(execOp a.eval o).run C.P w=.ok (.value v) w'/\Sat C K (a.put o.dst v) w':=by
      intro hds ⟨ad,cap,hey⟩;subst hds
      have hexv:∃b cap',a.eval x=.slice b n cap'/\n<=cap':=by
        generalize a.eval x=vx at *
        cases hvx with
        |msl0=>exact⟨_,_,rfl,cT _⟩
        |msl _ _ _ _ cap b h1 h2 h3=>exact⟨_,_,rfl,h2⟩
      obtain⟨b,cap',hex,hle⟩:=hexv;have hr:=nX hl w o.type b ad n cap' cap hle;rw[<- hex,<- hey]at hr;refine⟨_,_,cX ho hr,_,g,hK,Sim.put' ?_ hd (by simpa[hn]using hvx)⟩
      have hset:(st.purge id).hp.set id (.flat e sz (es++[]))=(st.purge id).hp:=by
        apply hU;intro m;rw[cG];split;rename_i hm;subst hm;rw[Fw id id hb,if_pos (by simpa[St.purge]using hid)];simp[Blk.mapRef];rfl
      rw[hset];exact hpurge
    rcases hsrc with⟨ad,cap,hey,hds⟩|⟨ad,cap,news,hey,n1,n2,n3,n4,n5,n6⟩
    exact zero hds ⟨ad,cap,hey⟩;by_cases hm:ds.length=0;exact zero (rA hm) ⟨some ad,cap,by rw[hm]at hey;exact hey⟩;clear zero
    have hes:∀(i:Nat)(d:D),(es++ds)[i]?=some d->(i<es.length/\es[i]?=some d)\/(es.length<=i/\ds[i-es.length]?=some d):=by
      intro i d h;rw[eW]at h;split at h;exact .inl ⟨‹_›,h⟩;exact .inr ⟨by omega,h⟩
    have holds:∃olds:List Value,olds.length=es.length*sz/\(∀(b:Nat)(cells:Array Value),g.phi id=some b->w.heap[b]?=some (.cells cells e (0,0))->∀(j:Nat)(u:Value),olds[j]?=some u->cells[j]?=some u)/\
        (∀(i:Nat)(d:D),es[i]?=some d->d.cells.length=sz)/\(∀(i:Nat)(d:D)(j:Nat)(c:D),es[i]?=some d->d.cells[j]?=some c->c.one=true)/\
        ∀(i:Nat)(d:D)(j:Nat)(c:D),es[i]?=some d->d.cells[j]?=some c->∃v,olds[i*sz+j]?=some v/\DRep w g.X c v:=by
      rcases hblk with⟨he,hn'⟩|⟨b,cells,hp,hw,hpsi,hl',h0,h1,hr⟩
      subst he;exact⟨[],by simp,λ_ _ _ _ j u hu=>by simp at hu,λi d h=>by simp at h,λi d j c h=>by simp at h,λi d j c h=>by simp at h⟩;obtain ⟨olds, o1, o2, _, o4⟩ := ww (w := w) (X := g.X) (fun m => cells[m]?) h0 h1 hr;refine⟨olds,o1,λb' cells' hp' hw' j u hu=>?_,h0,h1,o4⟩;cases hp.symm.trans hp';rw[hw]at hw';cases hw';exact o2 j u hu
    obtain⟨olds,o1,o2,o3,o4,o5⟩:=holds
    have hsizes:∀(i:Nat)(d:D),(es++ds)[i]?=some d->d.cells.length=sz:=λi d h=>by
      rcases hes i d h with⟨_,h⟩|⟨_,h⟩
      exact o3 i d h;exact n4 _ d h
    have hones:∀(i:Nat)(d:D)(j:Nat)(c:D),(es++ds)[i]?=some d->d.cells[j]?=some c->c.one=true:=λi d j c h hc=>by
      rcases hes i d h with⟨_,h⟩|⟨_,h⟩
      exact o4 i d j c h hc;exact n5 _ d j c h hc
    have hlap:(es.length+ds.length)*sz=es.length*sz+ds.length*sz:=oR _ _ _
    have hcells:∀f:Nat->Option Value,(∀m,m<es.length*sz->f m=olds[m]?)->(∀m,m<ds.length*sz->f (es.length*sz+m)=news[m]?)->
        ∀(i:Nat)(d:D)(j:Nat)(c:D),(es++ds)[i]?=some d->d.cells[j]?=some c->∃v,f (i*sz+j)=some v/\DRep w g.X c v:=by
      intro f f1 f2 i d j c h hc;have hj:j<sz:=by rw[<- hsizes i d h];exact(zal44q.1 hc).1
      rcases hes i d h with⟨hlt,h⟩|⟨hge,h⟩
      obtain⟨v,hv,hd⟩:=o5 i d j c h hc;exact⟨v,by rw[f1 _ (by rw[<- o1];exact(zal44q.1 hv).1)];exact hv,hd⟩;obtain⟨v,hv,hd⟩:=n6 _ d j c h hc;refine⟨v,?_,hd⟩;have hsub:i*sz=es.length*sz+(i-es.length)*sz:=by rw[<- Nat.add_mul];congr 1;omega
      rw[hsub,tK,f2 _ (by rw[<- n1];exact(zal44q.1 hv).1)];exact hv
    have grown:∀(zs:Array Value)(cap':Nat),es.length+ds.length<=cap'->zs.size=(cap'-(es.length+ds.length))*sz->
        Sat C K (a.put o.dst (.slice (some ⟨w.heap.size,0,none⟩) (es.length+ds.length) cap')) (w.drew.alloc (.cells (olds.toArray++news.toArray++zs) e)):=by
      intro zs cap' hcap hzz;have hsd:=hsim.drew
      have htot:(olds.toArray++news.toArray++zs).size=cap'*sz:=by
        simp only[vA,pQ,o1,n1,hzz,<- Nat.add_mul]
        congr 1
        omega
      have hB:BRep (w.drew.alloc (.cells (olds.toArray++news.toArray++zs) e)) (g.new id w.heap.size (olds.toArray++news.toArray++zs).size) id (.flat e sz (es++ds)):=by
        refine .inr ⟨w.heap.size,_,by simp[Gh.new,upd],heap_alloc_new w.drew _,by simp[Gh.new,upd],?_,hsizes,hones,λi d j c h hc=>?_⟩;rw[htot,kI];exact iW _ hcap;obtain ⟨v, hv, hd⟩ := hcells (fun m => (olds.toArray ++ news.toArray ++ zs)[m]?) (fun m hm => by rw [zI, if_pos (by omega)]) (fun m hm => by rw [zI, if_neg (by omega), if_pos (by omega)]; congr 1; omega) i d j c h hc;exact⟨v,hv,hd.mono (λ_ h=>h) λb hb=>dU w.drew _ b (hsim.Xlt b hb)⟩
      have hmove:=hsd.move (o:=.cells (olds.toArray++news.toArray++zs) e) hid hmv hB;refine⟨_,_,hK,hmove.put' hd ?_⟩;have:=ARep.msl (w:=w.drew.alloc (.cells (olds.toArray++news.toArray++zs) e)) (g:=g.new id w.heap.size (olds.toArray++news.toArray++zs).size) id sz 0 (es.length+ds.length) cap' w.heap.size (by simp[Gh.new,upd]) hcap (by rw[eL];show cap'*sz<=upd g.psi id _ id;rw[upd_same,htot];exact cT _);simpa using this
    have hzsz:∀k,(Builtin.zeroCells z.cells k).size=k*sz:=λk=>by rw[size_zeroCells,hzs]
    generalize hex:a.eval x=vx at hvx
    cases hvx with
    |msl0 _ _ _ ad0=>
      have hes0:es=[]:=rA hn.symm;have holds0:olds=[]:=rA (by rw[o1,hes0];simp);have hgr:=grown (Builtin.zeroCells z.cells (grownCap w ds.length 0 e-ds.length)) (grownCap w ds.length 0 e) (by rw[hes0];simpa using grownCap_ge w ds.length 0 e) (by rw[hzsz,hes0];simp);rw[hes0,holds0]at hgr;simp only[qY,eL]at hgr hlen hlen';rw[hes0]at hlen hlen';simp only[qY,eL]at hlen hlen';have he:(#[]:Array Value)++news.toArray++Builtin.zeroCells z.cells (grownCap w ds.length 0 e-ds.length)=news.toArray++Builtin.zeroCells z.cells (grownCap w ds.length 0 e-ds.length):=by simp
      rw[show([]:List Value).toArray=#[]from rfl,he]at hgr
      cases ad0 with
      |none=>
        have hr:=run_append_nil (P:=C.P) w t o.type e inf z hun hi hzero ad ds.length cap news (by rw[n1,hsz]) n2 (by omega) (by omega) (by rw[hby];omega);rw[<- hex,<- hey]at hr;exact⟨_,_,cX ho hr,hgr⟩
      |some b0=>
        have hr := run_append_grow (P := C.P) w t o.type e inf z hun hi hzero b0 0 0 [] (by simp) (fun j v hv => by simp at hv) ad ds.length cap news (by rw [n1, hsz]) n2 (by omega) (by omega)
          (by rw[hby,eL,nextslicecap_zero (by omega)];omega)
        rw[<- hex,<- hey]at hr;simp only[eL]at hr;rw[show([]:List Value).toArray=#[]from rfl,he]at hr;exact⟨_,_,cX ho hr,hgr⟩
    |msl _ _ _ _ cap0 b hbp hc hpsz=>
      rw[eL]at hpsz;rw[yT]at hex;rcases hblk with⟨_,hn'⟩|⟨b',cells,hp',hw,hpsi,hl',h0,h1,hr0⟩
      rw[hbp]at hn';cases hn';cases hbp.symm.trans hp';have hold2:=o2 b cells hbp hw;by_cases hroom:n+ds.length<=cap0
      have hfit:n*inf.size+news.length<=cells.size:=by
        rw[n1,hsz,<- Nat.add_mul,<- hpsi];exact dQ (iW _ hroom) hpsz
      have hr:=run_append_room (P:=C.P) w t o.type e inf hun hi b n cap0 cells hw ad ds.length cap news (by rw[n1,hsz]) n2 n3 hroom hfit;rw[<- hex,<- hey]at hr;refine⟨_,_,cX ho hr,_,g,hK,?_⟩;have hX:∀b',g.X b'->b'≠b:=λb' hX e=>(hsim.lt id b hbp).2.2 (e ▸ hX);have hfit':n*sz+news.length<=cells.size:=by rw[hsz]at hfit;exact hfit
      have hget:∀m,m<n*sz+news.length->(cells.toList.take (n*inf.size)++news++cells.toList.drop (n*inf.size+news.length)).toArray[m]?=if m<n*sz then cells[m]? else news[m-n*sz]?:=by
        intro m hm;simp only[xm,eW,kI,gB,mQ,kJ,Cc,hsz];have hmin:min (n*sz) cells.size=n*sz:=by omega
        rw[hmin,if_pos hm];by_cases m1:m<n*sz;simp[m1];simp[m1]
      have hchange := hpurge.change (i := id) (b := b) (Fw id id hb) (fun e => by cases e) hbp (w' := w.setRow b (cells.toList.take (n * inf.size) ++ news ++ cells.toList.drop (n * inf.size + news.length)).toArray) (qN _ _ _) rfl rfl rfl (cT _) (fun b' hb' => setRow_other w b b' _ hb')
        (B:=.flat e sz (es++ds)) (.inr ⟨b,_,hbp,setRow_heap w b cells _ e (0,0) hw,?_,?_,hsizes,hones,λi d j c h hc=>?_⟩)
      refine hchange.put' hd ?_;subst hn;have:=ARep.msl (w:=w.setRow b (cells.toList.take (es.length*inf.size)++news++cells.toList.drop (es.length*inf.size+news.length)).toArray) (g:=g) id sz 0 (es.length+ds.length) cap0 b hbp hroom (by simpa using hpsz);simpa using this;rw[hpsi];simp only[pQ,kI,gB,qZ,mQ,hsz];omega;simp only[pQ,kI,gB,qZ,mQ,hsz];rw[hlap];rw[hn,n1]at hfit';rw[hn,n1];omega
      obtain ⟨v, hv, hd⟩ := hcells (fun m => (cells.toList.take (n * inf.size) ++ news ++ cells.toList.drop (n * inf.size + news.length)).toArray[m]?) (fun m hm => by
          rw[hget m (by rw[hn];omega),if_pos (by rw[hn];exact hm)];have hlt:m<olds.length:=by rw[o1];exact hm
          rw[eE hlt]
          exact hold2 m _ (eE hlt)) (λm hm=>by
          rw[hget _ (by rw[hn,n1];omega),if_neg (by rw[hn];omega)];congr 1;rw[hn];omega) i d j c h hc
      exact⟨v,hv,hd.mono (λ_ h=>h) λb' hb'=>setRow_other w b b' _ (hX b' hb')⟩
      have hr := run_append_grow (P := C.P) w t o.type e inf z hun hi hzero ⟨b, 0, none⟩ n cap0 olds (by rw [o1, hsz, hn]) (fun j v hv => by
          rw[qF,cell_of_row w b _ cells e (0,0) hw];simpa using hold2 j v hv) ad ds.length cap news (by rw[n1,hsz]) n2 (by omega) (by omega)
        (by rw[hby];exact growslice_fits (by omega) (by rw[hn];exact hlen))
      rw[<- hex,<- hey]at hr;refine⟨_,_,cX ho hr,?_⟩;rw[hn];exact grown _ _ (by simpa using grownCap_ge w (es.length+ds.length) cap0 e) (by rw[hzsz])
variable {C:Ctx}{st:St}{g:Gh}{a:Act}{w:World}{P:Program}
def QN(C:Ctx)(K:St->Prop):Exit->Act->World->Prop
  |.normal,a,w=>Sat C K a w
  |_,_,_=>False
def bO(C:Ctx)(ops:Array Oper)(l:List Oper)(st:St)(K:St->Prop):Prop:=∀g a w,Sim C st g a w->wpList C.P ops (QN C K) l a w
theorem TN{ops:Array Oper}{K:St->Prop}(h:K st):bO C ops [] st K:=λg _ _ hs=>⟨st,g,h,hs⟩
theorem cU{ops:Array Oper}{o:Oper}{l:List Oper}{K:St->Prop}(hg:o.guard=none)(h:OpOk C o st λst'=>bO C ops l st' K):bO C ops (o::l) st K:=by
  intro g a w hs;unfold wpList;rw[if_pos (by simp[Region.wanted,hg])];exact .inl (Oper.wp_mono (λa w ⟨st',g',hK,hs'⟩=>hK g' a w hs') (h g a w _ hs))
theorem qo{ops:Array Oper}{i t:Nat}(hs:Sim C st g a w)(ht:(ops[i]?).bind (·.dst)=some t)(hv:st.fr.get t=.und):yielded ops a.tmps i=none:=by
  have h:=hs.fr t;rw[hv]at h
  have he:a.tmps.getD t undef=undef:=by
    generalize a.tmps.getD t undef=v at *;cases h;rfl
  unfold yielded;rw[ht];rw[ql]at he
  cases ho:a.tmps[t]? with
  |none=>simp[ho]
  |some v=>
    rw[ho]at he;simp only[rJ]at he;subst he;simp[ho,undef]
def TWp(C:Ctx)(c:Code)(st:St)(Q:Exit->St->Prop):Prop:=
  ∀g a w,Sim C st g a w->c.wp C.P (λe a' w'=>∃st' g',Q e st'/\Sim C st' g' a' w') a w
def lT(next:St->Prop)(Q:Exit->St->Prop):Exit->St->Prop
  |.normal,st=>next st
  |e,st=>Q e st
def qR(id:Nat)(Q:Exit->St->Prop):Exit->St->Prop
  |.exit id',st=>if id'=id then Q .normal st else Q (.exit id') st
  |e,st=>Q e st
theorem TWp.mono{c:Code}{Q Q':Exit->St->Prop}(h:TWp C c st Q)(hq:∀e st,Q e st->Q' e st):TWp C c st Q':=
  λg a w hs=>Go.wp_mono (h g a w hs) λ_ _ _ ⟨st',g',hQ,hs'⟩=>⟨st',g',hq _ _ hQ,hs'⟩
theorem TG{id:Nat}{ops:Array Oper}{Q:Exit->St->Prop}(h:bO C ops ops.toList st (Q .normal)):TWp C (.region id ops false) st Q:=λg a w hs=>by
  refine Go.wp_mono (wp_region_list (h g a w hs)) ?_;intro e a' w' hq
  cases e with
  |normal=>exact hq
  |_=>exact hq.elim
theorem TQ{x y:Code}{Q:Exit->St->Prop}(h:TWp C x st (lT (λst'=>TWp C y st' Q) Q)):TWp C (.seq x y) st Q:=λg a w hs=>by
  refine wp_seq (Go.wp_mono (h g a w hs) ?_);intro e a' w' hq;obtain⟨st',g',hQ,hs'⟩:=hq
  cases e with
  |normal=>exact hQ g' a' w' hs'
  |exit id=>exact⟨st',g',hQ,hs'⟩
  |goto l=>exact⟨st',g',hQ,hs'⟩
  |ret=>exact⟨st',g',hQ,hs'⟩
  |panic ch=>exact⟨st',g',hQ,hs'⟩
  |outgrown=>exact⟨st',g',hQ,hs'⟩
theorem RS{id:Nat}{ops:Array Oper}{y:Code}{Q:Exit->St->Prop}(h:bO C ops ops.toList st λst'=>TWp C y st' Q):TWp C (.seq (.region id ops false) y) st Q:=TQ (TG h)
theorem TS{Q:Exit->St->Prop}(h:Q .normal st):TWp C .skip st Q:=λg _ _ hs=>wp_skip ⟨st,g,h,hs⟩
theorem yb{id:Nat}{Q:Exit->St->Prop}(h:Q (.exit id) st):TWp C (.exit id) st Q:=λg _ _ hs=>wp_exit ⟨st,g,h,hs⟩
theorem TR{Q:Exit->St->Prop}(h:Q .ret st):TWp C .ret st Q:=λg _ _ hs=>wp_ret ⟨st,g,h,hs⟩
theorem TC{c:Operand}{x y:Code}{Q:Exit->St->Prop}(b:Bool)(hc:st.fr.ev c=.d (.bool b))(h1:b=true->TWp C x st Q)(h2:b=false->TWp C y st Q):TWp C (.cond c x y) st Q:=λg a w hs=>by
  have h:=hs.ev c;rw[hc]at h;refine Go.wp_cond (bool_inv h) ?_;cases b;exact h2 rfl g a w hs;exact h1 rfl g a w hs
theorem TB{id:Nat}{c:Code}{Q:Exit->St->Prop}(h:TWp C c st (qR id Q)):TWp C (.block id c) st Q:=λg a w hs=>by
  refine Go.wp_block (Go.wp_mono (h g a w hs) ?_);intro e a' w' hq;obtain⟨st',g',hQ,hs'⟩:=hq
  cases e with
  |exit id'=>
    simp only[Exit.inBlock];simp only[qR]at hQ;split;rename_i h;rw[if_pos h]at hQ;exact⟨st',g',hQ,hs'⟩;rename_i h;rw[if_neg h]at hQ;exact⟨st',g',hQ,hs'⟩
  |normal=>exact⟨st',g',hQ,hs'⟩
  |goto l=>exact⟨st',g',hQ,hs'⟩
  |ret=>exact⟨st',g',hQ,hs'⟩
  |panic ch=>exact⟨st',g',hQ,hs'⟩
  |outgrown=>exact⟨st',g',hQ,hs'⟩
theorem E2{c:Code}{Q:Exit->St->Prop}(I:Nat->St->Prop)(n:Nat)(h0:I n st)(round:∀n st,I n st->TWp C c st (lT (λst'=>∃m,m<n/\I m st') Q)):TWp C (.loop c) st Q:=λg a w hs=>by
  refine wp_loop_ghost (λn a w=>∃st g,I n st/\Sim C st g a w) n ⟨st,g,h0,hs⟩ ?_;rintro n a w ⟨st,g,hI,hs⟩;refine Go.wp_mono (round n st hI g a w hs) ?_;intro e a' w' hq;obtain⟨st',g',hQ,hs'⟩:=hq
  cases e with
  |normal=>obtain⟨m,hm,hI'⟩:=hQ;exact⟨m,hm,st',g',hI',hs'⟩
  |exit id=>exact⟨st',g',hQ,hs'⟩
  |goto l=>exact⟨st',g',hQ,hs'⟩
  |ret=>exact⟨st',g',hQ,hs'⟩
  |panic ch=>exact⟨st',g',hQ,hs'⟩
  |outgrown=>exact⟨st',g',hQ,hs'⟩
theorem uA{c:Code}{Q:Exit->St->Prop}(ks ids:List Nat)(hnd:ids.Nodup)(hk:∀i,i<C.k->ids[i]?=some i)(h:TWp C c (st.canon ks ids) Q):TWp C c st Q:=λ_ a w hs=>h _ a w (hs.canon ks ids hnd hk)
theorem twp_keep{c:Code}{Q:Exit->St->Prop}(ks:List Nat)(h:TWp C c ⟨Fr.keep ks st.fr,st.hp⟩ Q):TWp C c st Q:=λg a w hs=>h g a w (hs.forget (Fr.get_keep st.fr ks))
theorem Sim.upgrade(h:Sim C st g a w)(t ty sz:Nat)(ht:st.fr.get t=.d .nilsl):Sim C ⟨(t,.msl st.hp.length sz 0 0)::st.fr,st.hp++[.flat ty sz []]⟩ g a w:=by
  refine{ h.virt ty sz with fr:=λt'=>?_ };simp only[Fr.get];split;rename_i e;subst e;have h1:=h.fr t;rw[ht]at h1;generalize a.tmps.getD t undef=v at *;cases h1 with|d _ _ h=>cases h;exact .msl0 _ _ _ _
  exact h.fr t'
theorem E1{c:Code}{Q:Exit->St->Prop}(t ty sz:Nat)(ht:st.fr.get t=.d .nilsl)(h:TWp C c ⟨(t,.msl st.hp.length sz 0 0)::st.fr,st.hp++[.flat ty sz []]⟩ Q):TWp C c st Q:=λg a w hs=>h g a w (hs.upgrade t ty sz ht)
def noSlots:Act:={ tmps:=#[],defers:=[] }
def Out(C:Ctx)(hp:List Blk)(g:Gh)(w:World):Prop:=Sim { C with n:=0 } ⟨[],hp⟩ g noSlots w
theorem Sim.out(h:Sim C st g a w)(h0:C.g0.df=[]):Out C st.hp g w:=
  { h with defers:=h0.symm,size:=rfl,fr:=λ_=>.junk _,hp:=h.hp,lt:=h.lt,inj:=h.inj,kle:=h.kle }
theorem Out.sim{hp:List Blk}{fr:Fr}(h:Out C hp g w)(hd:a.defers=C.g0.df)(hs:a.tmps.size=C.n)(hf:∀t,ARep w g (fr.get t) (a.tmps.getD t undef)):Sim C ⟨fr,hp⟩ g a w:=
  { h with defers:=hd,size:=hs,fr:=hf,hp:=h.hp,lt:=h.lt,inj:=h.inj,kle:=h.kle }
def kD(P:Program)(F:FuncId):Bool:=
  match P.funcs[F]? with
  | some fn => !(fn.name == "runtime.NumGoroutine") && fn.body.isSome
  |none=>false
def Ret(P:Program)(F:FuncId)(hp:List Blk)(mv:Nat->Bool)(args:List AV)(r:AV)(hp':List Blk):Prop:=
  kD P F=true/\∀(w:World)(g:Gh)(vs:Array Value),Out ⟨P,0,w,hp.length,g,mv⟩ hp g w->Pw (ARep w g) args vs.toList->
    Calls P F vs w λe w'=>∃v g',e=.returned v/\Out ⟨P,0,w,hp.length,g,mv⟩ hp' g' w'/\ARep w' g' r v
def oO(args:List AV):Fr:=(args.zipIdx 0).map λx=>(x.2,x.1)
theorem uN : ∀ (args : List AV) (k t : Nat), Fr.get ((args.zipIdx k).map fun x => (x.2, x.1)) t = if k <= t then (args[t - k]?).getD .junk else .junk
  |[],k,t=>by simp[Fr.get]
  |x::r,k,t=>by
    simp only[List.zipIdx_cons,fX,Fr.get];rw[uN r (k+1) t];by_cases h:k=t;subst h;simp;rw[if_neg h];by_cases h1:k<=t;rw[if_pos h1,if_pos (by omega),show t-k=(t-(k+1))+1 by omega,gr];rw[if_neg h1,if_neg (by omega)]
def ef(fr:Fr):List ResultVar->Option AV
  |[.tmp t]=>some (fr.get t)
  |[.tmp t,.tmp u]=>some (.tup [fr.get t,fr.get u])
  |[.tmp t,.tmp u,.tmp v]=>some (.tup [fr.get t,fr.get u,fr.get v])
  |[]=>some (.tup [])
  |_=>none
inductive ResV (P:Program) (st:St):ResultVar->AV->Prop
  |tmp (t:Nat):ResV P st (.tmp t) (st.fr.get t)
  |one {a t id off s ty:Nat} {cs:List AV} {v:AV} (hl:lay P t=some (false,s)) (ha:st.fr.get a=.mptr id 0 0 off) (hb:st.hp[id]?=some (.box ty cs)) (hc:cs[off]?=some v):ResV P st (.cell a t) v
  |agg {a t id off s ty:Nat} {cs:List AV} {v:AV} (hl:lay P t=some (true,s)) (ha:st.fr.get a=.mptr id 0 0 off) (hb:st.hp[id]?=some (.box ty cs)) (hc:Nat.ble (off+s) cs.length=true) (hv:wK ((cs.drop off).take s)=v):ResV P st (.cell a t) v
inductive ResVs (P:Program) (st:St):List ResultVar->List AV->Prop
  |nil:ResVs P st [] []
  |cons {r:ResultVar} {rs:List ResultVar} {x:AV} {xs:List AV} (h:ResV P st r x) (hr:ResVs P st rs xs):ResVs P st (r::rs) (x::xs)
def pack:List AV->AV
  |[x]=>x
  |xs=>.tup xs
inductive ResOk (P:Program) (st:St) (rs:List ResultVar) (x:AV):Prop
  |mk (xs:List AV) (h:ResVs P st rs xs) (e:pack xs=x)
theorem res{P:Program}{st:St}{rs:List ResultVar}{x:AV}(h:ef st.fr rs=some x):ResOk P st rs x:=by
  match rs,h with
  |[.tmp t],h=>cases h;exact .mk _ (.cons (.tmp t) .nil) rfl
  |[.tmp t,.tmp u],h=>cases h;exact .mk _ (.cons (.tmp t) (.cons (.tmp u) .nil)) rfl
  |[.tmp t,.tmp u,.tmp x],h=>cases h;exact .mk _ (.cons (.tmp t) (.cons (.tmp u) (.cons (.tmp x) .nil))) rfl
  |[],h=>cases h;exact .mk [] .nil rfl
def Hv(tmps:Array Value):ResultVar->Sem Value
  |.tmp t=>pure (tmps.getD t undef)
  |.cell c t=>do loadVar t (<- asAddr (tmps.getD c undef))
theorem Hu(fn:Func)(tmps:Array Value):results fn tmps=(do
    let vs <- fn.results.mapM (Hv tmps)
    pure (if h:vs.size=1 then vs[0]else .tuple vs)):=by
  unfold results
  congr 2
theorem run_resV{r:ResultVar}{x:AV}(hs:Sim C st g a w)(h:ResV P st r x):∃v,(Hv a.tmps r).run P w=.ok v w/\ARep w g x v:=by
  cases h with
  |tmp t=>exact⟨a.tmps.getD t undef,by simp[Hv],hs.fr t⟩
  |@one c t id off s ty cs v hl ha hb hc=>
    have h:=hs.fr c;rw[ha]at h;obtain⟨b,hp,he⟩:=lZ h;obtain⟨b',cells,hp',hw,_,hlen,hr⟩:=hs.hp id _ hb;cases hp.symm.trans hp';have hoff:off<cells.size:=by rw[<- hlen];exact(zal44q.1 hc).1
    have hcell:w.cell? ⟨b,0*0+off,none⟩=some cells[off]:=by
      rw[show 0*0+off=off by omega,cell_of_row w b off cells ty (0,0) hw,xn hoff]
    refine⟨cells[off],?_,hr off x _ hc (by simp[hoff])⟩;simp only[Hv,he,asAddr,Sem.run_bind,Sem.run_pure,Result.andThen_ok];exact kU hl w _ _ hcell
  |@agg c t id off s ty cs v hl ha hb hc hv=>
    have hc:=dK hc;subst hv;have h:=hs.fr c;rw[ha]at h;obtain⟨b,hp,he⟩:=lZ h;obtain⟨b',cells,hp',hw,_,hlen,hr⟩:=hs.hp id _ hb;cases hp.symm.trans hp';have hlen':((cs.drop off).take s).length=s:=by simp;omega
    obtain⟨vs,hvl,h2,h3⟩:=wv (R:=ARep w g) ((cs.drop off).take s) (λj=>cells[off+j]?) (λj c hc=>by
      rw[kJ]at hc;split at hc;rw [lG] at hc;have hlt:off+j<cells.size:=by rw[<- hlen];exact(zal44q.1 hc).1
      exact⟨cells[off+j],by simp[hlt],hr _ c _ hc (by simp[hlt])⟩
      cases hc)
    refine⟨.agg vs.toArray,?_,zD (by simp[hvl]) λi c v hc hv=>h3 i c v hc (by simpa using hv)⟩;simp only[Hv,he,asAddr,Sem.run_bind,Sem.run_pure,Result.andThen_ok]
    exact kV hl w ⟨b,0*0+off,none⟩ vs (hvl.trans hlen') (λj v hv=>by
      rw[qF,cell_of_row w b _ cells ty (0,0) hw];simpa using h2 j v hv)
theorem Cg(hs:Sim C st g a w):∀{rs:List ResultVar}{xs:List AV},ResVs P st rs xs->
    ∃vs,(rs.mapM (Hv a.tmps)).run P w=.ok vs w/\Pw (ARep w g) xs vs
  |[],[],.nil=>⟨[],by simp,rfl,λi x y h=>by simp at h⟩
  |r::rs,x::xs,.cons h hr=>by
    obtain⟨v,h1,h2⟩:=run_resV hs h;obtain⟨vs,h3,h4⟩:=Cg hs hr;refine⟨v::vs,?_,by simp[h4.1],λi x y hx hy=>?_⟩;rw[xl,Sem.run_bind,h1,Result.andThen_ok,Sem.run_bind,h3,Result.andThen_ok,Sem.run_pure]
    cases i with
    |zero=>simp at hx hy;subst hx hy;exact h2
    |succ i=>exact h4.2 i x y (by simpa using hx) (by simpa using hy)
theorem lU{fn:Func}{r:AV}(hs:Sim C st g a w)(h:ResOk P st fn.results.toList r):∃v,(results fn a.tmps).run P w=.ok v w/\ARep w g r v:=by
  obtain⟨xs,h,rfl⟩:=h;obtain⟨vs,h1,h2⟩:=Cg hs h
  have h3:(fn.results.mapM (Hv a.tmps)).run P w=.ok vs.toArray w:=by
    rw[Array.mapM_eq_mapM_toList,Sem.run_map,h1];rfl
  rw[Hu];refine⟨if h:vs.toArray.size=1 then vs.toArray[0]else .tuple vs.toArray,?_,?_⟩;rw[Sem.run_bind,h3];rfl
  match xs,vs,h2 with
  |[x],[v],h2=>exact h2.2 0 x v rfl rfl
  |[],[],_=>exact .tup [] #[] rfl λi c v hc=>by simp at hc
  |x::y::xs,u::v::vs,h2=>
    rw[dif_neg (by simp)];exact .tup _ _ (by simpa using h2.1) λi c z hc hz=>h2.2 i c z hc (by simpa using hz)
  |[],_::_,h2=>have:=h2.1;simp at this
  |[_],[],h2=>have:=h2.1;simp at this
  |[_],_::_::_,h2=>have:=h2.1;simp at this
  |_::_::_,[],h2=>have:=h2.1;simp at this
  |_::_::_,[_],h2=>have:=h2.1;simp at this
def Ends(P:Program)(k:Nat)(rs:List ResultVar)(r:AV)(hp':List Blk)(st:St):Prop:=
  ∃(x:AV)(ids:List Nat),ResOk P st rs x/\ids.Nodup/\(∀i,i<k->ids[i]?=some i)/\x.mapRef (toName (aR ids))=r/\ids.map (λi=>(st.hp.getD i .dead).mapRef (toName (aR ids)))=hp'
def G7(P:Program)(k:Nat)(rs:List ResultVar)(r:AV)(hp':List Blk):Exit->St->Prop
  |.normal,st|.ret,st=>Ends P k rs r hp' st
  |_,_=>False
theorem Fk{F:FuncId}{fn:Func}{c:Code}{hp hp':List Blk}{mv:Nat->Bool}{args:List AV}{r:AV}(hcb:kD P F=true)(hf:P.funcs[F]?=some fn)(hb:fn.body=some c)(hn:args.length<=fn.ntmps)
    (h:∀w g,TWp ⟨P,fn.ntmps,w,hp.length,g,mv⟩ c ⟨oO args,hp⟩ (G7 P hp.length fn.results.toList r hp')):Ret P F hp mv args r hp':=by
  refine⟨hcb,?_⟩;intro w g vs hout hargs;have hlen:vs.size=args.length:=by have:=hargs.1;simpa using this.symm
  have hsim:Sim ⟨P,fn.ntmps,w,hp.length,g,mv⟩ ⟨oO args,hp⟩ g { tmps:=vs++Array.replicate (fn.ntmps-vs.size) undef,defers:=[] } w:=by
    refine Out.sim (C:=⟨P,fn.ntmps,w,hp.length,g,mv⟩) hout hout.defers ?_ λt=>?_;simp only[vA,Da];omega;unfold oO;rw[uN,if_pos (cN _),yU];by_cases ht:t<args.length;have h1:args[t]?=some args[t]:=eE ht;have h2:vs.toList[t]?=some (vs.toList[t]'(by simpa[hlen]using ht)):=eE _;have h3:=hargs.2 t _ _ h1 h2;rw[h1]
    have h4:(vs++Array.replicate (fn.ntmps-vs.size) undef).getD t undef=vs.toList[t]'(by simpa[hlen]using ht):=by
      rw[ql,cx,if_pos (by omega)];simp[show t<vs.size by omega]
    rw[h4];exact h3;rw [iS (by omega)];exact .junk _
  refine calls_of_wp hf hb (Go.wp_mono (h w g g _ w hsim) ?_);intro e a' w' hq;obtain⟨st',g',hQ,hs'⟩:=hq
  have fin:Ends P hp.length fn.results.toList r hp' st'->a'.defers=[]/\∃v,(results fn a'.tmps).run P w'=.ok v w'/\∃v' g',Ending.returned v=.returned v'/\Out ⟨P,0,w,hp.length,g,mv⟩ hp' g' w'/\ARep w' g' r v':=by
    rintro⟨x,ids,hx,hnd,hk,hr,hhp⟩;obtain⟨v,hv,hrep⟩:=lU (P:=P) hs' hx;have hc:=hs'.canon [] ids hnd hk;have ho:=hc.out hout.defers.symm;refine⟨hs'.defers.trans hout.defers.symm,v,hv,v,g'.canon ids,rfl,?_,?_⟩;simp only[St.canon]at ho;rw[hhp]at ho;exact ho;rw[<- hr];refine ARep.mapRef (w:=w') (g:=g') (g':=g'.canon ids) (λd v hd=>hd) (ARep.toName (λi j hij=>?_) λ_ hb=>hb) hrep;have:=cE ids i j hij;simp[Gh.canon,this]
  cases e with
  |normal=>exact fin hQ
  |ret=>exact fin hQ
  |_=>exact hQ.elim
variable {C:Ctx}{st:St}{g:Gh}{a:Act}{w:World}{P:Program}
inductive Snap (hp:List Blk):AV->D->Prop
  |d (x:D):Snap hp (.d x) x
  |msl (id sz off len:Nat) (ty:TypeId) (es:List D) (h:hp[id]?=some (.flat ty sz es)) (hl:off+len<=es.length):Snap hp (.msl id sz off len) (.sl sz ((es.drop off).take len))
  |mptrF (id sz idx off:Nat) (ty:TypeId) (es:List D) (e:D) (h:hp[id]?=some (.flat ty sz es)) (he:es[idx]?=some e):Snap hp (.mptr id sz idx off) (.ptr e off)
  |mptrB (id off:Nat) (ty:TypeId) (cs:List AV) (ds:List D) (h:hp[id]?=some (.box ty cs)) (hl:cs.length=ds.length) (h1:∀d∈ds,d.one=true) (hs:∀(i:Nat)(c:AV)(d:D),cs[i]?=some c->ds[i]?=some d->Snap hp c d):Snap hp (.mptr id 0 0 off) (.ptr (.agg ds) off)
  |agg (cs:List AV) (ds:List D) (hl:cs.length=ds.length) (h1:∀d∈ds,d.one=true) (hs:∀(i:Nat)(c:AV)(d:D),cs[i]?=some c->ds[i]?=some d->Snap hp c d):Snap hp (.agg cs) (.agg ds)
  |clo (f:FuncId) (cs:List AV) (ds:List D) (hl:cs.length=ds.length) (hs:∀(i:Nat)(c:AV)(d:D),cs[i]?=some c->ds[i]?=some d->Snap hp c d):Snap hp (.fnc f cs) (.clo f ds)
  |ifc (t:TypeId) (c:AV) (d:D) (h:Snap hp c d):Snap hp (.ifc t c) (.iface t d)
theorem Snap.same{hp:List Blk}{x:AV}{d d':D}(h:Snap hp x d)(e:d=d'):Snap hp x d':=e ▸ h
theorem oV(hs:∀(i:Nat)(B:Blk),st.hp[i]?=some B->BRep w g i B){x:AV}{d:D}(h:Snap st.hp x d){Y:Nat->Prop}(hX:∀b,g.X b->Y b)(hphi:∀i b,g.phi i=some b->Y b):∀{v:Value},ARep w g x v->DRep w Y d v:=by
  induction h with
  |d x=>intro v hv;cases hv with|d _ _ h=>exact h.mono hX λ_ _=>rfl
  |msl id sz off len ty es h hl=>
    intro v hv;have hlen:((es.drop off).take len).length=len:=by simp;omega
    have hds:∀(i:Nat)(e:D),((es.drop off).take len)[i]?=some e->es[off+i]?=some e:=by
      intro i e he;rw[kJ]at he;split at he
      rwa [lG]at he
      cases he
    cases hv with
    |msl0=>simp only[List.take_zero];exact .sl0 _ _ _
    |msl _ _ _ _ cap b hb hc hp=>
      rcases hs id _ h with⟨_,hn⟩|⟨b',cells,hp',hw,_,_,h0,h1,hr⟩
      rw[hb]at hn;cases hn;cases hb.symm.trans hp';have hcell:∀(i:Nat)(e:D)(j:Nat)(c:D),((es.drop off).take len)[i]?=some e->e.cells[j]?=some c->∃v,cells[(off+i)*sz+j]?=some v/\DRep w g.X c v:=λi e j c he hc=>hr _ e j c (hds i e he) hc
      have hfin := DRep.sl (w := w) (X := Y) sz ((es.drop off).take len) ⟨b, off * sz, none⟩ cap (fun i j => (cells[(off + i) * sz + j]?).getD undef) (hphi _ _ hb) (by rw [hlen]; exact hc) (fun i e he => h0 _ e (hds i e he)) (fun i e j c he hc => h1 _ e j c (hds i e he) hc)
        (λi e j c he hc=>by
          obtain⟨v,hv,_⟩:=hcell i e j c he hc
          rw[qF,cell_of_row w b _ cells ty (0,0) hw,show off*sz+(i*sz+j)=(off+i)*sz+j by rw[oR];omega,hv];rfl)
        (λi e j c he hc=>by
          obtain⟨v,hv,hd⟩:=hcell i e j c he hc;rw[hv]
          exact hd.mono hX λ_ _=>rfl)
      rw[hlen]at hfin;exact hfin
  |mptrF id sz idx off ty es e h he=>
    intro v hv;obtain⟨b,hp,rfl⟩:=lZ hv;rcases hs id _ h with⟨h0,_⟩|⟨b',cells,hp',hw,_,_,_,h1,hr⟩
    subst h0;simp at he;cases hp.symm.trans hp';refine .ptr e off _ (λj=>(cells[idx*sz+(off+j)]?).getD undef) (hphi _ _ hp) (λc hc=>?_) (λj c hc=>?_) λj c hc=>?_;obtain⟨j,hj⟩:=iL hc;exact h1 idx e j c he hj;obtain⟨v,hv,_⟩:=hr idx e _ c he hc;rw[qF,cell_of_row w b _ cells ty (0,0) hw,tK,hv];rfl;obtain⟨v,hv,hd⟩:=hr idx e _ c he hc;rw[hv];exact hd.mono hX λ_ _=>rfl
  |mptrB id off ty cs ds h hl h1 hsn ih=>
    intro v hv;obtain⟨b,hp,rfl⟩:=lZ hv;obtain⟨b',cells,hp',hw,_,hlen,hr⟩:=hs id _ h;cases hp.symm.trans hp'
    have key:∀(j:Nat)(d:D),ds[j]?=some d->∃v,cells[j]?=some v/\DRep w Y d v:=by
      intro j d hd;have hj:=(zal44q.1 hd).1;have hjc:j<cells.size:=by omega
      exact⟨cells[j],by simp[hjc],ih j _ d (eE (by omega)) hd (hr j _ _ (eE (by omega)) (by simp[hjc]))⟩
    refine .ptr (.agg ds) off _ (λj=>(cells[off+j]?).getD undef) (hphi _ _ hp) h1 (λj c hc=>?_) λj c hc=>?_;obtain⟨v,hv,_⟩:=key _ c hc;rw[qF,cell_of_row w b _ cells ty (0,0) hw,show 0*0+off+j=off+j by omega,hv];rfl;obtain⟨v,hv,hd⟩:=key _ c hc;rw[hv];exact hd
  |agg cs ds hl h1 hsn ih=>
    intro v hv
    cases hv with
    |agg _ vs hlv hr=>
      refine .agg ds vs (by omega) h1 λi d v hd hv=>?_;have hi:=(zal44q.1 hd).1;exact ih i _ d (eE (by omega)) hd (hr i _ v (eE (by omega)) hv)
  |clo f cs ds hl hsn ih=>
    intro v hv
    cases hv with
    |fnc _ _ vs hlv hr=>
      refine .clo f ds vs (by omega) λi d v hd hv=>?_;have hi:=(zal44q.1 hd).1;exact ih i _ d (eE (by omega)) hd (hr i _ v (eE (by omega)) hv)
  |ifc t c d h ih=>
    intro v hv
    cases hv with
    |ifc _ _ v h'=>exact .iface t d v (ih h')
mutual
def D.mem0:D->Bool
  |.agg cs=>D.mem0s cs
  |.clo _ cs=>D.mem0s cs
  |.sl _ _=>false
  |.own _ _ _ _=>false
  |.ptr _ _=>false
  |.iface _ d=>D.mem0 d
  |_=>true
def D.mem0s:List D->Bool
  |[]=>true
  |d::r=>D.mem0 d&&D.mem0s r
end
theorem D.mem0s_all:∀{ds:List D},D.mem0s ds=true->∀d∈ds,D.mem0 d=true
  |[],_,d,hd=>by simp at hd
  |x::r,h,d,hd=>by
    simp only[D.mem0s,lH]at h;simp only[zal72q]at hd;rcases hd with rfl|hd
    exact h.1;exact D.mem0s_all h.2 d hd
theorem DRep.any{X Y:Nat->Prop}{d:D}{v:Value}(h:DRep w X d v)(hm:D.mem0 d=true):DRep w Y d v:=by
  induction h with
  |bool=>exact .bool _
  |int=>exact .int _ _
  |str=>exact .str _
  |agg cs vs hl h1 _ ih=>
    simp only[D.mem0]at hm;exact .agg cs vs hl h1 λi c v hc hv=>ih i c v hc hv (D.mem0s_all hm c (dR hc))
  |clo f cs vs hl _ ih=>
    simp only[D.mem0]at hm;exact .clo f cs vs hl λi c v hc hv=>ih i c v hc hv (D.mem0s_all hm c (dR hc))
  |nilsl=>exact .nilsl _
  |sl0=>simp[D.mem0]at hm
  |sl=>simp[D.mem0]at hm
  |own0=>simp[D.mem0]at hm
  |own=>simp[D.mem0]at hm
  |nilptr=>exact .nilptr
  |ptr=>simp[D.mem0]at hm
  |fn=>exact .fn _
  |nilfn=>exact .nilfn
  |iface t d v _ ih=>exact .iface t d v (ih (by simpa[D.mem0]using hm))
  |nilif=>exact .nilif
  |nilmap=>exact .nilmap
inductive AMem0:AV->Prop
  |d (x:D) (h:D.mem0 x=true):AMem0 (.d x)
  |junk:AMem0 .junk
  |und:AMem0 .und
  |msl (i s o l:Nat):AMem0 (.msl i s o l)
  |mptr (i s x o:Nat):AMem0 (.mptr i s x o)
  |mmap (i:Nat):AMem0 (.mmap i)
  |yld (i:Nat):AMem0 (.yld i)
  |mmapN (i n:Nat):AMem0 (.mmapN i n)
  |agg (cs:List AV) (h:∀c∈cs,AMem0 c):AMem0 (.agg cs)
  |tup (cs:List AV) (h:∀c∈cs,AMem0 c):AMem0 (.tup cs)
  |fnc (f:FuncId) (cs:List AV) (h:∀c∈cs,AMem0 c):AMem0 (.fnc f cs)
  |ifc (t:TypeId) (c:AV) (h:AMem0 c):AMem0 (.ifc t c)
def Bl:Blk->Prop
  |.dead=>True
  |.hole=>True
  |.flat _ _ es=>∀e∈es,D.mem0 e=true
  |.box _ cs=>∀c∈cs,AMem0 c
  |.map _ _ es=>∀e∈es,D.mem0 e.1=true/\D.mem0 e.2=true
  |.ob _=>True
  |.mapv ..=>False
  |.lp ..=>False
theorem Ie{e c:D}(h:D.mem0 e=true)(hc:c∈e.cells):D.mem0 c=true:=by
  cases e with
  |agg cs=>simp only[D.mem0]at h;exact D.mem0s_all h c hc
  |_=>simp only[D.cells,zal82q]at hc;subst hc;exact h
theorem ARep.any{Y:Nat->Prop}{x:AV}{v:Value}(h:ARep w g x v)(hm:AMem0 x):ARep w { g with X:=Y } x v:=by
  induction h with
  |junk=>exact .junk _
  |und=>exact .und
  |d d v h=>cases hm with|d _ hm=>exact .d d v (h.any hm)
  |msl0=>exact .msl0 _ _ _ _
  |msl id sz off len cap b hb hc hp=>exact .msl id sz off len cap b hb hc hp
  |mptr id sz idx off b hb=>exact .mptr id sz idx off b hb
  |mmap id b hb=>exact .mmap id b hb
  |yld id b hb=>exact .yld id b hb
  |mmapN0=>exact .mmapN0 _
  |mmapN id n b hb=>exact .mmapN id n b hb
  |agg cs vs hl _ ih=>cases hm with|agg _ hm=>exact .agg cs vs hl λi c v hc hv=>ih i c v hc hv (hm c (dR hc))
  |tup cs vs hl _ ih=>cases hm with|tup _ hm=>exact .tup cs vs hl λi c v hc hv=>ih i c v hc hv (hm c (dR hc))
  |fnc f cs vs hl _ ih=>cases hm with|fnc _ _ hm=>exact .fnc f cs vs hl λi c v hc hv=>ih i c v hc hv (hm c (dR hc))
  |ifc t c v _ ih=>cases hm with|ifc _ _ hm=>exact .ifc t c v (ih hm)
theorem BRep.any{Y:Nat->Prop}{i:Nat}{B:Blk}(h:BRep w g i B)(hm:Bl B):BRep w { g with X:=Y } i B:=by
  cases B with
  |dead=>trivial
  |hole=>exact h
  |flat ty sz es=>
    rcases h with h|⟨b,cells,h1,h2,h3,h4,h5,h6,h7⟩
    exact .inl h;refine .inr ⟨b, cells, h1, h2, h3, h4, h5, h6, fun k e j c he hc => ?_⟩;obtain⟨v,hv,hd⟩:=h7 k e j c he hc;exact⟨v,hv,hd.any (Ie (hm e (dR he)) (dR hc))⟩
  |box ty cs=>
    obtain⟨b,cells,h1,h2,h3,h4,h5⟩:=h;exact⟨b,cells,h1,h2,h3,h4,λj c v hc hv=>(h5 j c v hc hv).any (hm c (dR hc))⟩
  |map kt vt es=>
    rcases h with h|⟨b,ents,clock,h1,h2,h3,h4⟩
    exact .inl h;exact .inr ⟨b,ents,clock,h1,h2,h3,λk e m he hm'=>⟨(h4 k e m he hm').1.any (hm e (dR he)).1,(h4 k e m he hm').2.any (hm e (dR he)).2⟩⟩
  |ob o=>exact h
  |mapv=>exact hm.elim
  |lp=>exact hm.elim
theorem eH{o:Oper}{f:Operand}{xs:Array Operand}{ts:Array TypeId}{F:FuncId}{caps:Array Value}(ho:o.op=.call { callee:=.value f,args:=xs,argTypes:=ts })(hf:a.eval f=.func (.func F) #[] caps)(hc:kD P F=true):
    (execOp a.eval o).run P w=.ok (.enter F (xs.map a.eval++caps)) w:=by
  unfold kD at hc
  cases hfn:P.funcs[F]? with
  |none=>simp[hfn]at hc
  |some fn=>
    simp only[hfn,lH,rB]at hc;have hb:fn.body.isNone=false:=by cases h:fn.body<;>simp_all
    have hcall:(callFunc F (xs.map a.eval++caps)).run P w=.ok (.enter F (xs.map a.eval++caps)) w:=by
      unfold callFunc;simp only[Sem.run_bind,run_program,Result.andThen_ok,hfn];rw[if_neg (by rw[hc.1];exact eX),if_neg (by rw[hb];exact eX)];rfl
    simp only[execOp,ho,resolve,hf,Deferred.ofValue,invoke,Sem.run_bind,Sem.run_pure,Result.andThen_ok,Array.empty_append];exact hcall
theorem co{F:FuncId}{v:Value}(h:ARep w g (.d (.fn F)) v):v=.func (.func F) #[] #[]:=by
  cases h with
  |d _ _ h=>cases h;rfl
def wP(hp:List Blk)(xs:List AV)(ds:List D):Prop:=xs.length=ds.length/\∀(i:Nat)(x:AV)(d:D),xs[i]?=some x->ds[i]?=some d->Snap hp x d
theorem SN{hp:List Blk}:wP hp [] []:=⟨rfl,λi x d h=>by simp at h⟩
theorem SC{hp:List Blk}{x:AV}{xs:List AV}{d:D}{ds:List D}(h:Snap hp x d)(h':wP hp xs ds):wP hp (x::xs) (d::ds):=by
  refine⟨by simp[h'.1],λi y e hy he=>?_⟩
  cases i with
  |zero=>simp at hy he;subst hy he;exact h
  |succ i=>exact h'.2 i y e (by simpa using hy) (by simpa using he)
def dF(X:Nat->Prop):Gh:={ phi:=λ_=>none,psi:=λ_=>0,X:=X }
theorem D2(hs:Sim C st g a w)(mv:Nat->Bool){X:Nat->Prop}(hX:∀b,X b->b<w.heap.size):Out ⟨C.P,0,w,0,dF X,mv⟩ [] (dF X) w:=
  { defers := rfl, size := rfl, fr := fun _ => .junk _, hp := fun i B h => by simp at h, lt := fun i b h => by simp [dF] at h, inj := fun i j b _ _ _ _ _ _ h => by simp [dF] at h, Xlt := hX, Xold := fun b h _ => h
    os:=rfl,tape:=rfl,output:=rfl,drawn:=cT _,grown:=cT _,keep:=λ_ _ _=>rfl,own:=λi b h=>by simp[dF]at h,stay:=λi b h=>absurd h (iO i),kle:=cN _,laid:=λx hx=>⟨(hs.laidW x hx).1,λi h=>by simp[dF]at h⟩ }
def shift(n:Nat):AV->AV
  |.msl i s o l=>.msl (n+i) s o l
  |.mptr i s x o=>.mptr (n+i) s x o
  |.mmap i=>.mmap (n+i)
  |.yld i=>.yld (n+i)
  |.mmapN i m=>.mmapN (n+i) m
  |v=>v
def Gh.join(g:Gh)(n B:Nat)(g':Gh):Gh:=
  { phi:=λj=>if j<n then g.phi j else g'.phi (j-n),psi:=λj=>if j<n then g.psi j else g'.psi (j-n),X:=λb=>g.X b\/(B<=b/\g'.X b) }
theorem Gh.join_phi(g:Gh)(n B:Nat)(g':Gh)(i:Nat):(g.join n B g').phi (n+i)=g'.phi i:=by simp[Gh.join,show ¬n+i<n by omega]
theorem Gh.join_psi(g:Gh)(n B:Nat)(g':Gh)(i:Nat):(g.join n B g').psi (n+i)=g'.psi i:=by simp[Gh.join,show ¬n+i<n by omega]
theorem ARep.shift{g':Gh}{n B:Nat}{w':World}(hX:∀b,g'.X b->b<B->g.X b){x:AV}{v:Value}(h:ARep w' g' x v):ARep w' (g.join n B g') (x.mapRef (TL.shift n)) v:=by
  have hX':∀b,g'.X b->(g.join n B g').X b:=by
    intro b hb;by_cases hlt:b<B;exact .inl (hX b hb hlt);exact .inr ⟨by omega,hb⟩
  refine ARep.mapRef (w:=w') (g:=g') (λd v hd=>hd.mono hX' λ_ _=>rfl) ?_ h;intro x v hx _
  cases hx with
  |msl0=>exact .msl0 _ _ _ _
  |msl id sz off len cap b hb hc hp=>exact .msl _ _ _ _ _ b ((Gh.join_phi ..).trans hb) hc (by rw[Gh.join_psi];exact hp)
  |mptr id sz idx off b hb=>exact .mptr _ _ _ _ b ((Gh.join_phi ..).trans hb)
  |mmap id b hb=>exact .mmap _ b ((Gh.join_phi ..).trans hb)
  |yld id b hb=>exact .yld _ b ((Gh.join_phi ..).trans hb)
  |mmapN0=>exact .mmapN0 _
  |mmapN id n b hb=>exact .mmapN _ _ b ((Gh.join_phi ..).trans hb)
  |d d v hd=>exact .d d v (hd.mono hX' λ_ _=>rfl)
  |_=>contradiction
theorem Sim.after(hs:Sim C st g a w){hp':List Blk}{g':Gh}{w':World}{mv:Nat->Bool}{X:Nat->Prop}(ho:Out ⟨C.P,0,w,0,dF X,mv⟩ hp' g' w')(hX:∀b,g'.X b->b<w.heap.size->g.X b):
    Sim C ⟨st.fr,st.hp++hp'.map (Blk.mapRef (shift st.hp.length))⟩ (g.join st.hp.length w.heap.size g') a w':=by
  have hold:∀b,b<w.heap.size->w'.heap[b]?=w.heap[b]?:=λb hb=>ho.keep b hb λi hi=>absurd hi (iO i)
  have hnew:∀i b,g'.phi i=some b->w.heap.size<=b:=by
    intro i b hp;rcases dB b w.heap.size with hlt|hge
    exact absurd (ho.own i b hp hlt).1 (iO _);exact hge
  have hgr:Grow w g w' (g.join st.hp.length w.heap.size g'):=by
    refine⟨λi b hp=>?_,λi b hp=>?_,λb hb=>.inl hb,λb hb=>hold b (hs.Xlt b hb)⟩;have:=(hs.lt i b hp).2.1;simpa[Gh.join,this]using hp;have:=(hs.lt i b hp).2.1;simp[Gh.join,this]
  have hphi:∀i b,(g.join st.hp.length w.heap.size g').phi i=some b->(i<st.hp.length/\g.phi i=some b)\/(st.hp.length<=i/\g'.phi (i-st.hp.length)=some b):=by
    intro i b hp;by_cases hi:i<st.hp.length;exact .inl ⟨hi,by simpa[Gh.join,hi]using hp⟩;exact .inr ⟨by omega,by simpa[Gh.join,hi]using hp⟩
  have hsz:=ho.grown;simp only at hsz;refine{ defers:=hs.defers,size:=hs.size,fr:=λt=>(hs.fr t).mono hgr,hp:=?_,lt:=?_,inj:=?_,Xlt:=?_,Xold:=?_,os:=ho.os.trans hs.os,tape:=ho.tape.trans hs.tape,output:=ho.output.trans hs.output,drawn:=dQ hs.drawn ho.drawn,grown:=dQ hs.grown hsz,keep:=?_,own:=?_,stay:=?_,kle:=?_,laid:=hs.laid }
  · intro i B hi
    rw[eW]at hi;split at hi;rename_i hlt;exact(hs.hp i B hi).mono hgr (λhn=>by simpa[Gh.join,hlt]using hn) λb hb=>hold b (hs.lt i b hb).1;rename_i hge;simp only[cM,bZ]at hi;obtain⟨B',hB',rfl⟩:=hi
    have hX':∀b,g'.X b->(g.join st.hp.length w.heap.size g').X b:=by
      intro b hb;by_cases hlt:b<w.heap.size;exact .inl (hX b hb hlt);exact .inr ⟨by omega,hb⟩
    refine BRep.mapRef (i:=i-st.hp.length) (g:=g') (by simp[Gh.join,hge]) (by simp[Gh.join,hge]) hX' ?_ (ho.hp _ B' hB');intro x v hx hr;have:=hx.shift (n:=st.hp.length) (g:=g) (B:=w.heap.size) hX;cases x<;>first|exact this|cases hr
  intro i b hp;simp only[kI,lQ];rcases hphi i b hp with⟨hi,hp'⟩|⟨hi,hp'⟩
  have:=hs.lt i b hp';refine⟨by omega,by omega,λhX=>?_⟩;rcases hX with hX|⟨hX,_⟩
  exact this.2.2 hX;omega;have:=ho.lt _ b hp';simp only at this;refine⟨this.1,by omega,λhX=>?_⟩;have hge:=hnew _ b hp';rcases hX with hX|⟨_,hX⟩
  have:=hs.Xlt b hX;omega;exact this.2.2 hX;intro i j b Bi Bj hBi hBj hdi hdj hi hj;rw[eW]at hBi hBj;rcases hphi i b hi with⟨h1,h1'⟩|⟨h1,h1'⟩<;>rcases hphi j b hj with⟨h2,h2'⟩|⟨h2,h2'⟩
  rw[if_pos h1]at hBi;rw[if_pos h2]at hBj;exact hs.inj i j b Bi Bj hBi hBj hdi hdj h1' h2';have:=hnew _ b h2';have:=(hs.lt i b h1').1;omega;have:=hnew _ b h1';have:=(hs.lt j b h2').1;omega;rw [if_neg (by omega)] at hBi hBj;simp only[cM,bZ]at hBi hBj;obtain⟨B1,e1,rfl⟩:=hBi;obtain⟨B2,e2,rfl⟩:=hBj;have:=ho.inj _ _ b B1 B2 e1 e2 (λe=>by subst e;exact hdi rfl) (λe=>by subst e;exact hdj rfl) h1' h2';omega;intro b hb;rcases hb with hb|⟨_,hb⟩
  have:=hs.Xlt b hb;omega;exact ho.Xlt b hb;intro b hb hlt;rcases hb with hb|⟨hge,_⟩
  exact hs.Xold b hb hlt;have:=hs.grown;omega;intro b hb hk;rw[hold b (by have:=hs.grown;omega)];exact hs.keep b hb hk;intro i b hp hb;rcases hphi i b hp with⟨_,hp'⟩|⟨_,hp'⟩
  exact hs.own i b hp' hb;have:=hnew _ b hp';have:=hs.grown;omega;intro i b hi hm hp;have hlt:i<st.hp.length:=by have:=hs.kle;omega
  have:=hs.stay i b hi hm hp;simpa[Gh.join,hlt]using this;have:=hs.kle;simp only[kI,lQ];omega
theorem z8(hs:Sim C st g a w){xs:Array Operand}{ds:List D}(h:wP st.hp (xs.toList.map st.fr.ev) ds){Y:Nat->Prop}(hX:∀b,g.X b->Y b)(hphi:∀i b,g.phi i=some b->Y b):
    Pw (ARep w (dF Y)) (ds.map .d) (xs.map a.eval).toList:=by
  refine⟨by have:=h.1;simpa using this.symm,λi x v hx hv=>?_⟩;simp only[cM,bZ,sD]at hx hv;obtain⟨d,hd,rfl⟩:=hx;obtain⟨y,hy,rfl⟩:=hv;exact .d _ _ (oV hs.hp (h.2 i (st.fr.ev y) d (by simp[hy]) hd) hX hphi (hs.ev y))
theorem ok_callD{o:Oper}{K:St->Prop}{f:Operand}{xs:Array Operand}{ts:Array TypeId}{F:FuncId}{mv:Nat->Bool}(ds:List D)(r:AV)(hp':List Blk)(ho:o.op=.call { callee:=.value f,args:=xs,argTypes:=ts })(hd:kZ C.n o.dst=true)
    (hf:st.fr.ev f=.d (.fn F)) (hx:xs.toList.map st.fr.ev=ds.map .d) (hret:Ret C.P F [] mv (ds.map .d) r hp')
    (hK:K (St.put ⟨st.fr,st.hp++hp'.map (Blk.mapRef (shift st.hp.length))⟩ o.dst (r.mapRef (shift st.hp.length)))):OpOk C o st K:=by
  intro g a w Q hs;have hfv:=hs.ev f;rw[hf]at hfv
  have hargs:Pw (ARep w (dF g.X)) (ds.map .d) (xs.map a.eval).toList:=by
    refine⟨by have:=congrArg List.length hx;simpa using this.symm,λi x v hxi hv=>?_⟩;simp only[sD,cM,bZ]at hv;obtain⟨y,hy,rfl⟩:=hv;have h1:(xs.toList.map st.fr.ev)[i]?=some (st.fr.ev y):=by simp[hy]
    rw[hx,hxi]at h1;cases h1;have h2:=hs.ev y;simp only[cM,bZ]at hxi;obtain⟨d,_,hd⟩:=hxi;rw[<- hd]at h2⊢;cases h2 with|d _ _ h=>exact .d _ _ h
  simp only[Oper.wp,eH ho (co hfv) hret.1,Oper.upon_enter,xr];refine(hret.2 w (dF g.X) _ (D2 hs mv hs.Xlt) hargs).mono ?_;rintro e w' ⟨v,g',rfl,hout,hr⟩;have hX:∀b,g'.X b->b<w.heap.size->g.X b:=λb hb hlt=>hout.Xold b hb hlt;exact⟨_,_,hK,(hs.after hout hX).put' hd (hr.shift hX)⟩
theorem rd_callD{o:Oper}{ev:Operand->AV}{hp:List Blk}{f:Operand}{xs:Array Operand}{ts:Array TypeId}{F:FuncId}{mv:Nat->Bool}(ds:List D)(r:AV)(hp':List Blk)(d:D)(ho:o.op=.call { callee:=.value f,args:=xs,argTypes:=ts })
    (hf:ev f=.d (.fn F)) (hx:xs.toList.map ev=ds.map .d) (hret:Ret C.P F [] mv (ds.map .d) r hp') (hsn:Snap hp' r d):RdOk C o ev hp (.d d):=by
  intro st hhp hag g a w hs Q K' hK;have hfv:=hs.ev f;rw[hag f (by simp[ho,Op.operands,Call.operands]),hf]at hfv
  have hargs:Pw (ARep w (dF g.X)) (ds.map .d) (xs.map a.eval).toList:=by
    refine⟨by have:=congrArg List.length hx;simpa using this.symm,λi x v hxi hv=>?_⟩;simp only[sD,cM,bZ]at hv;obtain⟨y,hy,rfl⟩:=hv;have h1:(xs.toList.map ev)[i]?=some (ev y):=by simp[hy]
    rw[hx,hxi]at h1;cases h1;have h2:=hs.ev y;rw[hag y (by simp only[ho,Op.operands,Call.operands];exact zal9q.2 (.inr (zal10q.1 (dR hy))))]at h2;simp only[cM,bZ]at hxi;obtain⟨d,_,hd⟩:=hxi;rw[<- hd]at h2⊢;cases h2 with|d _ _ h=>exact .d _ _ h
  simp only[Oper.wp,eH ho (co hfv) hret.1,Oper.upon_enter,xr];refine(hret.2 w (dF g.X) _ (D2 hs mv hs.Xlt) hargs).mono ?_;rintro e w' ⟨v,g',rfl,hout,hr⟩;have hX:∀b,g'.X b->b<w.heap.size->g.X b:=λb hb hlt=>hout.Xold b hb hlt;have hold:∀b,b<w.heap.size->w'.heap[b]?=w.heap[b]?:=λb hb=>hout.keep b hb λi hi=>absurd hi (iO i);have hsz:=hout.grown;simp only at hsz
  let g2:Gh:={ g with X:=λb=>g.X b\/(w.heap.size<=b/\b<w'.heap.size) }
  have hgr:Grow w g w' g2:=⟨λ_ _ h=>h,λ_ _ _=>rfl,λ_ h=>.inl h,λb hb=>hold b (hs.Xlt b hb)⟩;refine hK v w' g2 ?_ (.d _ _ (oV (st:=⟨[],hp'⟩) hout.hp hsn (Y:=g2.X) (λb hb=>?_) (λi b hp=>?_) hr))
  refine { defers := hs.defers, size := hs.size, fr := fun t => (hs.fr t).mono hgr, hp := fun i B hB => (hs.hp i B hB).mono hgr id fun b hb => hold b (hs.lt i b hb).1, lt := ?_, inj := hs.inj, Xlt := ?_, Xold := ?_
           os:=hout.os.trans hs.os,tape:=hout.tape.trans hs.tape,output:=hout.output.trans hs.output,drawn:=dQ hs.drawn hout.drawn,grown:=dQ hs.grown hsz,keep:=?_,own:=hs.own,stay:=hs.stay,kle:=hs.kle,laid:=hs.laid }
  · intro i b hp
    have:=hs.lt i b hp;refine⟨by omega,this.2.1,λhX=>?_⟩;rcases hX with hX|⟨hX,_⟩
    exact this.2.2 hX;omega
  intro b hb;rcases hb with hb|⟨_,hb⟩
  have:=hs.Xlt b hb;omega;exact hb;intro b hb hlt;rcases hb with hb|⟨hge,_⟩
  exact hs.Xold b hb hlt;have:=hs.grown;omega;intro b hb hk;rw[hold b (by have:=hs.grown;omega)];exact hs.keep b hb hk;by_cases hlt:b<w.heap.size
  · exact .inl (hX b hb hlt)
  exact .inr ⟨by omega,hout.Xlt b hb⟩;refine .inr ⟨?_,(hout.lt i b hp).1⟩;rcases dB b w.heap.size with hlt|hge
  exact absurd (hout.own i b hp hlt).1 (iO _);exact hge
variable {C:Ctx}{st:St}{g:Gh}{a:Act}{w:World}{P:Program}
theorem spl_get{α:Type}(L:List α)(off:Nat)(cs:List α)(h:off+cs.length<=L.length)(m:Nat):(spl L off cs)[m]?=if m<off then L[m]? else if m<off+cs.length then cs[m-off]? else L[m]?:=by
  simp only[spl,eW,gB,kJ,lG];have hmin:min off L.length=off:=by omega
  rw[hmin];by_cases m1:m<off;simp[m1];rw[if_neg m1,if_neg m1];by_cases m2:m<off+cs.length;rw[if_pos (by omega),if_pos m2];rw [if_neg (by omega), if_neg m2]
  congr 1
  omega
def Bp(d:Nat):Option AV->Option Int
  |none=>some d
  |some (.d (.int _ n))=>some n
  |_=>none
theorem Dm{t e:TypeId}{s by':Nat}(h:sel P t=some (e,s,by'))(w:World)(ad:Option Addr)(len cap:Nat)(lo hi:Option Value)(l r:Nat)
    (hlo:(lo=none/\l=0)\/∃k,lo=some (.int k l)) (hhi:(hi=none/\r=len)\/∃k,hi=some (.int k r)) (h1:l<=r) (h2:r<=cap):
    (Instr.sliceAt t (.slice ad len cap) lo hi none).run P w=.ok (.slice (if cap=l then ad else ad.map (·.add (l*s))) (r-l) (cap-l)) w:=by
  obtain⟨inf,hu,hi',hs,_⟩:=lM h
  have e1:∀k:IntKind,∀(n y:Nat)(c:BoundsCode),n<=y->(Instr.sliceBound (.int k (n:Int)) y c).run P w=.ok n w:=λk n y c hle=>by
    have:=run_sliceBound (P:=P) (w:=w) k (n:Int) y c (by omega) (by omega);simpa using this
  rcases hlo with⟨rfl,rfl⟩|⟨k,rfl⟩<;>rcases hhi with⟨rfl,rfl⟩|⟨k',rfl⟩<;>
    simp[Instr.sliceAt,Instr.slice,run_underlying hu,Instr.sliceBounds,sizeOf,typeInfo,hi',hs,e1,h1,h2]
theorem rd_cut{o:Oper}{ev:Operand->AV}{hp:List Blk}{t e:TypeId}{x:Operand}{lo hi:Option Operand}(sz by':Nat)(es:List D)(l r:Nat)(ho:o.op=.slice t x lo hi none)(hl:sel C.P t=some (e,sz,by'))(hx:ev x=.d (.sl sz es))
    (hlo:Bp 0 (lo.map ev)=some l) (hhi:Bp es.length (hi.map ev)=some r) (h1:l<=r) (h2:r<=es.length):RdOk C o ev hp (.d (.sl sz ((es.drop l).take (r-l)))):=
  RdOk.mk λst hhp hag g a w hs=>by
    have h:=hs.ev x;rw[hag x (by simp[ho,Op.operands]),hx]at h
    have bound:∀(d n:Nat)(q:Option Operand),(∀y,q=some y->y∈o.op.operands)->Bp d (q.map ev)=some (n:Int)->(q.map a.eval=none/\n=d)\/∃k,q.map a.eval=some (.int k n):=by
      intro d n q hq hb
      cases q with
      |none=>simp[Bp]at hb;exact .inl ⟨rfl,by omega⟩
      |some y=>
        have hy:=hs.ev y;rw[hag y (hq y rfl)]at hy;simp only[gO]at hb⊢;unfold Bp at hb;split at hb;rename_i e;cases e;rename_i k m e;rw[aS e]at hy;cases hb;exact .inr ⟨k,by rw[int_inv hy]⟩;cases hb
    have hlo':=bound 0 l lo (λy hy=>by subst hy;simp[ho,Op.operands]) hlo;have hhi':=bound es.length r hi (λy hy=>by subst hy;simp[ho,Op.operands]) hhi;generalize hev:a.eval x=vx at *
    have hrun:∀ad cap,vx=.slice ad es.length cap->es.length<=cap->(execOp a.eval o).run C.P w=.ok (.value (.slice (if cap=l then ad else ad.map (·.add (l*sz))) (r-l) (cap-l))) w:=by
      intro ad cap hv hc;have:=Dm hl w ad es.length cap (lo.map a.eval) (hi.map a.eval) l r hlo' hhi' h1 (by omega);simp only[execOp,ho,hev,hv,Option.map_none,Sem.run_bind,this,Result.andThen_ok,Sem.run_pure]
    have hlen:((es.drop l).take (r-l)).length=r-l:=by simp;omega
    cases h with
    |d _ _ h=>
      cases h with
      |sl0 _ ad cap=>
        simp only[qY]at *;refine⟨_,hrun ad cap rfl (cN _),.d _ _ ?_⟩;have:r-l=0:=by omega
        rw[this];simp only[List.take_zero];exact .sl0 _ _ _
      |sl _ _ ad cap val hX hc hs' h1' hv hr=>
        refine⟨_,hrun (some ad) cap rfl hc,.d _ _ ?_⟩;by_cases he:(es.drop l).take (r-l)=[];have : r - l = 0 := by rw [<- hlen, he]; rfl
        rw[he,this];exact .sl0 _ _ _;have hpos : 0 < r - l := by rw [<- hlen]; exact List.length_pos_iff.2 he
        rw[if_neg (by omega)]
        have hds:∀(i:Nat)(e:D),((es.drop l).take (r-l))[i]?=some e->es[l+i]?=some e:=by
          intro i e he;rw[kJ]at he;split at he
          rwa [lG]at he
          cases he
        have := DRep.sl (w := w) (X := g.X) sz ((es.drop l).take (r - l)) (ad.add (l * sz)) (cap - l) (fun i j => val (l + i) j) (by rw [sB]; exact hX) (by omega) (fun i e he => hs' _ e (hds i e he)) (fun i e j c he hc => h1' _ e j c (hds i e he) hc)
          (λi e j c he hc=>by rw[yM,show l*sz+(i*sz+j)=(l+i)*sz+j by rw[oR];omega];exact hv _ e j c (hds i e he) hc) (λi e j c he hc=>hr _ e j c (hds i e he) hc)
        rw[hlen]at this;exact this
theorem yp{o:Oper}{ev:Operand->AV}{hp:List Blk}{t e:TypeId}{x:Operand}{lo hi:Option Operand}(id sz by' off len l r:Nat)(ho:o.op=.slice t x lo hi none)(hl:sel C.P t=some (e,sz,by'))(hx:ev x=.msl id sz off len)
    (hlo:Bp 0 (lo.map ev)=some l) (hhi:Bp len (hi.map ev)=some r) (h1:l<=r) (h2:r<=len):RdOk C o ev hp (.msl id sz (off+l) (r-l)):=
  RdOk.mk λst hhp hag g a w hs=>by
    have h:=hs.ev x;rw[hag x (by simp[ho,Op.operands]),hx]at h
    have bound:∀(d n:Nat)(q:Option Operand),(∀y,q=some y->y∈o.op.operands)->Bp d (q.map ev)=some (n:Int)->(q.map a.eval=none/\n=d)\/∃k,q.map a.eval=some (.int k n):=by
      intro d n q hq hb
      cases q with
      |none=>simp[Bp]at hb;exact .inl ⟨rfl,by omega⟩
      |some y=>
        have hy:=hs.ev y;rw[hag y (hq y rfl)]at hy;simp only[gO]at hb⊢;unfold Bp at hb;split at hb;rename_i e;cases e;rename_i k m e;rw[aS e]at hy;cases hb;exact .inr ⟨k,by rw[int_inv hy]⟩;cases hb
    have hlo':=bound 0 l lo (λy hy=>by subst hy;simp[ho,Op.operands]) hlo;have hhi':=bound len r hi (λy hy=>by subst hy;simp[ho,Op.operands]) hhi;generalize hev:a.eval x=vx at *
    have hrun:∀ad cap,vx=.slice ad len cap->len<=cap->(execOp a.eval o).run C.P w=.ok (.value (.slice (if cap=l then ad else ad.map (·.add (l*sz))) (r-l) (cap-l))) w:=by
      intro ad cap hv hc;have:=Dm hl w ad len cap (lo.map a.eval) (hi.map a.eval) l r hlo' hhi' h1 (by omega);simp only[execOp,ho,hev,hv,Option.map_none,Sem.run_bind,this,Result.andThen_ok,Sem.run_pure]
    cases h with
    |msl0 _ _ _ ad=>
      refine⟨_,hrun ad 0 rfl (cN _),?_⟩;have e1:l=0:=by omega
      have e2:r=0:=by omega
      subst e1 e2;exact .msl0 _ _ _ _
    |msl _ _ _ _ cap b hb hc hp=>
      refine⟨_,hrun _ cap rfl hc,?_⟩;by_cases hcl:cap=l;have : r - l = 0 := by omega
      have e3:cap-l=0:=by omega
      rw[this,e3];exact .msl0 _ _ _ _;rw[if_neg hcl];simp only[gO,qF,<- Nat.add_mul];exact .msl id sz (off+l) (r-l) (cap-l) b hb (by omega) (by rw[show off+l+(cap-l)=off+cap by omega];exact hp)
variable {C:Ctx}{ops:Array Oper}{l:List Oper}{K:St->Prop}{fr:Fr}{hp:List Blk}{d:Nat}{ty:TypeId}{pos:String}{after:Array Edge}
theorem fH{op:Op}(v:AV)(hd:decide (d<C.n)=true)(hr:RdOk C ⟨some d,op,ty,pos,after,none⟩ fr.ev hp v)(h:bO C ops l ⟨(d,v)::fr,hp⟩ K):bO C ops (⟨some d,op,ty,pos,after,none⟩::l) ⟨fr,hp⟩ K:=
  cU rfl (hr.ok hd h)
theorem s_assign{x:Operand}{v:AV}(hd:decide (d<C.n)=true)(hx:fr.ev x=v)(h:bO C ops l ⟨(d,v)::fr,hp⟩ K):bO C ops (⟨some d,.assign x,ty,pos,after,none⟩::l) ⟨fr,hp⟩ K:=by
  subst hx;exact fH _ hd (eg (.inr rfl)) h
theorem Fe{x:Operand}(ety sz:Nat)(hd:decide (d<C.n)=true)(hx:fr.ev x=.d .nilsl)(h:bO C ops l ⟨(d,.msl hp.length sz 0 0)::fr,hp++[.flat ety sz []]⟩ K):bO C ops (⟨some d,.assign x,ty,pos,after,none⟩::l) ⟨fr,hp⟩ K:=by
  refine s_assign hd hx λg a w hs=>h g a w ?_;have h1:=hs.upgrade d ety sz (by simp[Fr.get]);refine{ h1 with fr:=λt=>?_ };have h2:=h1.fr t;simp only[Fr.get]at h2⊢;split;rename_i e;rw[if_pos e]at h2;exact h2;rename_i e;rw[if_neg e,if_neg e]at h2;exact h2
theorem Dk{t bt:TypeId}{x y:Operand}{id sz idx off s:Nat}{bb:Bool}{es:List D}{e v e':D}(hl:lay C.P t=some (bb,s))(hx:fr.ev x=.mptr id sz idx off)(hy:fr.ev y=.d v)(hs:v.cells.length=s)(hb:hp[id]?=some (.flat bt sz es))(he:es[idx]?=some e)
    (hone:e.one=false\/v.one=true) (hc:off+s<=e.cells.length) (hv:e.upd off v=e') (h:bO C ops l ⟨fr,hp.set id (.flat bt sz (es.set idx e'))⟩ K):bO C ops (⟨none,.store t x y,ty,pos,after,none⟩::l) ⟨fr,hp⟩ K:=by
  subst hv;exact cU rfl (Bx id sz idx off s bb es e v rfl rfl hl hx hy hs hb he hone hc h)
theorem s_alloc{t:TypeId}{z:Value}{cs:List AV}(hd:decide (d<C.n)=true)(hz:(C.P.info? t).bind (·.zero)=some z)(hf:(dV z).flat=true)(hc:(dV z).cells=cs)(h:bO C ops l ⟨(d,.mptr hp.length 0 0 0)::fr,hp++[.box t cs]⟩ K):
    bO C ops (⟨some d,.alloc t,ty,pos,after,none⟩::l) ⟨fr,hp⟩ K:=by
  subst hc;exact cU rfl (ok_alloc z rfl hd hz hf h)
theorem s_box{t:TypeId}{x:Operand}{v:AV}{cs:List AV}(hd:decide (d<C.n)=true)(hx:fr.ev x=v)(hf:v.flat=true)(hc:v.cells=cs)(h:bO C ops l ⟨(d,.mptr hp.length 0 0 0)::fr,hp++[.box t cs]⟩ K):bO C ops (⟨some d,.box t x,ty,pos,after,none⟩::l) ⟨fr,hp⟩ K:=by
  subst hc;exact cU rfl (ok_box v rfl hd hx hf h)
def G9(op:BinOp)(x y:Int):Option Int:=
  match op with
  |.add=>some (x+y)
  |.sub=>some (x-y)
  |.mul=>some (x*y)
  |_=>none
theorem Hj{n:Int}(h:-9223372036854775808<=n/\n<=9223372036854775807):IntKind.i64.wrap n=n:=by rw[IntKind.wrap_i64];omega
theorem qu{t e:TypeId}{x y:Operand}{sz by':Nat}{n:Nat}{z:Value}{zd:D}(hd:decide (d<C.n)=true)(hl:sel C.P t=some (e,sz,by'))(hz:(C.P.info? e).bind (·.zero)=some z)(hzd:dV z=.d zd)(hzs:zd.cells.length=sz)(hx:fr.ev x=.d (.int .i64 n))(hy:fr.ev y=.d (.int .i64 n))
    (hb:by'*n<=281474976710656) (hm:n<=9223372036854775807) (h:bO C ops l ⟨(d,.msl hp.length sz 0 n)::fr,hp++[.flat e sz (List.replicate n zd)]⟩ K):bO C ops (⟨some d,.makeSlice t x y,ty,pos,after,none⟩::l) ⟨fr,hp⟩ K:=
  cU rfl (D5 sz by' n z zd rfl hd hl hz hzd hzs hx hy (by omega) (by rw[<- Int.natCast_mul];omega) (by omega) (by simpa[St.put]using h))
theorem s_lit{t e:TypeId}{parts:Array (Nat×Operand)}{n sz by':Nat}{ds:List D}{z:Value}(xs:List Operand)(hd:decide (d<C.n)=true)(hl:sel C.P t=some (e,sz,by'))(hz:(C.P.info? e).bind (·.zero)=some z)(hp':oG parts xs)(hx:xs.map fr.ev=ds.map AV.d)(hn:ds.length=n)
    (hs:∀d∈ds,d.cells.length=sz) (hsmall:n*sz<=16777216) (h:bO C ops l ⟨(d,.msl hp.length sz 0 n)::fr,hp++[.flat e sz ds]⟩ K):bO C ops (⟨some d,.buildSlice t n parts,ty,pos,after,none⟩::l) ⟨fr,hp⟩ K:=
  cU rfl (By sz by' xs ds z rfl hd hl hz hp' hx hn hs hsmall h)
theorem Dl{t e:TypeId}{x y:Operand}{sz by':Nat}{u:AV}{ds:List D}{z:Value}(hd:decide (d<C.n)=true)(hl:sel C.P t=some (e,sz,by'))(hz:(C.P.info? e).bind (·.zero)=some z)(hzs:z.cells.size=sz)(hx:fr.ev x=.d .nilsl)(hy:fr.ev y=u)(hu:SrcA hp sz ds u)
    (hlen:ds.length*by'<=140737488355328) (hlen':ds.length<=9223372036854775807) (h:bO C ops l ⟨(d,.msl hp.length sz 0 ds.length)::fr,hp++[.flat e sz ds]⟩ K):
    bO C ops (⟨some d,.call { callee:=.builtin .append,args:=#[x,y],argTypes:=#[t,t] },ty,pos,after,none⟩::l) ⟨fr,hp⟩ K:=cU rfl (Bz sz by' u ds z rfl hd hl hz hx hy hu hlen hlen' hzs h)
theorem Ff{t e:TypeId}{x y:Operand}{id sz by' n m:Nat}{u:AV}{es ds es':List D}{z:Value}{fr':Fr}{hp1:List Blk}(hd:decide (d<C.n)=true)(hl:sel C.P t=some (e,sz,by'))(hz:(C.P.info? e).bind (·.zero)=some z)(hzs:z.cells.size=sz)(hx:fr.ev x=.msl id sz 0 n)(hb:hp[id]?=some (.flat e sz es))(hn:n=es.length)(hmv:id<C.k->C.mv id=true)
    (hy:fr.ev y=u) (hu:SrcA hp sz ds u) (hes:es++ds=es') (hm:es.length+ds.length=m) (hlen:m*by'<=140737488355328) (hlen':m<=9223372036854775807) (hfr:Fr.mapRef (purge id) fr=fr') (hhp:hp.map (Blk.mapRef (purge id))=hp1)
    (h:bO C ops l ⟨(d,.msl id sz 0 m)::fr',hp1.set id (.flat e sz es')⟩ K):
    bO C ops (⟨some d,.call { callee:=.builtin .append,args:=#[x,y],argTypes:=#[t,t] },ty,pos,after,none⟩::l) ⟨fr,hp⟩ K:=by
  subst hes hm hfr hhp;exact cU rfl (B3 id sz by' n u es ds z rfl hd hl hz hzs hx hb hn hmv hy hu hlen hlen' h)
theorem kM{f:Operand}{xs:Array Operand}{ts:Array TypeId}{F:FuncId}{mv:Nat->Bool}{ds:List D}{r r':AV}{hp' hp2:List Blk}(hd:decide (d<C.n)=true)(hf:fr.ev f=.d (.fn F))(hx:xs.toList.map fr.ev=ds.map .d)(hret:Ret C.P F [] mv (ds.map .d) r hp')(hr:r.mapRef (shift hp.length)=r')(hh:hp'.map (Blk.mapRef (shift hp.length))=hp2)
    (h:bO C ops l ⟨(d,r')::fr,hp++hp2⟩ K):bO C ops (⟨some d,.call { callee:=.value f,args:=xs,argTypes:=ts },ty,pos,after,none⟩::l) ⟨fr,hp⟩ K:=by
  subst hr hh;exact cU rfl (ok_callD ds r hp' rfl hd hf hx hret h)
variable {C:Ctx}{st:St}{g:Gh}{a:Act}{w:World}
def wr(ws:List (Nat×Blk))(hp:List Blk):List Blk:=ws.foldl (λh p=>h.set p.1 p.2) hp
theorem yW:∀(ws:List (Nat×Blk)) (hp:List Blk),(wr ws hp).length=hp.length
  |[],_=>rfl
  |p::r,hp=>by simp only[wr,xD];rw[<- wr,yW r];simp
def DOk(C:Ctx)(o:Oper)(ev:Operand->AV)(hpn:List Blk)(x:AV)(ws:List (Nat×Blk)):Prop:=
  ∀st:St,HpLe hpn st.hp->(∀p∈ws,p.1<st.hp.length)->(∀p∈ws,hpn[p.1]?=some .dead->st.hp[p.1]?=some .dead)->(∀y∈o.op.operands,st.fr.ev y=ev y)->∀g a w,Sim C st g a w->
    ∀(Q:Exit->Act->World->Prop)(K':Act->World->Prop),(∀v w' g',Sim C ⟨st.fr,wr ws st.hp⟩ g' a w'->ARep w' g' x v->K' (a.put o.dst v) w')->o.wp C.P a w K' Q
theorem RdOk.dok{o:Oper}{ev:Operand->AV}{hp:List Blk}{x:AV}(h:RdOk C o ev hp x):DOk C o ev hp x []:=λst h1 _ _ h2 g a w hs Q K' hK=>h st h1 h2 g a w hs Q K' hK
structure Rec where
  on:Bool
  d:Nat
  x:AV
  rs:List Nat
  ws:List (Nat×Blk)
def k9(fr:Fr)(l:List Rec):Fr:=l.foldl (λf r=>(r.d,r.x)::f) fr
def ba(hp:List Blk)(l:List Rec):List Blk:=l.foldl (λh r=>wr r.ws h) hp
def y4(rs:List Nat)(hp:List Blk):List Blk:=hp.zipIdx.map λp=>if rs.contains p.2 then p.1 else .dead
theorem mask_le{rs:List Nat}{hp:List Blk}{i:Nat}{B:Blk}(h:(y4 rs hp)[i]?=some B)(hd:B≠.dead):i∈rs/\hp[i]?=some B:=by
  simp only[y4,cM,gn,Option.map_map,bZ,Function.comp_def]at h;obtain⟨B',hB',e⟩:=h;simp only[eL]at e;split at e;rename_i hc;subst e;exact⟨by simpa using hc,hB'⟩;exact absurd e.symm hd
def onA(ops:Array Oper)(fr:Fr)(o:Oper):Option Bool:=
  match o.guard with
  |none=>some true
  |some (j,want)=>match (ops[j]?).bind (·.dst)with
    |some t=>match fr.get t with
      |.d (.bool b)=>some (b == want)
      |.und=>some false
      |_=>none
    |none=>none
def ancs(ops:List Oper):List (List Nat):=
  ops.foldl (λacc o=>acc++[(o.after.toList.filter (Region.binds .any ·)).foldl (λs e=>if s.contains e.on then s else(acc.getD e.on []).foldl (λs i=>if s.contains i then s else s++[i]) (s++[e.on])) []]) []
def vG(ops:Array Oper)(o:Oper):List Nat:=
  (o.op.operands.toList.filterMap fun|.tmp t=>some t|_=>none)++(match o.guard with|some (j,_)=>((ops[j]?).bind (·.dst)).toList|none=>[])
def wx(an:List (List Nat))(i j:Nat):Bool:=(an.getD i []).contains j||(an.getD j []).contains i
def gL:List Nat->Bool
  |[]=>true
  |x::r=>!r.contains x&&gL r
def xd(ops:List Oper)(m:Nat)(ds:List Nat)(rw:List (List Nat×List Nat)):Bool:=
  let an:=ancs ops
  ops.zipIdx.all (λp=>p.1.after.toList.all λe=>!Region.binds .any e||decide (e.on<p.2))&&gL ds&&rw.all (λp=>gL p.2)&&
  ((List.range m).all fun j => (List.range m).all fun i => i == j || wx an i j ||
      (!((ops[j]?).any λo=>(vG ops.toArray o).contains (ds.getD i 0))&&!(((rw.getD j ([],[])).1++(rw.getD j ([],[])).2).any λr=>(rw.getD i ([],[])).2.contains r)))&&
  ((List.range ops.length).all λj=>decide (j<m)||(List.range j).all λi=>(an.getD j []).contains i)
def fi(q:Nat)(ops:List Oper)(m:Nat)(ds:List Nat)(rw:List (List Nat×List Nat)):Bool:=
  let an:=ancs ops
  ops.zipIdx.all (λp=>p.1.after.toList.all λe=>!Region.binds .any e||decide (e.on<p.2))&&gL ds&&rw.all (λp=>gL p.2)&&
  ((List.range m).all fun j => (List.range m).all fun i => i == j || wx an i j ||
      (!((ops[j]?).any λo=>(vG ops.toArray o).contains (ds.getD i 0))&&!(((rw.getD j ([],[])).1++(rw.getD j ([],[])).2).any λr=>(rw.getD i ([],[])).2.contains r)))&&
  ((List.range ops.length).all λj=>decide (j<m)||(List.range j).all λi=>(an.getD j []).contains i||(j == m&&i == q))
def pA(r:Rec):List Nat×List Nat:=(r.rs,r.ws.map (·.1))
def DstD(C:Ctx)(o:Oper)(d:Nat)(x y:AV):Prop:=(o.dst=some d/\decide (d<C.n)=true/\x=y)\/(o.dst=none/\x=.junk)
theorem DstD.sim{o:Oper}{d:Nat}{x y:AV}{v:Value}{st:St}{g:Gh}{a:Act}{w:World}(hd:DstD C o d x y)(hs:Sim C st g a w)(hx:ARep w g y v):Sim C ⟨(d,x)::st.fr,st.hp⟩ g (a.put o.dst v) w:=by
  rcases hd with⟨e,hn,rfl⟩|⟨e,rfl⟩
  rw[e];exact hs.put (by simpa using hn) hx;rw[e];refine Sim.forget (st:=st) hs λt=>?_;simp only[Fr.get];split;exact .inr rfl;exact .inl rfl
inductive TDr (C:Ctx) (ops:Array Oper) (K:St->Prop):List Oper->Fr->List Blk->List Rec->Prop
  |tail (l:List Oper) (fr:Fr) (hp:List Blk) (acc:List Rec) (hE:xd ops.toList acc.length (acc.map Rec.d) (acc.map pA)=true) (h:bO C ops l ⟨fr,hp⟩ K):TDr C ops K l fr hp acc
  |tailq (q:Nat) (o oq:Oper) (l:List Oper) (fr:Fr) (hp:List Blk) (acc:List Rec) (dq:Nat) (hE:fi q ops.toList acc.length (acc.map Rec.d) (acc.map pA)=true) (hq:ops.toList[q]?=some oq) (hdq:(acc.map Rec.d)[q]?=some dq) (hws:(acc.map pA)[q]?.map (·.2)=some [])
      (h:bO C ops (o::l) ⟨fr,hp⟩ K) (h2:bO C ops (o::oq::l) ⟨(dq,.junk)::fr,hp⟩ K):TDr C ops K (o::l) fr hp acc
  |step (o:Oper) (l:List Oper) (fr:Fr) (hp:List Blk) (acc:List Rec) (d:Nat) (x:AV) (rs:List Nat) (ws:List (Nat×Blk)) (y:AV) (hd:DstD C o d x y) (hon:onA ops fr o=some true)
      (hw:∀p∈ws,p.1<hp.length/\(hp[p.1]?=some .dead\/p.1∈rs)) (h:DOk C o fr.ev (y4 rs hp) y ws) (hk:TDr C ops K l ((d,x)::fr) (wr ws hp) (acc++[⟨true,d,x,rs,ws⟩])):TDr C ops K (o::l) fr hp acc
  |skip (o:Oper) (l:List Oper) (fr:Fr) (hp:List Blk) (acc:List Rec) (d:Nat) (x:AV) (hd:DstD C o d x .und) (hon:onA ops fr o=some false)
      (hk:TDr C ops K l ((d,x)::fr) hp (acc++[⟨false,d,x,[],[]⟩])):TDr C ops K (o::l) fr hp acc
inductive Anc (ops:List Oper):Nat->Nat->Prop
  |one (j:Nat) (o:Oper) (e:Edge) (ho:ops[j]?=some o) (he:e∈o.after) (hb:Region.binds .any e=true):Anc ops j e.on
  |more (j:Nat) (o:Oper) (e:Edge) (i:Nat) (ho:ops[j]?=some o) (he:e∈o.after) (hb:Region.binds .any e=true) (h:Anc ops e.on i):Anc ops j i
theorem qc{α β:Type}(f:β->α->β)(I:β->Prop):∀(l:List α)(b:β),(∀b x,x∈l->I b->I (f b x))->I b->I (l.foldl f b)
  |[],_,_,h=>h
  |x::r,b,step,h=>qc f I r _ (λb y hy hb=>step b y (by simp[hy]) hb) (step b x (by simp) h)
theorem Jy(ops:List Oper):∀(l pre:List Oper)(acc:List (List Nat)),ops=pre++l->acc.length=pre.length->(∀(j i:Nat),i∈acc.getD j []->Anc ops j i)->
    ∀(j i:Nat),i∈(l.foldl (λacc o=>acc++[(o.after.toList.filter (Region.binds .any ·)).foldl (λs e=>if s.contains e.on then s else(acc.getD e.on []).foldl (λs i=>if s.contains i then s else s++[i]) (s++[e.on])) []]) acc).getD j []->Anc ops j i
  |[],_,acc,_,_,h=>h
  |o::l,pre,acc,ho,hl,h=>by
    simp only[xD];have hoj:ops[pre.length]?=some o:=by rw[ho];simp
    refine Jy ops l (pre++[o]) _ (by rw[ho];simp) (by simp[hl]) ?_;intro j i hi;rw[mV,eW]at hi;split at hi;exact h j i (by rw[mV];exact hi);rename_i hge;by_cases hj:j=acc.length;subst hj;simp only[Nat.sub_self,List.getElem?_cons_zero,rJ]at hi
    have key:∀i∈(o.after.toList.filter (Region.binds .any ·)).foldl (λs e=>if s.contains e.on then s else(acc.getD e.on []).foldl (λs i=>if s.contains i then s else s++[i]) (s++[e.on])) [],Anc ops acc.length i:=by
      refine qc _ (λs=>∀i∈s,Anc ops acc.length i) _ _ ?_ (λi hi=>by simp at hi);intro s e he hs;simp only[List.mem_filter,zal10q]at he;show ∀i∈(if s.contains e.on then s else _),Anc ops acc.length i;split;exact hs;refine qc _ (fun s => ∀ i ∈ s, Anc ops acc.length i) _ _ ?_ ?_
      · intro s' x hx hs'
        show ∀i∈(if s'.contains x then s' else s'++[x]),Anc ops acc.length i;split;exact hs';intro i hi;simp only[qX,zal82q]at hi;rcases hi with hi|rfl
        exact hs' i hi;exact .more _ o e _ (by rw[hl];exact hoj) he.1 he.2 (h e.on i hx)
      intro i hi;simp only[qX,zal82q]at hi;rcases hi with hi|rfl
      exact hs i hi;exact .one _ o e (by rw[hl];exact hoj) he.1 he.2
    exact key i hi;rw [iS (by simp; omega)] at hi;simp at hi
theorem zP(ops:List Oper){j i:Nat}(h:i∈(ancs ops).getD j []):Anc ops j i:=
  Jy ops ops [] [] rfl rfl (λj i h=>by simp at h) j i h
def Cl(ops:List Oper)(S:Nat->Bool):Prop:=∀(i:Nat)(o:Oper),ops[i]?=some o->S i=true->∀e∈o.after,Region.binds .any e=true->S e.on=true
theorem sU{ops:List Oper}{S:Nat->Bool}(hc:Cl ops S){j i:Nat}(h:Anc ops j i):(∀o,ops[j]?=some o->∀e∈o.after,Region.binds .any e=true->S e.on=true)->S i=true:=by
  induction h with
  |one j o e ho he hb=>intro hj;exact hj o ho e he hb
  |more j o e i ho he hb _ ih=>intro hj;exact ih λo' ho'=>hc _ o' ho' (hj o ho e he hb)
structure Part (fr0:Fr) (hp0:List Blk) (recs:List Rec) (S:Nat->Bool) (st:St):Prop where
  put:∀(i:Nat)(r:Rec),recs[i]?=some r->S i=true->st.fr.get r.d=r.x
  old:∀t,(∀(i:Nat)(r:Rec),recs[i]?=some r->S i=true->r.d≠t)->st.fr.get t=fr0.get t
  wput:∀(i:Nat)(r:Rec)(p:Nat×Blk),recs[i]?=some r->S i=true->p∈r.ws->(∀(j:Nat)(s:Rec),recs[j]?=some s->S j=true->i<j->∀q∈s.ws,q.1≠p.1)->st.hp[p.1]?=some p.2
  wold:∀b,(∀(i:Nat)(r:Rec),recs[i]?=some r->S i=true->∀p∈r.ws,p.1≠b)->st.hp[b]?=hp0[b]?
  len:st.hp.length=hp0.length
structure Apart (hp0:List Blk) (recs:List Rec):Prop where
  ds:∀(i j:Nat)(r s:Rec),recs[i]?=some r->recs[j]?=some s->r.d=s.d->i=j
  wn:∀(i:Nat)(r:Rec),recs[i]?=some r->(r.ws.map (·.1)).Nodup
  lt:∀(i:Nat)(r:Rec),recs[i]?=some r->∀p∈r.ws,p.1<hp0.length
theorem xv:∀(ws:List (Nat×Blk)) (hp:List Blk) (b:Nat),(∀p∈ws,p.1<hp.length)->(ws.map (·.1)).Nodup->(∀p∈ws,p.1=b->(wr ws hp)[b]?=some p.2)/\((∀p∈ws,p.1≠b)->(wr ws hp)[b]?=hp[b]?)
  |[],hp,b,_,_=>⟨λp hp'=>by simp at hp',λ_=>rfl⟩
  |q::r,hp,b,hl,hn=>by
    simp only[fX,zal83q]at hn;have ih:=xv r (hp.set q.1 q.2) b (λp hp'=>by simpa using hl p (by simp[hp'])) hn.2;refine⟨λp hp' e=>?_,λh=>?_⟩;simp only[zal72q]at hp';rcases hp' with rfl|hp'
    subst e;show(wr r (hp.set p.1 p.2))[p.1]?=some p.2;rw[ih.2 λq' hq' e=>hn.1 (zal76q.2 ⟨q',hq',e⟩),cG,if_pos rfl,if_pos (hl p (by simp))];exact ih.1 p hp' e;show(wr r (hp.set q.1 q.2))[b]?=hp[b]?;rw[ih.2 λp hp'=>h p (by simp[hp']),cG,if_neg (h q (by simp))]
theorem Part.step{fr0:Fr}{hp0:List Blk}{recs:List Rec}{S:Nat->Bool}(h:Part fr0 hp0 recs S st)(ha:Apart hp0 recs){j:Nat}{r:Rec}(hj:recs[j]?=some r)(hS:S j=false)(hlast:∀(i:Nat)(s:Rec),recs[i]?=some s->S i=true->∀p∈r.ws,∀q∈s.ws,p.1=q.1->i<j){S':Nat->Bool}(hS':∀i,S' i=(S i||i == j)):
    Part fr0 hp0 recs S' ⟨(r.d,r.x)::st.fr,wr r.ws st.hp⟩:=by
  have hin:∀i,S' i=true->S i=true\/i=j:=λi hi=>by rw[hS' i]at hi;simpa using hi
  have hwl:∀p∈r.ws,p.1<st.hp.length:=λp hp=>by rw[h.len];exact ha.lt j r hj p hp
  refine⟨λi s hi hSi=>?_,λt ht=>?_,λi s p hi hSi hp hno=>?_,λb hb=>?_,by rw[yW];exact h.len⟩;simp only[Fr.get];by_cases e:r.d=s.d;have:=ha.ds j i r s hj hi e;subst this;rw[hj]at hi;cases hi;rw[if_pos rfl];rw[if_neg e];rcases hin i hSi with h1|rfl
  exact h.put i s hi h1;rw[hj]at hi;cases hi;exact absurd rfl e;simp only[Fr.get];rw[if_neg (ht j r hj (by rw[hS'];simp))];exact h.old t λi s hi hSi=>ht i s hi (by rw[hS',hSi];rfl);rcases hin i hSi with h1|rfl
  · have hne : ∀ q ∈ r.ws, q.1 ≠ p.1 := fun q hq e => hno j r hj (by rw [hS']; simp) (hlast i s hi h1 q hq p hp e) q hq e
    show(wr r.ws st.hp)[p.1]?=some p.2;rw[(xv r.ws st.hp p.1 hwl (ha.wn j r hj)).2 hne];exact h.wput i s p hi h1 hp λk u hk hSk hik=>hno k u hk (by rw[hS',hSk];rfl) hik
  rw[hj]at hi;cases hi;exact(xv r.ws st.hp p.1 hwl (ha.wn _ r hj)).1 p hp rfl;show(wr r.ws st.hp)[b]?=hp0[b]?;rw[(xv r.ws st.hp b hwl (ha.wn j r hj)).2 λp hp=>hb j r hj (by rw[hS'];simp) p hp];exact h.wold b λi s hi hSi=>hb i s hi (by rw[hS',hSi];rfl)
theorem Part.start(fr0:Fr)(hp0:List Blk)(recs:List Rec){S:Nat->Bool}(hS:∀i,i<recs.length->S i=false):Part fr0 hp0 recs S ⟨fr0,hp0⟩:=
  ⟨λi _ hi h=>absurd ((hS i (zal44q.1 hi).1).symm.trans h) eX,λ_ _=>rfl,λi _ _ hi h _ _=>absurd ((hS i (zal44q.1 hi).1).symm.trans h) eX,λ_ _=>rfl,rfl⟩
theorem Part.text{fr0 : Fr}{hp0 : List Blk}{recs : List Rec}(ha : Apart hp0 recs) : ∀ k, k <= recs.length -> Part fr0 hp0 recs (fun i => decide (i < k)) ⟨k9 fr0 (recs.take k), ba hp0 (recs.take k)⟩
  |0,_=>Part.start fr0 hp0 recs λi _=>by simp
  |k+1,hk=>by
    have ih:=Part.text (fr0:=fr0) ha k (by omega);have hj:recs[k]?=some recs[k]:=eE (by omega)
    have hstep:=ih.step ha hj (by simp) (λi s _ hi p _ q _ _=>of_decide_eq_true hi) (S':=λi=>decide (i<k+1)) λi=>by
      rw[gv];simp;omega
    have htake:recs.take (k+1)=recs.take k++[recs[k]]:=by rw[List.take_succ_eq_append_getElem]
    rw[htake];simp only[k9,ba,List.foldl_append,xD,List.foldl_nil];exact hstep
theorem Part.getEq{fr0:Fr}{hp0:List Blk}{recs:List Rec}{S S':Nat->Bool}{st st':St}(h:Part fr0 hp0 recs S st)(h':Part fr0 hp0 recs S' st')(t:Nat)(hS:∀(i:Nat)(r:Rec),recs[i]?=some r->r.d=t->S i=S' i):st.fr.get t=st'.fr.get t:=by
  by_cases hex:∃(i:Nat)(r:Rec),recs[i]?=some r/\S i=true/\r.d=t;obtain⟨i,r,hi,hSi,rfl⟩:=hex;rw[h.put i r hi hSi,h'.put i r hi (by rw[<- hS i r hi rfl];exact hSi)];rw[h.old t λi r hi hSi e=>hex ⟨i,r,hi,hSi,e⟩,h'.old t λi r hi hSi e=>hex ⟨i,r,hi,by rw[hS i r hi e];exact hSi,e⟩]
theorem vg(recs:List Rec)(S:Nat->Bool)(b:Nat):∀n,(∃(i:Nat)(r:Rec)(p:Nat×Blk),i<n/\recs[i]?=some r/\S i=true/\p∈r.ws/\p.1=b)->
    ∃(i:Nat)(r:Rec)(p:Nat×Blk),recs[i]?=some r/\S i=true/\p∈r.ws/\p.1=b/\∀(j:Nat)(s:Rec),j<n->recs[j]?=some s->S j=true->i<j->∀q∈s.ws,q.1≠b
  |0,⟨i,_,_,hi,_⟩=>absurd hi (iO i)
  |n+1,h=>by
    by_cases hn:∃(r:Rec)(p:Nat×Blk),recs[n]?=some r/\S n=true/\p∈r.ws/\p.1=b;obtain⟨r,p,h1,h2,h3,h4⟩:=hn;exact⟨n,r,p,h1,h2,h3,h4,λj s hj _ _ hij=>by omega⟩
    obtain ⟨i, r, p, h1, h2, h3, h4, h5⟩ := vg recs S b n (by
      obtain⟨i,r,p,h0,h1,h2,h3,h4⟩:=h;refine⟨i,r,p,?_,h1,h2,h3,h4⟩;rcases dB i n with hlt|hge
      exact hlt;have : i = n := by omega
      subst this;exact absurd ⟨r,p,h1,h2,h3,h4⟩ hn)
    refine⟨i,r,p,h1,h2,h3,h4,λj s hj hs hSj hij q hq e=>?_⟩;rcases dB j n with hlt|hge
    exact h5 j s hlt hs hSj hij q hq e;have : j = n := by omega
    subst this;exact hn ⟨s,q,hs,hSj,hq,e⟩
theorem Part.hpEq{fr0:Fr}{hp0:List Blk}{recs:List Rec}{S S':Nat->Bool}{st st':St}(h:Part fr0 hp0 recs S st)(h':Part fr0 hp0 recs S' st')(b:Nat)(hS:∀(i:Nat)(r:Rec)(p:Nat×Blk),recs[i]?=some r->p∈r.ws->p.1=b->S i=S' i):st.hp[b]?=st'.hp[b]?:=by
  by_cases hex:∃(i:Nat)(r:Rec)(p:Nat×Blk),i<recs.length/\recs[i]?=some r/\S i=true/\p∈r.ws/\p.1=b;obtain⟨i,r,p,hi,hSi,hp,rfl,hno⟩:=vg recs S b recs.length hex;rw[h.wput i r p hi hSi hp λj s hj hSj hij=>hno j s (zal44q.1 hj).1 hj hSj hij,h'.wput i r p hi (by rw[<- hS i r p hi hp rfl];exact hSi) hp λj s hj hSj hij q hq e=>hno j s (zal44q.1 hj).1 hj (by rw[hS j s q hj hq e];exact hSj) hij q hq e];have hlt : ∀ {i : Nat} {r : Rec}, recs[i]? = some r -> i < recs.length := fun hi => (zal44q.1 hi).1;rw[h.wold b λi r hi hSi p hp e=>hex ⟨i,r,p,hlt hi,hi,hSi,hp,e⟩,h'.wold b λi r hi hSi p hp e=>hex ⟨i,r,p,hlt hi,hi,by rw[hS i r p hi hp e];exact hSi,hp,e⟩]
theorem Sim.same{st':St}(h:Sim C st g a w)(hf:∀t,st'.fr.get t=st.fr.get t)(hh:st'.hp=st.hp):Sim C st' g a w:=by
  obtain⟨fr',hp'⟩:=st';simp only at hh;subst hh;exact{ h with fr:=λt=>by have:=h.fr t;rw[<- hf t]at this;exact this }
structure Good (C:Ctx) (ops:Array Oper) (fr0:Fr) (hp0:List Blk) (pre:List Rec) (o:Oper) (r:Rec):Prop where
  on:onA ops (k9 fr0 pre) o=some r.on
  yes:r.on=true->(∀p∈r.ws,p.1<(ba hp0 pre).length/\((ba hp0 pre)[p.1]?=some .dead\/p.1∈r.rs))/\∃y,DstD C o r.d r.x y/\DOk C o (k9 fr0 pre).ev (y4 r.rs (ba hp0 pre)) y r.ws
  no:r.on=false->DstD C o r.d r.x .und/\r.ws=[]
structure Edges (ops:List Oper) (recs:List Rec) (q:Option Nat):Prop where
  back:∀(i:Nat)(o:Oper),ops[i]?=some o->∀e∈o.after,Region.binds .any e=true->e.on<i
  slot:∀(i j:Nat)(o:Oper)(r:Rec),ops[j]?=some o->recs[i]?=some r->j<recs.length->i≠j->r.d∈vG ops.toArray o->Anc ops i j\/Anc ops j i
  blk:∀(i j:Nat)(r s:Rec),recs[i]?=some r->recs[j]?=some s->i≠j->∀p∈r.ws,(p.1∈s.rs\/p.1∈s.ws.map (·.1))->Anc ops i j\/Anc ops j i
  last:∀(i j:Nat),j<ops.length->recs.length<=j->i<j->Anc ops j i\/(j=recs.length/\q=some i)
  ds:∀(i j:Nat)(r s:Rec),recs[i]?=some r->recs[j]?=some s->r.d=s.d->i=j
  wn:∀(i:Nat)(r:Rec),recs[i]?=some r->(r.ws.map (·.1)).Nodup
theorem eT:∀{l:List Nat},gL l=true->l.Nodup
  |[],_=>List.nodup_nil
  |x::r,h=>by
    simp only[gL,lH,rB,uZ,decide_eq_false_iff_not]at h;exact zal83q.2 ⟨h.1,eT h.2⟩
theorem tC{ops:List Oper}{i j:Nat}(h:wx (ancs ops) i j=true):Anc ops i j\/Anc ops j i:=by
  simp only[wx,mX,uZ,decide_eq_true_eq]at h;exact h.imp (zP ops) (zP ops)
theorem edges_of{ops:List Oper}{recs:List Rec}(h:xd ops recs.length (recs.map Rec.d) (recs.map pA)=true):Edges ops recs none:=by
  simp only[xd,lH,zal27q,zal81q,mX,beq_iff_eq,rB,decide_eq_true_eq]at h;obtain⟨⟨⟨⟨h1,h2⟩,h3⟩,h4⟩,h5⟩:=h;have hds:=eT h2;have hget:∀(i:Nat)(r:Rec),recs[i]?=some r->(recs.map Rec.d).getD i 0=r.d/\(recs.map pA).getD i ([],[])=pA r:=λi r hi=>by simp[hi]
  refine⟨λi o ho e he hb=>?_,λi j o r ho hr hj hne hm=>?_,λi j r s hr hs hne p hp hm=>?_,λi j hj hm hij=>?_,λi j r s hr hs e=>rZ (x:=r.d) hds (by simp[hr]) (by simp[hs,e]),λi r hr=>eT (h3 (pA r) (zal76q.2 ⟨r,dR hr,rfl⟩))⟩;have := h1 (o, i) (by rw [zal75q]; exact ⟨i, by simp [gn, ho]⟩) e (zal10q.2 he);rcases this with h|h
  rw[hb]at h;cases h;exact h;have hi:i<recs.length:=(zal44q.1 hr).1;rcases h4 j hj i hi with(h|h)|h
  exact absurd h hne;exact tC h;rw[(hget i r hr).1]at h;have:=h.1;simp only[ho,Option.any_some,uZ,decide_eq_false_iff_not]at this;exact absurd hm this;have hi:i<recs.length:=(zal44q.1 hr).1;have hj:j<recs.length:=(zal44q.1 hs).1;rcases h4 j hj i hi with(h|h)|h
  exact absurd h hne;exact tC h;have h6:=h.2;rw[(hget i r hr).2,(hget j s hs).2]at h6;simp only[List.any_eq_false,uZ,decide_eq_true_eq]at h6;refine absurd ?_ (h6 p.1 ?_);simp only[pA,zal76q];exact⟨p,hp,rfl⟩;simp only[pA,qX];exact hm;rcases h5 j hj with h|h
  · omega
  have:=h i hij;simp only[uZ,decide_eq_true_eq]at this;exact .inl (zP ops this)
theorem K2{q:Nat}{ops:List Oper}{recs:List Rec}(h:fi q ops recs.length (recs.map Rec.d) (recs.map pA)=true):Edges ops recs (some q):=by
  simp only[fi,lH,zal27q,zal81q,mX,beq_iff_eq,rB,decide_eq_true_eq]at h;obtain⟨⟨⟨⟨h1,h2⟩,h3⟩,h4⟩,h5⟩:=h;have hds:=eT h2;have hget:∀(i:Nat)(r:Rec),recs[i]?=some r->(recs.map Rec.d).getD i 0=r.d/\(recs.map pA).getD i ([],[])=pA r:=λi r hi=>by simp[hi]
  refine⟨λi o ho e he hb=>?_,λi j o r ho hr hj hne hm=>?_,λi j r s hr hs hne p hp hm=>?_,λi j hj hm hij=>?_,λi j r s hr hs e=>rZ (x:=r.d) hds (by simp[hr]) (by simp[hs,e]),λi r hr=>eT (h3 (pA r) (zal76q.2 ⟨r,dR hr,rfl⟩))⟩;have := h1 (o, i) (by rw [zal75q]; exact ⟨i, by simp [gn, ho]⟩) e (zal10q.2 he);rcases this with h|h
  rw[hb]at h;cases h;exact h;have hi:i<recs.length:=(zal44q.1 hr).1;rcases h4 j hj i hi with(h|h)|h
  exact absurd h hne;exact tC h;rw[(hget i r hr).1]at h;have:=h.1;simp only[ho,Option.any_some,uZ,decide_eq_false_iff_not]at this;exact absurd hm this;have hi:i<recs.length:=(zal44q.1 hr).1;have hj:j<recs.length:=(zal44q.1 hs).1;rcases h4 j hj i hi with(h|h)|h
  exact absurd h hne;exact tC h;have h6:=h.2;rw[(hget i r hr).2,(hget j s hs).2]at h6;simp only[List.any_eq_false,uZ,decide_eq_true_eq]at h6;refine absurd ?_ (h6 p.1 ?_);simp only[pA,zal76q];exact⟨p,hp,rfl⟩;simp only[pA,qX];exact hm;rcases h5 j hj with h|h
  · omega
  rcases h i hij with this|this
  · simp only[uZ,decide_eq_true_eq]at this
    exact .inl (zP ops this)
  exact .inr ⟨this.1,by rw[this.2]⟩
theorem tdr_recs{ops:Array Oper}{K:St->Prop}{fr0:Fr}{hp0:List Blk}{l:List Oper}{fr:Fr}{hp:List Blk}{acc:List Rec}(h:TDr C ops K l fr hp acc):fr=k9 fr0 acc->hp=ba hp0 acc->ops.toList.drop acc.length=l->
    (∀(i:Nat)(r:Rec),acc[i]?=some r->∃o,ops.toList[i]?=some o/\Good C ops fr0 hp0 (acc.take i) o r)->
    ∃recs,(∀(i:Nat)(r:Rec),recs[i]?=some r->∃o,ops.toList[i]?=some o/\Good C ops fr0 hp0 (recs.take i) o r)/\∃q:Option Nat,Edges ops.toList recs q/\bO C ops (ops.toList.drop recs.length) ⟨k9 fr0 recs,ba hp0 recs⟩ K/\(∀q',q=some q'->∃oq dq,q'<recs.length/\ops.toList[q']?=some oq/\(∃r,recs[q']?=some r/\r.d=dq/\r.ws=[])/\∃o l,ops.toList.drop recs.length=o::l/\bO C ops (o::oq::l) ⟨(dq,.junk)::k9 fr0 recs,ba hp0 recs⟩ K):=by
  induction h with
  |tail l fr hp acc hE h=>
    intro e1 e2 e3 hg;refine⟨acc,hg,none,edges_of hE,?_,λq' h=>by cases h⟩;rw[e3,<- e1,<- e2];exact h
  |tailq q o oq l fr hp acc dq hE hq hdq hws h h2=>
    intro e1 e2 e3 hg;refine⟨acc,hg,some q,K2 hE,?_,λq' hq'=>?_⟩;rw[e3,<- e1,<- e2];exact h;cases hq';rw[cM,bZ]at hdq;obtain⟨r,hr,hrd⟩:=hdq;refine⟨oq,dq,(zal44q.1 hr).1,hq,⟨r,hr,hrd,?_⟩,o,l,e3,?_⟩;rw[cM,hr]at hws;simp only[gO,pA,mE,List.map_eq_nil_iff]at hws;exact hws;rw[<- e1,<- e2];exact h2
  |step o l fr hp acc d x rs ws y hd hon hw h hk ih=>
    intro e1 e2 e3 hg
    have ho:ops.toList[acc.length]?=some o:=by
      have:=congrArg (·[0]?) e3;simpa using this
    refine ih (by rw[e1];simp[k9]) (by rw[e2];simp[ba]) ?_ ?_;have:=congrArg (List.drop 1) e3;simpa[pR]using this;intro i r hi;rw[eW]at hi;split at hi;rename_i hlt;obtain⟨o',ho',hG⟩:=hg i r hi;exact⟨o',ho',by rw[xi (by omega)];exact hG⟩;rename_i hge
    have hia:i=acc.length:=by
      rcases dB (i-acc.length) 1 with h1|h1
      omega;rw[iS (by simpa using h1)]at hi;cases hi
    subst hia;simp at hi;subst hi;refine⟨o,ho,?_⟩;rw[xi (cT _),uX];exact⟨by rw[<- e1];exact hon,λ_=>by rw[<- e1,<- e2];exact⟨hw,y,hd,h⟩,λh=>by cases h⟩
  |skip o l fr hp acc d x hd hon hk ih=>
    intro e1 e2 e3 hg
    have ho:ops.toList[acc.length]?=some o:=by
      have:=congrArg (·[0]?) e3;simpa using this
    refine ih (by rw[e1];simp[k9]) (by rw[e2];simp[ba,wr]) ?_ ?_;have:=congrArg (List.drop 1) e3;simpa[pR]using this;intro i r hi;rw[eW]at hi;split at hi;rename_i hlt;obtain⟨o',ho',hG⟩:=hg i r hi;exact⟨o',ho',by rw[xi (by omega)];exact hG⟩;rename_i hge
    have hia:i=acc.length:=by
      rcases dB (i-acc.length) 1 with h1|h1
      omega;rw[iS (by simpa using h1)]at hi;cases hi
    subst hia;simp at hi;subst hi;refine⟨o,ho,?_⟩;rw[xi (cT _),uX];exact⟨by rw[<- e1];exact hon,λh=>(by cases h),λ_=>⟨hd,rfl⟩⟩
variable {C:Ctx}{st:St}{g:Gh}{a:Act}{w:World}
def dC(S:Array Bool):Nat->Bool:=λi=>S.getD i false
theorem sE{listed:Array Bool}{i:Nat}(h:i<listed.size):listed.getD i true=listed.getD i false:=by simp[h]
theorem Bb{P:Program}{ops:Array Oper}{Q:Exit->Act->World->Prop}(m:Nat)(hb:∀(i:Nat)(o:Oper),ops.toList[i]?=some o->∀e∈o.after,Region.binds .any e=true->e.on<i)(hl:∀(k i:Nat),m<=k->k<i->i<ops.size->Anc ops.toList i k):
    ∀(fuel k:Nat)(listed:Array Bool)(a:Act)(w:World),m<=k->k+fuel=ops.size->listed.size=ops.size->(∀i,i<ops.size->listed.getD i false=decide (i<k))->Cl ops.toList (dC listed)->
      wpList P ops Q (ops.toList.drop k) a w->wpAny P .any ops Q fuel listed a w:=by
  intro fuel
  induction fuel with
  |zero=>
    intro k listed a w hmk hk hsz hlist hcl hw
    have hall:Region.ready .any ops listed=[]:=by
      rw[List.eq_nil_iff_forall_not_mem];intro i hi;obtain⟨h0,o,ho,_⟩:=mem_ready.1 hi;have hlt:i<ops.size:=(zal5q.1 ho).1;have:=hlist i hlt;rw[sE (by omega),this]at h0;simp at h0;omega
    refine⟨hall,?_⟩;rw[List.drop_eq_nil_of_le (by simp;omega)]at hw;exact hw
  |succ fuel ih=>
    intro k listed a w hmk hk hsz hlist hcl hw;have hklt:k<ops.size:=by omega
    have hok:ops[k]?=some ops[k]:=xn hklt;have hok':ops.toList[k]?=some ops[k]:=by simp
    have honly:∀i∈Region.ready .any ops listed,i=k:=by
      intro i hi;obtain⟨h0,o,ho,he⟩:=mem_ready.1 hi;have hlt:i<ops.size:=(zal5q.1 ho).1
      have hge:k<=i:=by
        rw[sE (by omega),hlist i hlt]at h0;simpa using h0
      rcases dB k i with hlt'|hge'
      have:=sU hcl (hl k i hmk hlt' hlt) λo' ho' e he' hb=>by
        have:o'=o:=by
          rw[Cc,ho]at ho';exact(aS ho').symm
        subst this;exact he e he' hb
      have hk':=hlist k hklt;simp only[dC]at this;rw[this]at hk';simp at hk';omega
    have hready:k∈Region.ready .any ops listed:=by
      refine mem_ready.2 ⟨by rw[sE (by omega),hlist k hklt];simp,ops[k],hok,λe he hbe=>?_⟩;have hlt:=hb k ops[k] hok' e he hbe;rw[hlist e.on (by omega)];simp[hlt]
    refine⟨λh=>(by rw[h]at hready;cases hready),λi hi=>?_⟩;have hik:=honly i hi;subst hik
    have hdrop:ops.toList.drop i=ops[i]::ops.toList.drop (i+1):=by
      rw[List.drop_eq_getElem_cons (by simpa using hklt)];simp
    rw[hdrop]at hw
    have hnext:∀a w,wpList P ops Q (ops.toList.drop (i+1)) a w->wpAny P .any ops Q fuel (listed.setIfInBounds i true) a w:=λa w h=>by
      refine ih (i+1) _ a w (by omega) (by omega) (by simpa using hsz) (λj hj=>?_) ?_ h;by_cases hji:j=i
      · subst hji;simp[hsz,hklt]
      rw[getD_set_ne false (λe=>hji e.symm),hlist j hj,gv];simp;omega;intro j o ho hj e he hbe;simp only[dC]at hj⊢;by_cases hji:j=i;subst hji;rw[hok']at ho;cases ho;exact getD_set_true (by rw[hlist e.on (by have:=hb j _ hok' e he hbe;omega)];simpa using hb j _ hok' e he hbe);rw [getD_set_ne false (fun e => hji e.symm)] at hj;exact getD_set_true (hcl j o ho hj e he hbe)
    unfold wpOp;rw[hok];unfold wpList at hw;simp only;split;rename_i hwant;rw[if_pos hwant]at hw;exact hw.imp (Oper.wp_mono hnext) id;rename_i hwant;rw[if_neg hwant]at hw;exact hnext _ _ hw
theorem K5{P:Program}{ops:Array Oper}{Q:Exit->Act->World->Prop}(m q:Nat)(oq:Oper)(hqm:q<m)(hmn:m<ops.size)(hoq:ops.toList[q]?=some oq)(hb:∀(i:Nat)(o:Oper),ops.toList[i]?=some o->∀e∈o.after,Region.binds .any e=true->e.on<i)(hl:∀(k i:Nat),m+1<=k->k<i->i<ops.size->Anc ops.toList i k)(hlq:∀i,m<i->i<ops.size->Anc ops.toList i q):
    ∀(fuel:Nat)(listed:Array Bool)(a:Act)(w:World),m+fuel=ops.size->listed.size=ops.size->(∀i,i<ops.size->listed.getD i false=(decide (i<=m)&&!(i == q)))->Cl ops.toList (dC listed)->
      wpList P ops Q (oq::ops.toList.drop (m+1)) a w->wpAny P .any ops Q fuel listed a w:=by
  intro fuel listed a w hk hsz hlist hcl hw
  cases fuel with
  |zero=>omega
  |succ fuel=>
    have hqlt:q<ops.size:=by omega
    have hok:ops[q]?=some oq:=by rw[<- Array.getElem?_toList];exact hoq
    have honly:∀i∈Region.ready .any ops listed,i=q:=by
      intro i hi;obtain⟨h0,o,ho,he⟩:=mem_ready.1 hi;have hlt:i<ops.size:=(zal5q.1 ho).1;rw[sE (by omega),hlist i hlt]at h0;by_cases hiq:i=q;exact hiq
      have hmi:m<i:=by
        simp[hiq]at h0;omega
      have:=sU hcl (hlq i hmi hlt) λo' ho' e he' hbe=>by
        have:o'=o:=by rw[Cc,ho]at ho';exact(aS ho').symm
        subst this;exact he e he' hbe
      have hk':=hlist q hqlt;simp only[dC]at this;rw[this]at hk';simp at hk'
    have hready:q∈Region.ready .any ops listed:=by
      refine mem_ready.2 ⟨by rw[sE (by omega),hlist q hqlt];simp,oq,hok,λe he hbe=>?_⟩;have hlt:=hb q oq hoq e he hbe;rw[hlist e.on (by omega)];simp;omega
    refine⟨λh=>(by rw[h]at hready;cases hready),λi hi=>?_⟩;have hik:=honly i hi;subst hik
    have hnext:∀a w,wpList P ops Q (ops.toList.drop (m+1)) a w->wpAny P .any ops Q fuel (listed.setIfInBounds i true) a w:=λa w h=>by
      refine Bb (m+1) hb hl fuel (m+1) _ a w (cT _) (by omega) (by simpa using hsz) (λj hj=>?_) ?_ h;by_cases hji:j=i
      · subst hji;simp[hsz,hqlt];omega
      rw[getD_set_ne false (λe=>hji e.symm),hlist j hj,gv];simp[hji];omega;intro j o ho hj e he hbe;simp only[dC]at hj⊢;by_cases hji:j=i;subst hji;rw[hoq]at ho;cases ho;have:=hb j _ hoq e he hbe;exact getD_set_true (by rw[hlist e.on (by omega)];simp;omega);rw [getD_set_ne false (fun e => hji e.symm)] at hj;exact getD_set_true (hcl j o ho hj e he hbe)
    unfold wpOp;rw[hok];unfold wpList at hw;simp only;split;rename_i hwant;rw[if_pos hwant]at hw;exact hw.imp (Oper.wp_mono hnext) id;rename_i hwant;rw[if_neg hwant]at hw;exact hnext _ _ hw
def El(S:Nat->Bool):Nat->Nat
  |0=>0
  |n+1=>El S n+if S n then 1 else 0
theorem cnt_le(S:Nat->Bool):∀n,El S n<=n
  |0=>cT _
  |n+1=>by have:=cnt_le S n;simp only[El];split<;>omega
theorem zK{S S':Nat->Bool}:∀n,(∀i,i<n->S i=S' i)->El S n=El S' n
  |0,_=>rfl
  |n+1,h=>by simp only[El,zK n λi hi=>h i (by omega),h n (by omega)]
theorem Ek{S S':Nat->Bool}{j:Nat}:∀n,j<n->S j=false->S' j=true->(∀i,i≠j->S' i=S i)->El S' n=El S n+1
  |n+1,hj,h0,h1,h=>by
    simp only[El];by_cases e:j=n;subst e;rw[zK (S:=S') (S':=S) j λi hi=>h i (by omega),h0,h1];simp;rw [Ek n (by omega) h0 h1 h, h n (fun e' => e e'.symm)];omega
theorem cnt_lt{S:Nat->Bool}{j:Nat}:∀n,j<n->S j=false->El S n<n
  |n+1,hj,h0=>by
    simp only[El];by_cases e:j=n;subst e;have:=cnt_le S j;rw[h0];simp;omega;have:=cnt_lt n (by omega) h0;split<;>omega
theorem zL(m : Nat) : ∀ n, m <= n -> El (fun i => decide (i < m)) n = m
  |0,h=>by simp only[El];omega
  |n+1,h=>by
    simp only[El];by_cases e:m=n+1;subst e;rw[zK (S':=λi=>decide (i<n)) n λi hi=>by rw[gv];simp;omega,zL n n (cT _)];simp;rw[zL m n (by omega)];simp;omega
theorem least{p:Nat->Prop}:∀n,p n->∃k,k<=n/\p k/\∀i,i<k->¬p i
  |0,h=>⟨0,cT _,h,λi hi=>by omega⟩
  |n+1,h=>by
    by_cases hex:∃j,j<=n/\p j;obtain⟨j,hj,hp⟩:=hex;obtain⟨k,hk,h1,h2⟩:=least j hp;exact⟨k,by omega,h1,h2⟩;exact⟨n+1,cT _,h,λi hi hp=>hex ⟨i,by omega,hp⟩⟩
theorem anc_lt{ops:List Oper}(hb:∀(i:Nat)(o:Oper),ops[i]?=some o->∀e∈o.after,Region.binds .any e=true->e.on<i){j i:Nat}(h:Anc ops j i):i<j:=by
  induction h with
  |one j o e ho he hbe=>exact hb j o ho e he hbe
  |more j o e i ho he hbe _ ih=>have:=hb j o ho e he hbe;omega
theorem be{ops:Array Oper}{i t:Nat}{b:Bool}(hs:Sim C st g a w)(ht:(ops[i]?).bind (·.dst)=some t)(hv:st.fr.get t=.d (.bool b)):yielded ops a.tmps i=some b:=by
  have h:=hs.fr t;rw[hv]at h;have h1:=bool_inv h;rw[ql]at h1;unfold yielded;rw[ht]
  cases ho:a.tmps[t]? with
  |none=>rw[ho]at h1;simp[undef]at h1
  |some v=>rw[ho]at h1;simp only[rJ]at h1;subst h1;simp[ho]
theorem Gg(hp:List Blk):∀l:List Rec,(ba hp l).length=hp.length:=by
  intro l
  have:∀(l:List Rec)(h:List Blk),(l.foldl (λh r=>wr r.ws h) h).length=h.length:=by
    intro l
    induction l with
    |nil=>intro h;rfl
    |cons r l ih=>intro h;simp only[xD];rw[ih,yW]
  exact this l hp
theorem any_all{ops:Array Oper}{K:St->Prop}{fr0:Fr}{hp0:List Blk}{recs:List Rec}(hg:∀(i:Nat)(r:Rec),recs[i]?=some r->∃o,ops.toList[i]?=some o/\Good C ops fr0 hp0 (recs.take i) o r)(q:Option Nat)(hE:Edges ops.toList recs q)
    (hT:bO C ops (ops.toList.drop recs.length) ⟨k9 fr0 recs,ba hp0 recs⟩ K) (hT2:∀q',q=some q'->∃oq dq,q'<recs.length/\ops.toList[q']?=some oq/\(∃r,recs[q']?=some r/\r.d=dq/\r.ws=[])/\∃o l,ops.toList.drop recs.length=o::l/\bO C ops (o::oq::l) ⟨(dq,.junk)::k9 fr0 recs,ba hp0 recs⟩ K):
    ∀(fuel:Nat)(listed:Array Bool)(a:Act)(w:World)(st:St)(g:Gh),listed.size=ops.size->Cl ops.toList (dC listed)->(∀i,recs.length<=i->dC listed i=false)->
      El (dC listed) ops.size+fuel=ops.size->Sim C st g a w->Part fr0 hp0 recs (dC listed) st->wpAny C.P .any ops (QN C K) fuel listed a w:=by
  have hm:recs.length<=ops.size:=by
    rcases cy recs.length with h|h
    omega;obtain ⟨o, ho, _⟩ := hg (recs.length - 1) _ (eE (by omega));have:=(zal44q.1 ho).1;simp at this;omega
  have ha:Apart hp0 recs:=⟨hE.ds,hE.wn,λi r hi p hp=>by
    obtain⟨o,_,hG⟩:=hg i r hi
    cases hon:r.on with
    |true=>have:=((hG.yes hon).1 p hp).1;rw[Gg]at this;exact this
    |false=>rw[(hG.no hon).2]at hp;simp at hp⟩
  intro fuel
  induction fuel with
  |zero=>
    intro listed a w st g hsz hcl htl hc hs hp
    have hall:∀i,i<ops.size->dC listed i=true:=λi hi=>by
      cases h:dC listed i with
      |true=>rfl
      |false=>have:=cnt_lt ops.size hi h;omega
    have hmeq:recs.length=ops.size:=by
      rcases dB recs.length ops.size with h|h
      have:=htl recs.length (cT _);rw[hall _ h]at this;cases this;omega
    refine Bb recs.length hE.back (λk i hk hki hi=>(hE.last k i (by simpa using hi) (by omega) hki).resolve_right (λh=>by omega)) 0 recs.length listed a w (cT _) (by omega) hsz (λi hi=>by have:=hall i hi;simp only[dC]at this;rw[this];simp;omega) hcl ?_;have htext:=Part.text (fr0:=fr0) ha recs.length (cT _);rw[uX]at htext;refine hT g a w (hs.same (λt=>(hp.getEq htext t λi r hi _=>?_).symm) (hU λb=>(hp.hpEq htext b λi r p hi _ _=>?_).symm));have:=(zal44q.1 hi).1;rw[hall i (by omega)];simp[this];have:=(zal44q.1 hi).1;rw[hall i (by omega)];simp[this]
  |succ fuel ih=>
    intro listed a w st g hsz hcl htl hc hs hp;by_cases hfull:∀i,i<recs.length->dC listed i=true
    -- the rest goes one by one
    have hS:∀i,i<ops.size->listed.getD i false=decide (i<recs.length):=λi hi=>by
      by_cases h:i<recs.length;have:=hfull i h;simp only[dC]at this;rw[this];simp[h];have:=htl i (by omega);simp only[dC]at this;rw[this];simp[h]
    have hcm:El (dC listed) ops.size=recs.length:=by
      rw[zK (S:=dC listed) (S':=λi=>decide (i<recs.length)) ops.size hS];exact zL _ _ hm
    refine Bb recs.length hE.back (λk i hk hki hi=>(hE.last k i (by simpa using hi) (by omega) hki).resolve_right (λh=>by omega)) (fuel+1) recs.length listed a w (cT _) (by omega) hsz hS hcl ?_;have htext:=Part.text (fr0:=fr0) ha recs.length (cT _);rw[uX]at htext;refine hT g a w (hs.same (λt=>(hp.getEq htext t λi r hi _=>?_).symm) (hU λb=>(hp.hpEq htext b λi r p hi _ _=>?_).symm));have:=(zal44q.1 hi).1;rw[hfull i this];simp[this];have:=(zal44q.1 hi).1;rw[hfull i this];simp[this]
    have hex:∃i,i<recs.length/\dC listed i=false:=by
      refine Classical.byContradiction λh=>hfull λi hi=>?_
      cases hv:dC listed i with
      |true=>rfl
      |false=>exact absurd ⟨i,hi,hv⟩ h
    obtain⟨i0,hi0,hv0⟩:=hex;refine⟨λhnil=>?_,λi hi=>?_⟩
    · -- the first that has not come may come
      obtain⟨k,hk,hk1,hk2⟩:=least (p:=λi=>dC listed i=false) i0 hv0;have hklt:k<ops.size:=by omega
      have hmem:k∈Region.ready .any ops listed:=by
        refine mem_ready.2 ⟨by rw[sE (by omega)];exact hk1,ops[k],xn hklt,λe he hbe=>?_⟩;have:=hE.back k ops[k] (by simp[hklt]) e he hbe;have h1:=hk2 e.on this;simpa[dC]using h1
      rw[hnil]at hmem;cases hmem
    obtain⟨hun,o,ho,he⟩:=mem_ready.1 hi;have hlt:i<ops.size:=(zal5q.1 ho).1;have hun':dC listed i=false:=by rw[sE (by omega)]at hun;exact hun
    have hoL:ops.toList[i]?=some o:=by simpa using ho
    have hedge:∀o',ops.toList[i]?=some o'->∀e∈o'.after,Region.binds .any e=true->dC listed e.on=true:=λo' ho' e he' hb=>by
      rw[hoL]at ho';cases ho';exact he e he' hb
    rcases dB i recs.length with him|hge
    rotate_left
    · -- the first of the rest comes ahead of q
      have hone:∀i1,i1<recs.length->dC listed i1=false->i=recs.length/\q=some i1:=λi1 h1 h2=>by
        rcases hE.last i1 i (by simpa using hlt) hge (by omega)with h|h
        have:=sU hcl h hedge;rw[this]at h2;cases h2;exact h
      obtain⟨him,hqi⟩:=hone i0 hi0 hv0;obtain⟨oq,dq,hq1,hq2,⟨rq,hq3,hq4,hq5⟩,o1,l1,hdr,hTq⟩:=hT2 i0 hqi
      have hothers:∀i1,i1<recs.length->i1≠i0->dC listed i1=true:=λi1 h1 h2=>by
        cases hv:dC listed i1 with
        |true=>rfl
        |false=>
          have:=(hone i1 h1 hv).2;rw[hqi]at this;exact absurd (aS this).symm h2
      have ho1:o1=o/\l1=ops.toList.drop (recs.length+1):=by
        have h1:=congrArg (·[0]?) hdr;have h2:=congrArg (List.drop 1) hdr;simp only[lG,qV,List.getElem?_cons_zero,<- him,hoL]at h1;rw[pR]at h2;exact⟨(aS h1).symm,by simpa using h2.symm⟩
      obtain⟨rfl,rfl⟩:=ho1;have htext:=Part.text (fr0:=fr0) ha recs.length (cT _);rw[uX]at htext
      have hsim:Sim C ⟨(dq,.junk)::k9 fr0 recs,ba hp0 recs⟩ g a w:=by
        have hh:ba hp0 recs=st.hp:=hU λb=>(htext.hpEq hp b λi1 r p h1 hpw hpb=>by
          have h1':=(zal44q.1 h1).1;by_cases e:i1=i0;subst e;rw[hq3]at h1;cases h1;rw[hq5]at hpw;simp at hpw
          rw[hothers i1 h1' e];simp[h1'])
        rw[hh];refine Sim.forget (st:=st) hs λt=>?_;simp only[Fr.get];split;exact .inr rfl;rename_i hne
        exact .inl (htext.getEq hp t λi1 r h1 hd=>by
          have h1':=(zal44q.1 h1).1;by_cases e:i1=i0;subst e;rw[hq3]at h1;cases h1;exact absurd (hq4.symm.trans hd) hne
          rw[hothers i1 h1' e];simp[h1'])
      have hlist:∀j,j<ops.size->(listed.setIfInBounds i true).getD j false=(decide (j<=recs.length)&&!(j == i0)):=λj hj=>by
        by_cases hji:j=i;subst hji;subst him;simp[hsz,hlt];omega;rw [getD_set_ne false (fun e => hji e.symm)];by_cases e:j=i0;subst e;simp only[dC]at hv0;rw[hv0];simp;rcases dB j recs.length with h1|h1
        · have:=hothers j h1 e;simp only[dC]at this;rw[this];simp[e];omega
        have:=htl j h1;simp only[dC]at this;rw[this,gv];simp;omega
      have hnextq:∀a w,wpList C.P ops (QN C K) (oq::ops.toList.drop (recs.length+1)) a w->wpAny C.P .any ops (QN C K) fuel (listed.setIfInBounds i true) a w:=λa w h=>by
        have hcnt:fuel+recs.length=ops.size:=by
          have h1:El (dC listed) ops.size+1=recs.length:=by
            have h2:=Ek (S:=dC listed) (S':=λi=>decide (i<recs.length)) (j:=i0) ops.size (by omega) hv0 (by simp[hi0]) λj hj=>by
              rcases dB j recs.length with h1|h1
              rw[hothers j h1 hj];simp[h1];rw[htl j h1];simp;omega
            rw[zL recs.length ops.size hm]at h2;omega
          omega
        refine K5 recs.length i0 oq hi0 (by omega) hq2 hE.back (λk j hk hkj hj=>(hE.last k j (by simpa using hj) (by omega) hkj).resolve_right (λh=>by omega)) (λj hj hj2=>(hE.last i0 j (by simpa using hj2) (by omega) (by omega)).resolve_right (λh=>by omega)) fuel _ a w (by omega) (by simpa using hsz) hlist ?_ h;intro j o' ho' hj e he' hbe;simp only[dC]at hj⊢;by_cases hji:j=i;subst hji;exact getD_set_true (by have:=hedge o' ho' e he' hbe;simpa only[dC]using this);rw [getD_set_ne false (fun e => hji e.symm)] at hj;exact getD_set_true (hcl j o' ho' hj e he' hbe)
      have hw:=hTq g a w hsim;unfold wpOp;rw[ho];unfold wpList at hw;simp only;split;rename_i hwant;rw[if_pos hwant]at hw;exact hw.imp (Oper.wp_mono hnextq) id;rename_i hwant;rw[if_neg hwant]at hw;exact hnextq _ _ hw
    have hri:recs[i]?=some recs[i]:=eE him;obtain⟨o',ho',hG⟩:=hg i _ hri;rw[hoL]at ho';cases ho';have htext:=Part.text (fr0:=fr0) ha i (by omega)
    have hrel:∀j,j≠i->(Anc ops.toList j i\/Anc ops.toList i j)->dC listed j=decide (j<i):=by
      intro j hji h;rcases h with h|h
      have hlt':=anc_lt hE.back h
      cases hv:dC listed j with
      |false=>simp;omega
      |true=>
        have:=sU hcl h λo' ho' e he' hb=>hcl j o' ho' hv e he' hb;rw[this]at hun';cases hun'
      have hlt':=anc_lt hE.back h;rw[sU hcl h hedge];simp[hlt']
    have hslot:∀t,t∈vG ops o->st.fr.get t=(k9 fr0 (recs.take i)).get t:=by
      intro t ht;refine hp.getEq htext t λj r hj hd=>?_;by_cases hji:j=i;subst hji;rw[hun'];simp;exact hrel j hji (hE.slot j i o r hoL hj him hji (by rw[hd];simpa using ht))
    have hblk:∀b,(b∈recs[i].rs\/b∈recs[i].ws.map (·.1))->st.hp[b]?=(ba hp0 (recs.take i))[b]?:=by
      intro b hb;refine hp.hpEq htext b λj r p hj hpw hpb=>?_;by_cases hji:j=i;subst hji;rw[hun'];simp;exact hrel j hji (hE.blk j i r _ hj hri hji p hpw (by rw[hpb];exact hb))
    have hnext:∀(st':St)(g':Gh)(a':Act)(w':World),Sim C st' g' a' w'->st'=⟨(recs[i].d,recs[i].x)::st.fr,wr recs[i].ws st.hp⟩->wpAny C.P .any ops (QN C K) fuel (listed.setIfInBounds i true) a' w':=by
      intro st' g' a' w' hs' hst;subst hst
      have hset:∀j,dC (listed.setIfInBounds i true) j=(dC listed j||j == i):=by
        intro j;simp only[dC];by_cases hji:j=i;subst hji;simp[hsz,hlt];rw[getD_set_ne false (λe=>hji e.symm)];simp[hji]
      refine ih _ a' w' _ g' (by simpa using hsz) ?_ ?_ ?_ hs' (hp.step ha hri hun' (λk s hk hSk p hpp q hq e=>?_) hset);intro j o' ho' hj e he' hbe;rw[hset]at hj⊢;by_cases hji:j=i;subst hji;rw[hedge o' ho' e he' hbe];rfl;simp only[beq_eq_false_iff_ne.2 hji,Bool.or_false]at hj;rw[hcl j o' ho' hj e he' hbe];rfl;intro j hj;rw[hset,htl j hj];simp;omega;have := Ek (S := dC listed) (S' := dC (listed.setIfInBounds i true)) ops.size hlt hun' (by rw [hset]; simp) fun j hj => by rw [hset]; simp [hj]
      omega;have hki : k ≠ i := fun h => by subst h; rw [hun'] at hSk; cases hSk
      have:=hrel k hki (hE.blk k i s _ hk hri hki q hq (.inr (zal76q.2 ⟨p,hpp,e⟩)));rw[hSk]at this;exact of_decide_eq_true this.symm
    unfold wpOp;rw[ho];simp only
    have hwant:Region.wanted o (yielded ops a.tmps)=recs[i].on:=by
      have hon:=hG.on;unfold onA at hon;unfold Region.wanted;split at hon;rename_i hgd;rw[hgd];exact aS hon;rename_i j want hgd;rw[hgd];simp only;split at hon;rename_i t ht;have htm:t∈vG ops o:=by simp[vG,hgd,ht]
      rw[<- hslot t htm]at hon;split at hon;rename_i b hv;rw[be hs ht hv];have:=aS hon;rw[<- this];simp;rename_i hv;rw[qo hs ht hv];have:=aS hon;rw[<- this];simp;cases hon;cases hon
    cases hon:recs[i].on with
    |true=>
      rw[if_pos (by rw[hwant,hon])];left;obtain⟨hw,y0,hdst,hD⟩:=hG.yes hon;refine hD st (λb B hb hd=>?_) (λp hp'=>?_) (λp hp' hdead=>?_) (λy hy=>?_) g a w hs _ _ λv w' g' hs' hx=>hnext _ _ _ _ (hdst.sim hs' hx) rfl;obtain⟨h1,h2⟩:=mask_le hb hd;rw[hblk b (.inl h1)];exact h2;rw[hp.len];exact ha.lt i _ hri p hp';rw[hblk p.1 (.inr (zal76q.2 ⟨p,hp',rfl⟩))];rcases (hw p hp').2 with h|h
      exact h;have hlt':=(hw p hp').1;simp only[y4,cM,gn,Option.map_map,bZ,Function.comp_def]at hdead;obtain⟨B',hB',e⟩:=hdead;simp only[eL,uZ,h,decide_true,if_true]at e;rw[hB',e]
      cases y with
      |tmp t=>
        simp only[Fr.ev];refine hslot t ?_;simp only[vG,qX,List.mem_filterMap];exact .inl ⟨.tmp t,by simpa using hy,rfl⟩
      |_=>rfl
    |false=>
      rw[if_neg (by rw[hwant,hon];exact eX)];obtain⟨hdst,hws⟩:=hG.no hon;refine hnext ⟨(recs[i].d,recs[i].x)::st.fr,st.hp⟩ g _ w ?_ (by rw[hws];rfl);exact hdst.sim hs .und
theorem yc{id:Nat}{ops:Array Oper}{Q:Exit->St->Prop}(hm:C.P.follows .mixedOrders=true)(h:TDr C ops (Q .normal) ops.toList st.fr st.hp []):TWp C (.region id ops true) st Q:=λg a w hs=>by
  have hs':Sim C st g a w.drew:=hs.drew;obtain⟨recs,hg,q,hE,hT,hT2⟩:=tdr_recs (fr0:=st.fr) (hp0:=st.hp) h rfl rfl rfl λi r hi=>by simp at hi
  have hnone:∀i,dC (Array.replicate ops.size false) i=false:=λi=>by simp only[dC];rw[ql,Array.getElem?_replicate];split<;>rfl
  have hz:∀n,El (dC (Array.replicate ops.size false)) n=0:=λn=>by
    induction n with
    |zero=>rfl
    |succ n ih=>simp only[El,ih,hnone];rfl
  have hall:=any_all hg q hE hT hT2 ops.size (Array.replicate ops.size false) a w.drew st g (by simp) (λi o ho hi=>absurd ((hnone i).symm.trans hi) eX) (λi _=>hnone i) (by rw[hz];omega) hs' (Part.start _ _ _ λi _=>hnone i);refine Go.wp_mono (wp_region_any hm hall) ?_;intro e a' w' hq
  cases e with
  |normal=>exact hq
  |_=>exact hq.elim
theorem E3{id:Nat}{ops:Array Oper}{y:Code}{Q:Exit->St->Prop}(hm:C.P.follows .mixedOrders=true)(h:TDr C ops (λst'=>TWp C y st' Q) ops.toList st.fr st.hp []):TWp C (.seq (.region id ops true) y) st Q:=TQ (yc hm h)
end Go.TL
namespace Go.TL
open Go.ChangeShapes Go.WideShapes Go.RowKit Go.Deep
variable {P:Program}
def bA(P:Program)(e:TypeId)(cs:List D):D:=
  match P.underlying e with
  |some (.struct _)=>.agg cs
  |some (.array _ _)=>.agg cs
  |_=>cs.headD .nilsl
inductive HasTy (P:Program):TypeId->List D->Prop
  |bool (t:TypeId) (ht:P.underlying t=some .bool) (b:Bool):HasTy P t [.bool b]
  |int (t:TypeId) (k:IntKind) (ht:P.underlying t=some (.int k)) (n:Int) (h:k.min<=n/\n<=k.max):HasTy P t [.int k n]
  |str (t:TypeId) (ht:P.underlying t=some .string) (s:ByteArray) (h:s.size<=reachBytes):HasTy P t [.str s]
  |sl (t e:TypeId) (ht:P.underlying t=some (.slice e)) (css:List (List D)) (hl:css.length<=reachBytes) (h0:∀cs∈css,cs.length=P.cellsOf e) (h:∀cs∈css,HasTy P e cs):HasTy P t [.sl (P.cellsOf e) (css.map (bA P e))]
  |struct (t:TypeId) (fs:Array Field) (ht:P.underlying t=some (.struct fs)) (cs:List D) (hl:cs.length=P.cellsOf t) (h:∀(i:Nat)(f:Field),fs[i]?=some f->HasTy P f.type ((cs.drop f.offset).take (P.cellsOf f.type))):HasTy P t cs
theorem HasTy.bool_inv{t:TypeId}{cs:List D}(h:HasTy P t cs)(ht:P.underlying t=some .bool):∃b,cs=[.bool b]:=by
  cases h with
  |bool _ _ b=>exact⟨b,rfl⟩
  |int _ _ h=>rw[ht]at h;cases h
  |str _ h=>rw[ht]at h;cases h
  |sl _ _ h=>rw[ht]at h;cases h
  |struct _ _ h=>rw[ht]at h;cases h
theorem HasTy.int_inv{t:TypeId}{k:IntKind}{cs:List D}(h:HasTy P t cs)(ht:P.underlying t=some (.int k)):∃n,cs=[.int k n]/\k.min<=n/\n<=k.max:=by
  cases h with
  |bool _ h=>rw[ht]at h;cases h
  |int _ _ h n hn=>rw[ht]at h;cases h;exact⟨n,rfl,hn.1,hn.2⟩
  |str _ h=>rw[ht]at h;cases h
  |sl _ _ h=>rw[ht]at h;cases h
  |struct _ _ h=>rw[ht]at h;cases h
theorem HasTy.str_inv{t:TypeId}{cs:List D}(h:HasTy P t cs)(ht:P.underlying t=some .string):∃s,cs=[.str s]/\s.size<=reachBytes:=by
  cases h with
  |bool _ h=>rw[ht]at h;cases h
  |int _ _ h=>rw[ht]at h;cases h
  |str _ h s hs=>exact⟨s,rfl,hs⟩
  |sl _ _ h=>rw[ht]at h;cases h
  |struct _ _ h=>rw[ht]at h;cases h
theorem HasTy.sl_inv{t e:TypeId}{cs:List D}(h:HasTy P t cs)(ht:P.underlying t=some (.slice e)):∃css:List (List D),cs=[.sl (P.cellsOf e) (css.map (bA P e))]/\css.length<=reachBytes/\(∀cs∈css,cs.length=P.cellsOf e)/\∀cs∈css,HasTy P e cs:=by
  cases h with
  |bool _ h=>rw[ht]at h;cases h
  |int _ _ h=>rw[ht]at h;cases h
  |str _ h=>rw[ht]at h;cases h
  |sl _ _ h css h1 h2 h3=>rw[ht]at h;cases h;exact⟨css,rfl,h1,h2,h3⟩
  |struct _ _ h=>rw[ht]at h;cases h
theorem HasTy.struct_inv{t:TypeId}{fs:Array Field}{cs:List D}(h:HasTy P t cs)(ht:P.underlying t=some (.struct fs)):cs.length=P.cellsOf t/\∀(i:Nat)(f:Field),fs[i]?=some f->HasTy P f.type ((cs.drop f.offset).take (P.cellsOf f.type)):=by
  cases h with
  |bool _ h=>rw[ht]at h;cases h
  |int _ _ h=>rw[ht]at h;cases h
  |str _ h=>rw[ht]at h;cases h
  |sl _ _ h=>rw[ht]at h;cases h
  |struct _ _ h _ h1 h2=>rw[ht]at h;cases h;exact⟨h1,h2⟩
theorem Ji{α:Type}{e:TypeId}(enc:α->D)(wf:α->Prop)(hinv:∀cs,cs.length=P.cellsOf e->HasTy P e cs->∃x,wf x/\bA P e cs=enc x):∀css:List (List D),(∀cs∈css,cs.length=P.cellsOf e)->(∀cs∈css,HasTy P e cs)->
    ∃xs:List α,xs.length=css.length/\(∀x∈xs,wf x)/\css.map (bA P e)=xs.map enc
  |[],_,_=>⟨[],rfl,λx hx=>by simp at hx,rfl⟩
  |cs::r,h0,h=>by
    obtain⟨x,hx,he⟩:=hinv cs (h0 cs (by simp)) (h cs (by simp));obtain⟨xs,h1,h2,h3⟩:=Ji enc wf hinv r (λc hc=>h0 c (by simp[hc])) (λc hc=>h c (by simp[hc]));refine⟨x::xs,by simp[h1],λy hy=>?_,by simp[he,h3]⟩;simp only[zal72q]at hy;rcases hy with rfl|hy
    exact hx;exact h2 y hy
theorem HasTy.list{α:Type}{t e:TypeId}{cs:List D}(h:HasTy P t cs)(ht:P.underlying t=some (.slice e))(enc:α->D)(wf:α->Prop)(hinv:∀cs,cs.length=P.cellsOf e->HasTy P e cs->∃x,wf x/\bA P e cs=enc x):
    ∃xs:List α,cs=[.sl (P.cellsOf e) (xs.map enc)]/\xs.length<=reachBytes/\∀x∈xs,wf x:=by
  obtain⟨css,rfl,h1,h2,h3⟩:=h.sl_inv ht;obtain⟨xs,e1,e2,e3⟩:=Ji enc wf hinv css h2 h3;exact⟨xs,by rw[e3],by omega,e2⟩
def sF(P:Program):List Field->Nat->Nat->Bool
  |[],o,n=>o == n
  |f::r,o,n=>f.offset == o&&sF P r (o+P.cellsOf f.type) n
def D0(P:Program)(S:List TypeId)(t:TypeId):Bool:=
  match P.underlying t with
  |some .bool=>true
  |some (.int _)=>true
  |some .string=>true
  |some (.slice e)=>S.contains e&&decide (0<P.cellsOf e/\0<P.bytesOf e)&&(match P.underlying e with|some (.struct _)=>true|some (.array _ _)=>true|_=>P.cellsOf e == 1)
  |some (.struct fs)=>sF P fs.toList 0 (P.cellsOf t)&&fs.toList.all λf=>S.contains f.type
  |_=>false
def ep(P:Program)(S:List TypeId):Bool:=S.all (D0 P S)
variable {H:Type}{enc:TypeId×Value->H}{w:World}{base:Nat}{spare:Nat->Bool}{held:Bool}
theorem qp{P:Program}{e:TypeId}:∀{l:List (DataW H)} {d:DataW H},d∈l->∀n∈d.weights P e,n∈DataW.weightsAll P e l
  |x::r,d,hd,n,hn=>by
    simp only[DataW.weightsAll,qX];simp only[zal72q]at hd;rcases hd with rfl|hd
    exact .inl hn;exact .inr (qp hd n hn)
  |[],_,hd,_,_=>by simp at hd
end Go.TL
namespace Go.TL
open Go.ChangeShapes Go.WideShapes Go.RowKit Go.Deep Go.ChangeAt
def Bn(P:Program):List TypeId->List D->Prop
  |[],[]=>True
  |t::ts,d::ds=>(∃cs,cs.length=P.cellsOf t/\HasTy P t cs/\d=bA P t cs)/\Bn P ts ds
  |_,_=>False
def D1(P:Program)(S:List TypeId)(t:TypeId):Bool:=
  S.contains t&&(match P.underlying t with|some (.struct _)=>true|some (.array _ _)=>true|_=>P.cellsOf t == 1)
theorem HasTy.length{P:Program}{t:TypeId}{cs:List D}(h:HasTy P t cs)(h1:(match P.underlying t with|some (.struct _)=>true|some (.array _ _)=>true|_=>P.cellsOf t == 1)=true):cs.length=P.cellsOf t:=by
  cases h with
  |bool _ ht b=>rw[ht]at h1;exact(show P.cellsOf t=1 by simpa using h1).symm
  |int _ _ ht=>rw[ht]at h1;exact(show P.cellsOf t=1 by simpa using h1).symm
  |str _ ht=>rw[ht]at h1;exact(show P.cellsOf t=1 by simpa using h1).symm
  |sl _ _ ht=>rw[ht]at h1;exact(show P.cellsOf t=1 by simpa using h1).symm
  |struct _ _ ht _ hl=>exact hl
variable {P:Program}{H:Type}{enc:TypeId×Value->H}{w:World}
theorem bf(hl : laidOutB P = true){W W' : World}(hb : Below W.heap.size W W') : ∀ {ts : List TypeId} {vs : List Value} {ds : List (DataW H)} {ps : List MemPlace}, (∀ t ∈ ts, P.readableRec t = true /\ t < P.types.size) -> (∀ x ∈ ps, x.block < W.heap.size) -> DataW.TrodAll enc P W 0 (fun _ => true) true ts vs ds ps ->
    DataW.TrodAll enc P W' 0 (λb=>decide (b<W.heap.size)) true ts vs ds ps
  |[],[],[],_,_,_,h=>h
  |t::ts,v::vs,d::ds,ps,hp,hlt,h=>by
    obtain⟨p,q,h1,h2,rfl⟩:=h;exact⟨p,q,Below.trod hl (hp t (by simp)).1 (hp t (by simp)).2 h1 hb λx hx=>hlt x (by simp[hx]),bf hl hb (λt ht=>hp t (by simp[ht])) (λx hx=>hlt x (by simp[hx])) h2,rfl⟩
  |[],_::_,_,_,_,_,h=>by simp[DataW.TrodAll]at h
  |[],[],_::_,_,_,_,h=>by simp[DataW.TrodAll]at h
  |_::_,[],_,_,_,_,h=>by simp[DataW.TrodAll]at h
  |_::_,_::_,[],_,_,_,h=>by simp[DataW.TrodAll]at h
def F7(P:Program)(S:List TypeId)(fn:Func):Bool:=
  ep P S && fn.params.toList.all (fun t => D1 P S t && P.readableRec t && decide (t < P.types.size)) &&
    (match fn.resultTypes.toList with|[tb]=>(match P.underlying tb with|some .bool=>true|_=>false)|_=>false)
mutual
def D.bulk:D->Nat
  |.str s=>s.size+1
  |.agg cs=>D.bulks cs+1
  |.sl _ es=>D.bulks es+1
  |_=>1
def D.bulks:List D->Nat
  |[]=>0
  |d::r=>d.bulk+D.bulks r
end
mutual
def eU{H:Type}:DataW H->Nat
  |.lit (.string bytes)=>bytes.length+1
  |.lit _=>1
  |.nil=>1
  |.ptr d=>eU d+1
  |.slice elems spare=>qE elems+qE spare+1
  |.agg parts=>qE parts+1
  |.iface _ d=>eU d+1
  |.map entries=>zv entries+1
  |.held _=>1
def qE{H:Type}:List (DataW H)->Nat
  |[]=>0
  |d::r=>eU d+qE r
def zv{H:Type}:List (Lit×DataW H)->Nat
  |[]=>0
  |x::r=>yL x+zv r
def yL{H:Type}:Lit×DataW H->Nat
  |(.string bytes,d)=>bytes.length+eU d+1
  |(_,d)=>eU d+1
end
theorem D.bulks_append:∀(a b:List D),D.bulks (a++b)=D.bulks a+D.bulks b
  |[],b=>by simp[D.bulks]
  |x::a,b=>by simp[D.bulks,D.bulks_append a b];omega
theorem qD{H:Type}(d:DataW H):1<=eU d:=by
  cases d with
  |lit l=>cases l<;>simp[eU]
  |nil=>simp[eU]
  |ptr d=>simp[eU]
  |slice elems spare=>simp[eU]
  |agg parts=>simp[eU]
  |iface t d=>simp[eU]
  |map entries=>simp[eU]
  |held h=>simp[eU]
variable {P:Program}{H:Type}{enc:TypeId×Value->H}{w:World}{base:Nat}{spare:Nat->Bool}{held:Bool}
theorem cv:∀(l:List (DataW H)),qE l=(l.map eU).sum
  |[]=>by simp[qE]
  |d::r=>by simp[qE,cv r]
theorem G5:∀(ds:List D)(bs:List Nat),ds.length=bs.length->(∀(i:Nat)(d:D)(b:Nat),ds[i]?=some d->bs[i]?=some b->d.bulk<=b)->D.bulks ds<=bs.sum
  |[],_,_,_=>by simp[D.bulks]
  |d::ds,[],h,_=>by simp at h
  |d::ds,b::bs,h,hb=>by
    have h1:=hb 0 d b rfl rfl;have h2:=G5 ds bs (by simpa using h) λi d b hd hb'=>hb (i+1) d b (by simpa using hd) (by simpa using hb');simp only[D.bulks,List.sum_cons];omega
theorem tilesB{cs : List Value}(S : List TypeId)(m : Nat)(ok : ∀ f : Field, f.type ∈ S -> ∀ (cs : List Value) (x : DataW H × List MemPlace), DataW.trod enc P w base spare held m f.type cs = some x -> (∀ n ∈ x.1.weights P f.type, n <= reachBytes) ->
      ∃ds,HasTy P f.type ds/\Pw (DRep w (·<w.heap.size)) ds cs/\(∀d∈ds,d.one=true)/\D.bulks ds<=eU x.1) (tot:Nat) (hcs:cs.length=tot):
    ∀(fs:List Field)(bs:List Nat)(o:Nat),fs.length=bs.length->sF P fs o tot=true->(∀f∈fs,f.type∈S)->(∀(i:Nat)(f:Field)(b:Nat),fs[i]?=some f->bs[i]?=some b->∃x,DataW.trod enc P w base spare held m f.type ((cs.drop f.offset).take (P.cellsOf f.type))=some x/\(∀n∈x.1.weights P f.type,n<=reachBytes)/\eU x.1<=b)->o<=tot->
      ∃ds,Pw (DRep w (·<w.heap.size)) ds (cs.drop o)/\(∀d∈ds,d.one=true)/\D.bulks ds<=bs.sum/\∀f∈fs,o<=f.offset/\HasTy P f.type ((ds.drop (f.offset-o)).take (P.cellsOf f.type))
  |[],_,o,_,ht,_,_,_=>by
    simp only[sF,beq_iff_eq]at ht;refine⟨[],⟨by simp;omega,λi x y hx=>by simp at hx⟩,λd hd=>by simp at hd,by simp[D.bulks],λf hf=>by simp at hf⟩
  |f::r,[],o,hbl,_,_,_,_=>by simp at hbl
  |f::r,b::bs,o,hbl,ht,hp,hx,hle=>by
    simp only[sF,lH,beq_iff_eq]at ht;obtain⟨x,hfx,hwx,hbx⟩:=hx 0 f b rfl rfl;obtain⟨d1,t1,p1,o1,b1⟩:=ok f (hp f (by simp)) _ x hfx hwx
    have hle':o+P.cellsOf f.type<=tot:=by
      have:∀(l:List Field)(k:Nat),sF P l k tot=true->k<=tot:=by
        intro l
        induction l with
        |nil=>intro k h;simp only[sF,beq_iff_eq]at h;omega
        |cons g l ih=>intro k h;simp only[sF,lH,beq_iff_eq]at h;have:=ih _ h.2;omega
      exact this r _ ht.2
    obtain⟨d2,p2,o2,b2,t2⟩:=tilesB S m ok tot hcs r bs (o+P.cellsOf f.type) (by simpa using hbl) ht.2 (λg hg=>hp g (by simp[hg])) (λi g b hg hb=>hx (i+1) g b (by simpa using hg) (by simpa using hb)) hle';have hl1:d1.length=P.cellsOf f.type:=by have:=p1.1;simp at this;omega
    have hsplit:cs.drop o=(cs.drop o).take (P.cellsOf f.type)++cs.drop (o+P.cellsOf f.type):=by
      rw[<- List.drop_drop,Hf]
    refine⟨d1++d2,?_,λd hd=>?_,by rw[D.bulks_append,List.sum_cons];omega,λg hg=>?_⟩;rw[hsplit];rw[ht.1]at p1;exact p1.append p2;simp only[qX]at hd;rcases hd with hd|hd
    exact o1 d hd;exact o2 d hd;simp only[zal72q]at hg;rcases hg with rfl|hg
    refine ⟨by omega, ?_⟩;rw[ht.1,Nat.sub_self,List.drop_zero,xi (by omega),C3 (by omega)];exact t1;obtain⟨h1,h2⟩:=t2 g hg;refine⟨by omega,?_⟩;rw[show g.offset-o=d1.length+(g.offset-(o+P.cellsOf f.type)) by omega,List.drop_append];simp only[Nat.add_sub_cancel_left];rw[List.drop_eq_nil_of_le (by omega),List.nil_append];exact h2
theorem xK{S:List TypeId}(hS:ep P S=true):∀(fuel:Nat)(t:TypeId),t∈S->∀(cs:List Value)(x:DataW H×List MemPlace),DataW.trod enc P w base spare held fuel t cs=some x->(∀n∈x.1.weights P t,n<=reachBytes)->
    ∃ds,HasTy P t ds/\Pw (DRep w (·<w.heap.size)) ds cs/\(∀d∈ds,d.one=true)/\D.bulks ds<=eU x.1/\(bA P t ds).bulk<=eU x.1
  |0,_,_,_,_,h,_=>by simp[DataW.trod]at h
  |n+1,t,hp,cs,x,h,hwt=>by
    have hp:D0 P S t=true:=zal27q.1 hS t hp
    have one:∀(d:D)(v:Value),DRep w (·<w.heap.size) d v->Pw (DRep w (·<w.heap.size)) [d] [v]:=λd v hd=>⟨rfl,λi x y hx hy=>by
      cases i with
      |zero=>simp at hx hy;subst hx hy;exact hd
      |succ i=>simp at hx⟩
    unfold D0 at hp;split at hp;rename_i hu;obtain⟨b,rfl,_⟩:=DataW.trod_bool hu h;exact⟨[.bool b],.bool t hu b,one _ _ (.bool b),λd hd=>by simp at hd;subst hd;rfl,by have:=qD x.1;simp[D.bulks,D.bulk];omega,by have:=qD x.1;simp[bA,hu,D.bulk];omega⟩;rename_i k hu;obtain⟨m,rfl,_,hw⟩:=DataW.trod_int hu h;have:k.min<=m/\m<=k.max:=by simpa[Lit.wf]using hw
    exact⟨[.int k m],.int t k hu m this,one _ _ (.int k m),λd hd=>by simp at hd;subst hd;rfl,by have:=qD x.1;simp[D.bulks,D.bulk];omega,by have:=qD x.1;simp[bA,hu,D.bulk];omega⟩;rename_i hu;obtain⟨s,rfl,rfl,hs⟩:=DataW.trod_string hu h;have hs:s.size<=reachBytes:=by have:=hwt s.data.toList.length (by simp[DataW.weights]);simpa using this
    exact⟨[.str s],.str t hu s hs,one _ _ (.str s),λd hd=>by simp at hd;subst hd;rfl,by simp only[D.bulks,D.bulk,eU,mQ,qV];exact cT _,by simp only[bA,hu,List.headD_cons,D.bulk,eU,mQ];exact cT _⟩
    · rename_i e hu
      simp only[lH,decide_eq_true_eq,List.contains_iff_mem]at hp;rcases DataW.trod_slice hu h with⟨rfl,_⟩|⟨ad,len,cap,elems,rest,n',hn',rfl,rfl,hb,hl,hm,hlen0,hel,_⟩
      exact⟨[.sl (P.cellsOf e) []],.sl t e hu [] (cN _) (λc hc=>by simp at hc) (λc hc=>by simp at hc),one _ _ (.sl0 _ _ _),λd hd=>by simp at hd;subst hd;rfl,by have:=qD x.1;simp[D.bulks,D.bulk];omega,by have:=qD x.1;simp[bA,hu,D.bulk,D.bulks];omega⟩;obtain rfl : n = n' := by omega
      have hex:∀i,i<len->∃ds vs,w.cells? base (ad.add (i*P.cellsOf e)) (P.cellsOf e)=some vs/\HasTy P e ds/\Pw (DRep w (·<w.heap.size)) ds vs/\(∀d∈ds,d.one=true)/\∀x,elems[i]?=some x->(bA P e ds).bulk<=eU x.1:=by
        intro i hi;have he:=hel i hi;rw[eE (by omega)]at he;obtain⟨vs,hvs,htr⟩:=zal115q.1 he
        have hwe:∀m∈(elems[i]).1.weights P e,m<=reachBytes:=λm hm'=>hwt m (by
          simp only[DataW.weights,hu,zal72q,qX]
          exact .inr (.inl (qp (zal76q.2 ⟨elems[i],by simp,rfl⟩) m hm')))
        obtain⟨ds,h1,h2,h3,_,h5⟩:=xK hS n e hp.1.1 vs _ htr hwe;exact⟨ds,vs,hvs,h1,h2,h3,λx hx=>by rw[eE (by omega)]at hx;cases hx;exact h5⟩
      have hall:∀k,k<=len->∃css:List (List D),css.length=k/\∀(i:Nat)(cs:List D),css[i]?=some cs->∃vs,w.cells? base (ad.add (i*P.cellsOf e)) (P.cellsOf e)=some vs/\HasTy P e cs/\Pw (DRep w (·<w.heap.size)) cs vs/\(∀d∈cs,d.one=true)/\∀x,elems[i]?=some x->(bA P e cs).bulk<=eU x.1:=by
        intro k
        induction k with
        |zero=>intro _;exact⟨[],rfl,λi cs h=>by simp at h⟩
        |succ k ih=>
          intro hk;obtain⟨css,h1,h2⟩:=ih (by omega);obtain⟨ds,vs,g1,g2,g3,g4⟩:=hex k (by omega);refine⟨css++[ds],by simp[h1],λi cs hi=>?_⟩;rw[eW]at hi;split at hi;exact h2 i cs hi;rename_i hge
          have:i=k:=by
            rcases dB (i-css.length) 1 with h|h
            omega;rw[iS (by simpa using h)]at hi;cases hi
          subst this;rw[h1,Nat.sub_self]at hi;simp at hi;subst hi;exact⟨vs,g1,g2,g3,g4⟩
      obtain⟨css,hcl,hcs⟩:=hall len (cT _)
      have hsz:∀(i:Nat)(cs:List D),css[i]?=some cs->cs.length=P.cellsOf e:=λi cs hi=>by
        obtain⟨vs,g1,_,g3,_⟩:=hcs i cs hi;obtain⟨_,g5,_⟩:=World.cells?_some g1;rw[g3.1,g5]
      have hof:∀(i:Nat)(cs:List D),css[i]?=some cs->(bA P e cs).cells=cs:=by
        intro i cs hi;have hl':=hsz i cs hi;obtain⟨vs,_,_,_,g4,_⟩:=hcs i cs hi
        have h1:P.cellsOf e=1->cs.headD .nilsl=cs.headD .nilsl->(cs.headD .nilsl).cells=cs:=by
          intro he _
          match cs,(hl'.trans he),g4 with
          |[c],_,g4=>exact D.cells_one (g4 c (by simp))
        have h2:=hp.2;unfold bA
        cases hue:P.underlying e with
        |none=>rw[hue]at h2;exact h1 (by simpa using h2) rfl
        |some ue=>
          rw[hue]at h2;cases ue<;>first|rfl|exact h1 (by simpa using h2) rfl
      have hmem:∀cs∈css,∃i,css[i]?=some cs:=λcs hc=>iL hc
      have hbulk:D.bulks (css.map (bA P e))+1<=eU (DataW.slice (H:=H) (elems.map (·.1)) (rest.map (·.1))):=by
        have hel':elems.length=len:=by omega
        have:=G5 (css.map (bA P e)) ((elems.map (·.1)).map eU) (by simp;omega) λi d b hd hb=>by
          simp only[cM,bZ]at hd hb;obtain⟨cs,hc,rfl⟩:=hd;obtain⟨_,⟨x,hx,rfl⟩,rfl⟩:=hb;obtain⟨_,_,_,_,_,g5⟩:=hcs i cs hc;exact g5 x hx
        simp only[eU];rw[<- cv]at this;omega
      refine⟨[.sl (P.cellsOf e) (css.map (bA P e))],.sl t e hu css (by
        have h1:=hwt ((elems.length+rest.length)*P.bytesOf e) (by simp[DataW.weights,hu]);have h2:=Nat.le_mul_of_pos_right (elems.length+rest.length) hp.1.2.2
        omega) (λcs hc=>by obtain⟨i,hi⟩:=hmem cs hc;exact hsz i cs hi) (λcs hc=>by obtain⟨i,hi⟩:=hmem cs hc;obtain⟨_,_,g,_⟩:=hcs i cs hi;exact g),one _ _ ?_,λd hd=>by simp at hd;subst hd;rfl,by simp only[D.bulks,D.bulk,qV];exact hbulk,by simp only[bA,hu,List.headD_cons,D.bulk];exact hbulk⟩
      by_cases hnil:css=[];subst hnil;have:len=0:=by simpa using hcl.symm
      subst this;exact .sl0 _ _ _
      have hgetc:∀(i:Nat)(d:D),(css.map (bA P e))[i]?=some d->∃cs,css[i]?=some cs/\d.cells=cs:=by
        intro i d hi;simp only[cM,bZ]at hi;obtain⟨cs,hc,rfl⟩:=hi;exact⟨cs,hc,hof i cs hc⟩
      have hcell:∀(i:Nat)(d:D)(j:Nat)(c:D),(css.map (bA P e))[i]?=some d->d.cells[j]?=some c->∃v,w.cell? (ad.add (i*P.cellsOf e+j))=some v/\DRep w (·<w.heap.size) c v:=by
        intro i d j c hi hj;obtain⟨cs,hc,hd⟩:=hgetc i d hi;rw[hd]at hj;obtain⟨vs,g1,_,g3,_⟩:=hcs i cs hc;obtain⟨_,g5,g6⟩:=World.cells?_some g1;have hjl:j<vs.length:=by rw[<- g3.1];exact(zal44q.1 hj).1
        refine⟨vs[j],?_,g3.2 j c _ hj (eE hjl)⟩;rw[<- yM,g6 j (by omega)];exact eE hjl
      have hlen:(css.map (bA P e)).length=len:=by simpa using hcl
      by_cases hblk:ad.block<w.heap.size
      have hfin := DRep.sl (w := w) (X := (· < w.heap.size)) (P.cellsOf e) (css.map (bA P e)) ad cap (fun i j => (w.cell? (ad.add (i * P.cellsOf e + j))).getD undef) hblk (by omega)
        (λi d hi=>by obtain⟨cs,hc,hd⟩:=hgetc i d hi;rw[hd];exact hsz i cs hc)
        (λi d j c hi hj=>by
          obtain⟨cs,hc,hd⟩:=hgetc i d hi;rw[hd]at hj;obtain⟨_,_,_,_,g4,_⟩:=hcs i cs hc
          exact g4 c (dR hj))
        (λi d j c hi hj=>by obtain⟨v,hv,_⟩:=hcell i d j c hi hj;rw[hv];rfl)
        (λi d j c hi hj=>by obtain⟨v,hv,hd⟩:=hcell i d j c hi hj;rw[hv];exact hd)
      rw[hlen]at hfin;exact hfin
      -- no cell at all: elements without cells
      exfalso;obtain⟨cs,r,rfl⟩:=List.exists_cons_of_ne_nil hnil;obtain⟨vs,g1,_,g3,_⟩:=hcs 0 cs rfl;obtain⟨_,g5,g6⟩:=World.cells?_some g1;have h6:=g6 0 (by have:=hp.1.2.1;omega);have hv:w.cell? ((ad.add (0*P.cellsOf e)).add 0)=some (vs[0]'(by have:=hp.1.2.1;omega)):=h6.trans (eE _);have:=World.block_lt_of_cell? w _ hv;exact hblk (by simpa[Addr.add]using this)
    rename_i fs hu;simp only[lH,zal27q,List.contains_iff_mem]at hp;obtain⟨xs,m,hnm,rfl,hlen,hxl,hf⟩:=DataW.trod_struct hu h;obtain rfl:n=m:=by omega
    obtain⟨ds,p,o,b',t'⟩:=tilesB S n (λf hpf cs x hx hw=>by obtain⟨ds,h1,h2,h3,h4,_⟩:=xK hS n f.type hpf cs x hx hw;exact⟨ds,h1,h2,h3,h4⟩) (P.cellsOf t) hlen fs.toList ((xs.map (·.1)).map eU) 0 (by simp[hxl]) hp.1 (λf hf'=>hp.2 f hf') (λi f b hi hb=>by
      have hi':fs[i]?=some f:=by simpa using hi
      have hlt:i<xs.length:=by rw[hxl];exact(zal5q.1 hi').1
      refine⟨xs[i],(hf i f hi').trans (eE hlt),λm hm'=>hwt m ?_,by simp[eE hlt]at hb;omega⟩;simp only[DataW.weights,hu]
      exact DataW.weights_mem_each (j:=i) (t:=f.type) (d:=xs[i].1) (by simp[hi]) (by simp[hlt]) m hm') (cN _)
    rw[List.drop_zero]at p;rw[<- cv]at b';refine⟨ds,.struct t fs hu ds (by rw[p.1,hlen]) (λi f hi=>?_),p,o,by simp only[eU];omega,by simp only[bA,hu,D.bulk,eU];omega⟩;have:=(t' f (zal10q.2 (Array.mem_of_getElem? hi))).2;simpa using this;cases hp
theorem K4{S : List TypeId}(hS : ep P S = true){t : TypeId}{v : Value}{d : DataW H}{ps : List MemPlace}(hp : D1 P S t = true){base : Nat}(ok : Value.okWide P w .any base t v)(h : DataW.Trod enc P w 0 (fun _ => true) true t v d ps)(hwt : ∀ n ∈ d.weights P t, n <= reachBytes) :
    ∃cs,cs.length=P.cellsOf t/\HasTy P t cs/\DRep w (·<w.heap.size) (bA P t cs) v/\(bA P t cs).bulk<=eU d:=by
  simp only[D1,lH,List.contains_iff_mem]at hp;obtain⟨fuel,hf⟩:=h;obtain⟨ds,ht,hpw,ho,_,hbk⟩:=xK hS fuel t hp.1 _ _ hf hwt;refine⟨ds,ht.length hp.2,ht,?_,hbk⟩
  have single:(∀xs,v≠.agg xs)->(bA P t ds=ds.headD .nilsl)->DRep w (·<w.heap.size) (bA P t ds) v:=by
    intro hv he;have hc:v.cells=#[v]:=by cases v<;>first|rfl|exact absurd rfl (hv _)
    rw[hc]at hpw;rw[he]
    match ds,hpw with
    |[c],hpw=>exact hpw.2 0 c v rfl rfl
    |[],hpw=>have:=hpw.1;simp at this
    |_::_::_,hpw=>have:=hpw.1;simp at this
  cases ht with
  |bool _ hu=>obtain⟨b,rfl⟩:=okWide_bool hu ok;exact single (λ_ h=>by cases h) (by simp[bA,hu])
  |int _ _ hu=>obtain⟨b,rfl⟩:=okWide_int hu ok;exact single (λ_ h=>by cases h) (by simp[bA,hu])
  |str _ hu=>obtain⟨b,rfl⟩:=okWide_string hu ok;exact single (λ_ h=>by cases h) (by simp[bA,hu])
  |sl _ _ hu=>obtain⟨_,_,_,rfl⟩:=okWide_slice hu ok;exact single (λ_ h=>by cases h) (by simp[bA,hu])
  |struct _ _ hu _ hl=>
    obtain⟨cs,rfl,hs⟩:=okWide_struct hu ok;have:bA P t ds=.agg ds:=by simp[bA,hu]
    rw[this];exact .agg ds cs (by simpa[Value.cells]using hpw.1) ho λi c v hc hv=>hpw.2 i c v hc (by simpa[Value.cells]using hv)
theorem Ba{S : List TypeId}(hS : ep P S = true) : ∀ {ts : List TypeId} {vs : List Value} {ds : List (DataW H)} {ps : List MemPlace} {base : Nat}, (∀ t ∈ ts, D1 P S t = true) -> (∀ (j : Nat) t v, ts[j]? = some t -> vs[j]? = some v -> Value.okWide P w .any base t v) -> DataW.TrodAll enc P w 0 (fun _ => true) true ts vs ds ps -> (∀ n ∈ DataW.weightsEach P ts ds, n <= reachBytes) ->
    ds.length=ts.length/\∃es,Bn P ts es/\Pw (DRep w (·<w.heap.size)) es vs/\D.bulks es<=qE ds
  |[],[],[],_,_,_,_,_,_=>⟨rfl,[],trivial,⟨rfl,λi x y hx=>by simp at hx⟩,by simp[D.bulks]⟩
  |t::ts,v::vs,d::ds,ps,base,hp,hok,h,hwt=>by
    obtain⟨p,q,h1,h2,_⟩:=h;obtain⟨cs,k1,k2,k3,kb⟩:=K4 hS (hp t (by simp)) (hok 0 t v rfl rfl) h1 (λn hn=>hwt n (by simp only[DataW.weightsEach,qX];exact .inl hn));obtain⟨k4,es,k5,k6,k7⟩:=Ba hS (λt ht=>hp t (by simp[ht])) (λj t v ht hv=>hok (j+1) t v (by simpa using ht) (by simpa using hv)) h2 (λn hn=>hwt n (by simp only[DataW.weightsEach,qX];exact .inr hn));refine⟨by simp[k4],_::es,⟨⟨cs,k1,k2,rfl⟩,k5⟩,⟨by simp[k6.1],λi x y hx hy=>?_⟩,by simp only[D.bulks,qE];omega⟩
    cases i with
    |zero=>simp at hx hy;subst hx hy;exact k3
    |succ i=>exact k6.2 i x y (by simpa using hx) (by simpa using hy)
  |[],_::_,_,_,_,_,_,h,_=>by simp[DataW.TrodAll]at h
  |[],[],_::_,_,_,_,_,h,_=>by simp[DataW.TrodAll]at h
  |_::_,[],_,_,_,_,_,h,_=>by simp[DataW.TrodAll]at h
  |_::_,_::_,[],_,_,_,_,h,_=>by simp[DataW.TrodAll]at h
end Go.TL
namespace Go.Proofs.YtjmpojlgegloeaaGreatDoor
open Go Go.TL
mutual
theorem fx{H:Type}:∀d:DataW H,Rows.uptoBulk d=eU d
 |.lit (.string bytes)=>by simp[Rows.uptoBulk,eU]
 |.lit (.bool _)=>by simp[Rows.uptoBulk,eU]
 |.lit (.int _ _)=>by simp[Rows.uptoBulk,eU]
 |.lit (.float .f32 _)=>by simp[Rows.uptoBulk,eU]
 |.lit (.float .f64 _)=>by simp[Rows.uptoBulk,eU]
 |.lit .nil=>by simp[Rows.uptoBulk,eU]
 |.nil=>by simp[Rows.uptoBulk,eU]
 |.ptr d=>by simp[Rows.uptoBulk,eU,fx d]
 |.slice elems spare=>by simp[Rows.uptoBulk,eU,Jx elems,Jx spare]
 |.agg parts=>by simp[Rows.uptoBulk,eU,Jx parts]
 |.iface _ d=>by simp[Rows.uptoBulk,eU,fx d]
 |.map entries=>by simp[Rows.uptoBulk,eU,bulk3 entries]
 |.held _=>by simp[Rows.uptoBulk,eU]
theorem Jx{H:Type}:∀l:List (DataW H),Rows.uptoBulkAll l=qE l
 |[]=>by simp[Rows.uptoBulkAll,qE]
 |d::r=>by simp[Rows.uptoBulkAll,qE,fx d,Jx r]
theorem bulk3{H:Type}:∀l:List (Lit×DataW H),Rows.uptoBulkEntries l=zv l
 |[]=>by simp[Rows.uptoBulkEntries,zv]
 |x::r=>by simp[Rows.uptoBulkEntries,zv,bulk4 x,bulk3 r]
theorem bulk4{H:Type}:∀x:Lit×DataW H,Rows.uptoBulkEntry x=yL x
 |(.string bytes,d)=>by simp[Rows.uptoBulkEntry,yL,fx d]
 |(.bool _,d)=>by simp[Rows.uptoBulkEntry,yL,fx d]
 |(.int _ _,d)=>by simp[Rows.uptoBulkEntry,yL,fx d]
 |(.float .f32 _,d)=>by simp[Rows.uptoBulkEntry,yL,fx d]
 |(.float .f64 _,d)=>by simp[Rows.uptoBulkEntry,yL,fx d]
 |(.nil,d)=>by simp[Rows.uptoBulkEntry,yL,fx d]
end
end Go.Proofs.YtjmpojlgegloeaaGreatDoor
set_option maxRecDepth 100000
namespace Go.Proofs.YtjmpojlgegloeaaGreatDoor
open Go
noncomputable def laidWorld (os:Os):World:=
 { World.holding Tryz.prog os ⟨#[],#[],[]⟩with heap:=((((((World.holding Tryz.prog os ⟨#[],#[],[]⟩).heap.modify 3 fun
  |.cells _ t frozen=>.cells #[.int .u8 0,.int .u8 1,.int .u8 28,.int .u8 2,.int .u8 29,.int .u8 14,.int .u8 24,.int .u8 3,.int .u8 30,.int .u8 22,.int .u8 20,.int .u8 15,.int .u8 25,.int .u8 17,.int .u8 4,.int .u8 8,.int .u8 31,.int .u8 27,.int .u8 13,.int .u8 23,.int .u8 21,.int .u8 19,.int .u8 16,.int .u8 7,.int .u8 26,.int .u8 12,.int .u8 18,.int .u8 6,.int .u8 11,.int .u8 5,.int .u8 10,.int .u8 9] t frozen
  |o=>o).modify 4 fun
  |.cells _ t frozen=>.cells #[.int .u8 0,.int .u8 1,.int .u8 56,.int .u8 2,.int .u8 57,.int .u8 49,.int .u8 28,.int .u8 3,.int .u8 61,.int .u8 58,.int .u8 42,.int .u8 50,.int .u8 38,.int .u8 29,.int .u8 17,.int .u8 4,.int .u8 62,.int .u8 47,.int .u8 59,.int .u8 36,.int .u8 45,.int .u8 43,.int .u8 51,.int .u8 22,.int .u8 53,.int .u8 39,.int .u8 33,.int .u8 30,.int .u8 24,.int .u8 18,.int .u8 12,.int .u8 5,.int .u8 63,.int .u8 55,.int .u8 48,.int .u8 27,.int .u8 60,.int .u8 41,.int .u8 37,.int .u8 16,.int .u8 46,.int .u8 35,.int .u8 44,.int .u8 21,.int .u8 52,.int .u8 32,.int .u8 23,.int .u8 11,.int .u8 54,.int .u8 26,.int .u8 40,.int .u8 15,.int .u8 34,.int .u8 20,.int .u8 31,.int .u8 10,.int .u8 25,.int .u8 14,.int .u8 19,.int .u8 9,.int .u8 13,.int .u8 8,.int .u8 7,.int .u8 6] t frozen
  |o=>o).modify 2 fun
  |.cells _ t frozen=>.cells #[.int .u64 1,.int .u64 10,.int .u64 100,.int .u64 1000,.int .u64 10000,.int .u64 100000,.int .u64 1000000,.int .u64 10000000,.int .u64 100000000,.int .u64 1000000000,.int .u64 10000000000,.int .u64 100000000000,.int .u64 1000000000000,.int .u64 10000000000000,.int .u64 100000000000000,.int .u64 1000000000000000,.int .u64 10000000000000000,.int .u64 100000000000000000,.int .u64 1000000000000000000,.int .u64 10000000000000000000] t frozen
  |o=>o).modify 1 fun
  |.cells _ t frozen=>.cells #[.int .i64 0,.int .i64 2,.int .i64 3,.int .i64 4] t frozen
  |o=>o).modify 0 fun
  |.cells _ t frozen=>.cells #[.int .i64 1,.int .i64 0,.int .i64 1,.int .i64 0,.int .i64 1,.int .i64 1,.int .i64 0,.int .i64 0,.int .i64 2,.int .i64 0,.int .i64 1,.int .i64 1,.int .i64 2,.int .i64 0,.int .i64 2,.int .i64 2,.int .i64 2,.int .i64 1,.int .i64 0,.int .i64 1,.int .i64 2,.int .i64 2,.int .i64 0,.int .i64 2,.int .i64 3,.int .i64 0,.int .i64 1,.int .i64 0,.int .i64 3,.int .i64 1,.int .i64 0,.int .i64 0,.int .i64 3,.int .i64 2,.int .i64 3,.int .i64 0,.int .i64 3,.int .i64 3,.int .i64 2,.int .i64 0] t frozen
  |o=>o) }
end Go.Proofs.YtjmpojlgegloeaaGreatDoor
namespace Go.TL
open Go.ChangeShapes Go.WideShapes Go.RowKit Go.Deep Go.ChangeAt
variable {P:Program}{H:Type}{enc:TypeId×Value->H}{w:World}{base:Nat}{spare:Nat->Bool}{held:Bool}
theorem F6(Good:List D->Prop)(S:List TypeId){C:Checked}{F:FuncId}{fn:Func}{s:ChangeSpec}{so:OpenSpec}{laidv:List (String×DataW Unit)}(hgood:∀(ds:List (DataW H)) (es:List D),(∀k,so.cond=some k->k H ds=true)->D.bulks es<=qE ds->Good es){F':Stop.Interp}(hat:∀{P:Program}{fn:Func}{a b c d:Bool}{w:World}{args:Array Value}{v:Value}{w':World},s.post enc P fn a b c d w args v w'->(so.at F').post enc P fn a b c d w args v w')(hbare:so.bare.plain.varTypes C.prog=[])(hvars:so.vars=[])(os:Os)(own:ownKnob C.prog.godebug=none)(started:os.Started)(laid:laidOutB C.prog=true)(noInit:C.prog.inits.idxOf? F=none)(hfn:C.prog.funcs[F]?=some fn)
    (wit:∃(w:World)(tape:Tape)(i:Input),w.os=os/\(w.forCall tape i).Shaped C.prog/\i.vars=[]/\Input.okWide C.prog (w.forCall tape i) .any w.heap.size F i/\
      so.preRow enc C.prog fn [] false laidv (w.forCall tape i).memory i.args/\({}:Assume).holds C.prog (lone (Frame.enter C.prog F i.args .normal) [] (w.forCall tape i)))
    (hf:F7 C.prog S fn=true) (hsv:s.vars=[]) (hs:∀ds:List (DataW H),ds.length=fn.params.toList.length->s.fn H ds={ results:=[.lit (.bool true)],args:=ds })
    (hret:∀ds,Bn C.prog fn.params.toList ds->Good ds->Ret C.prog F [] (λ_=>false) (ds.map .d) (.d (.bool true)) []) (hL:∀W,laidMetH C.prog laidv W->Hb W (dF λb=>b<W.heap.size)):
    ReturnsInHanded {} C os F .any (so.preRow enc C.prog fn [] false laidv) ((so.at F').post enc C.prog fn false true false false):=by
  refine returnsInHanded_of_row own started noInit hfn wit ?_;intro W base args ds gs before hval hW _ hkk hwt hlm _ _;rw[hvars]at hW;rw[hbare]at hwt;rw[<- hsv]at hW;have hW':=hW;obtain⟨p,q,hA,hV,rfl,hfz,_⟩:=hW;rw[hsv]at hV;obtain⟨rfl,rfl⟩:=trodVars_none hV;simp only[mW]at hW';simp only[F7,lH,zal27q,decide_eq_true_eq]at hf
  obtain⟨hl,es,hes,hpw,hbk⟩:=Ba hf.1.1 (base:=base) (λt ht=>(hf.1.2 t ht).1.1) (λj t v ht hv=>hval j t v (by simpa using ht) (by simpa using hv)) hA (λn hn=>by
    rw[mW,mW]at hwt
    simpa using zal27q.1 hwt n hn)
  have hlt:∀x∈p,x.block<W.heap.size:=λx hx=>by simpa using hW'.lt x hx
  obtain⟨_,hcall⟩:=hret es hes (hgood ds es (by rw[mW]at hkk;exact hkk) hbk);refine(hcall W (dF λb=>b<W.heap.size) args ?_ ?_).mono λe W' hh=>?_
  exact { defers := rfl, size := rfl, fr := fun _ => .junk _, hp := fun i B h => by simp at h, lt := fun i b h => by simp [dF] at h, inj := fun i j b _ _ _ _ _ _ h => by simp [dF] at h, Xlt := fun b h => h, Xold := fun b h _ => h
          os:=rfl,tape:=rfl,output:=rfl,drawn:=cT _,grown:=cT _,keep:=λ_ _ _=>rfl,own:=λi b h=>by simp[dF]at h,stay:=λi b h=>absurd h (iO i),kle:=cN _,laid:=hL W hlm }
  refine ⟨by simpa using hpw.1, fun i x v hx hv => ?_⟩;simp only[cM,bZ]at hx;obtain⟨d,hd,rfl⟩:=hx;exact .d d v (hpw.2 i d v hd hv);obtain⟨v,g',rfl,ho,hv⟩:=hh
  cases hv with
  |d _ _ hv=>
    cases hv;have hb:Below W.heap.size W W':=⟨ho.os,ho.tape,ho.output,ho.grown,λb hb=>ho.keep b hb λi hi=>absurd hi (iO i)⟩;have e:s.fn H (ds++[])={ results:=[.lit (.bool true)],args:=ds }:=by rw[mW];exact hs ds hl
    refine⟨_,rfl,hat ⟨ds,[],p,[],p,[],hW',?_,?_,?_,hb.frame _,λh=>by cases h⟩⟩
    · rw[e]
      have h2:=hf.2;split at h2
      · rename_i tb hts
        have hsz:fn.resultTypes.size=1:=by have:=congrArg List.length hts;simpa using this
        rw[hts,hsz];have hu:C.prog.underlying tb=some .bool:=by split at h2<;>first|assumption|cases h2
        exact trodAll_mk1 (shut_bool hu true)
      cases h2
    rw[e];exact bf laid hb (λt ht=>⟨(hf.1.2 t ht).1.2,(hf.1.2 t ht).2⟩) hlt hA;rw[hsv,e];rfl
end Go.TL
namespace Go.TL
variable {C:Ctx}{ops:Array Oper}{l:List Oper}{K:St->Prop}{fr:Fr}{hp:List Blk}{P:Program}
section forms
variable {o:Oper}{ev:Operand->AV}{x c y:Operand}
theorem pZ{d:D}(ho:o.op=.move x\/o.op=.assign x)(h:ev x=.d d):RdOk C o ev hp (.d d):=h ▸ eg ho
theorem tS{i s f n:Nat}(ho:o.op=.move x\/o.op=.assign x)(h:ev x=.msl i s f n):RdOk C o ev hp (.msl i s f n):=h ▸ eg ho
theorem pick_T{u:AV}(ho:o.op=.pick c x y)(hc:ev c=.d (.bool true))(hu:ev x=u):RdOk C o ev hp u:=by subst hu;exact I9 true _ ho hc rfl
theorem pick_F{u:AV}(ho:o.op=.pick c x y)(hc:ev c=.d (.bool false))(hu:ev y=u):RdOk C o ev hp u:=by subst hu;exact I9 false _ ho hc rfl
theorem F2{t:TypeId}{e d:D}{off s:Nat}(ho:o.op=.load t x)(hl:lay C.P t=some (false,s))(hx:ev x=.d (.ptr e off))(hc:e.cells[off]?=some d):RdOk C o ev hp (.d d):=qw e d off s ho hl hx hc
theorem Ku{t:TypeId}{e:D}{s:Nat}(ho:o.op=.load t x)(hl:lay C.P t=some (true,s))(hx:ev x=.d (.ptr e 0))(hs:e.cells.length=s)(h1:e.one=false):RdOk C o ev hp (.d e):=by
  have h:=xM (o:=o) (ev:=ev) (hp:=hp) e 0 s ho hl hx (by omega)
  have he:e.part 0 s=e:=by
    cases e with
    |agg cs=>subst hs;simp[D.part,D.cells]
    |_=>cases h1
  rwa [he]at h
theorem Kv{t bt:TypeId}{id sz idx off s:Nat}{es:List D}{e d:D}(ho:o.op=.load t x)(hl:lay C.P t=some (false,s))(hx:ev x=.mptr id sz idx off)(hb:hp[id]?=some (.flat bt sz es))(he:es[idx]?=some e)(hc:e.cells[off]?=some d):RdOk C o ev hp (.d d):=
  Du id sz idx off s es e d ho hl hx hb he hc
theorem Ig{t bt:TypeId}{id sz idx s:Nat}{es:List D}{e:D}(ho:o.op=.load t x)(hl:lay C.P t=some (true,s))(hx:ev x=.mptr id sz idx 0)(hb:hp[id]?=some (.flat bt sz es))(he:es[idx]?=some e)(hs:e.cells.length=s)(h1:e.one=false):RdOk C o ev hp (.d e):=by
  have h:=wI (o:=o) (ev:=ev) (hp:=hp) id sz idx 0 s es e ho hl hx hb he (by omega)
  have he:e.part 0 s=e:=by
    cases e with
    |agg cs=>subst hs;simp[D.part,D.cells]
    |_=>cases h1
  rwa [he]at h
theorem y8{t e:TypeId}{sz by':Nat}{es:List D}{k:IntKind}{i:Int}{d:D}(ho:o.op=.indexAddr t x y)(hl:sel C.P t=some (e,sz,by'))(hx:ev x=.d (.sl sz es))(hy:ev y=.d (.int k i))(h:0<=i/\es[i.toNat]?=some d):RdOk C o ev hp (.d (.ptr d 0)):=
  vv sz by' es k i d ho hl hx hy h.1 h.2
theorem Cm{t e:TypeId}{id sz by' off len:Nat}{k:IntKind}{i:Int}(ho:o.op=.indexAddr t x y)(hl:sel C.P t=some (e,sz,by'))(hx:ev x=.msl id sz off len)(hy:ev y=.d (.int k i))(h:0<=i/\i<len){j:Nat}(hj:off+i.toNat=j):RdOk C o ev hp (.mptr id sz j 0):=
  hj ▸ ke id sz by' off len k i ho hl hx hy h.1 h.2
theorem fk{op:BinOp}{t t':TypeId}{k:IntKind}{m n:Int}{b:Bool}(ho:o.op=.binOp op t x y t')(hx:ev x=.d (.int k m))(hy:ev y=.d (.int k n))(hb:Em op m n=some b):RdOk C o ev hp (.d (.bool b)):=rd_cmp k m n b ho hx hy hb
theorem ge{op:BinOp}{t t':TypeId}{m n r:Int}(ho:o.op=.binOp op t x y t')(hx:ev x=.d (.int .i64 m))(hy:ev y=.d (.int .i64 n))(hr:G9 op m n=some r)(hb:-9223372036854775808<=r/\r<=9223372036854775807):RdOk C o ev hp (.d (.int .i64 r)):=
  rd_arith .i64 m n r ho hx hy (by cases op<;>simp only[G9]at hr<;>cases hr<;>simp only[arInt,Hj hb])
theorem not_b{t:TypeId}{b b':Bool}(ho:o.op=.unOp .not t x)(hx:ev x=.d (.bool b))(hb:(!b)=b'):RdOk C o ev hp (.d (.bool b')):=hb ▸ rd_not b ho hx
theorem Jl{t e:TypeId}{sz s by':Nat}{es:List D}(ho:o.op=.call { callee:=.builtin .len,args:=#[x],argTypes:=#[t] })(hl:sel C.P t=some (e,s,by'))(hx:ev x=.d (.sl sz es)){n:Nat}(hn:es.length=n):RdOk C o ev hp (.d (.int .i64 n)):=
  kd _ s by' n ho hl hx (by subst hn;rfl)
theorem ew{t e:TypeId}{s by':Nat}(ho:o.op=.call { callee:=.builtin .len,args:=#[x],argTypes:=#[t] })(hl:sel C.P t=some (e,s,by'))(hx:ev x=.d .nilsl):RdOk C o ev hp (.d (.int .i64 (Int.ofNat 0))):=kd _ s by' 0 ho hl hx rfl
end forms
theorem Snap.le{hp hp':List Blk}(h:HpLe hp hp'){x:AV}{d:D}(hs:Snap hp x d):Snap hp' x d:=by
  induction hs with
  |d x=>exact .d x
  |msl id sz off len ty es h1 hl=>exact .msl id sz off len ty es (h _ _ h1 (λe=>by cases e)) hl
  |mptrF id sz idx off ty es e h1 he=>exact .mptrF id sz idx off ty es e (h _ _ h1 (λe=>by cases e)) he
  |mptrB id off ty cs ds h1 hl h2 _ ih=>exact .mptrB id off ty cs ds (h _ _ h1 (λe=>by cases e)) hl h2 ih
  |agg cs ds hl h2 _ ih=>exact .agg cs ds hl h2 ih
  |clo f cs ds hl _ ih=>exact .clo f cs ds hl ih
  |ifc t c d _ ih=>exact .ifc t c d ih
def RetD(P:Program)(F:FuncId)(ds:List D)(d:D):Prop:=∃mv r hp',Ret P F [] mv (ds.map .d) r hp'/\Snap hp' r d
def RetN(P:Program)(F:FuncId)(ds:List D)(d:D):Prop:=∃mv r hp',Ret P F [] mv (ds.map .d) r hp'/\Snap hp' r d/\AMem0 r/\∀B∈hp',Bl B
theorem RetN.retD{F:FuncId}{ds:List D}{d:D}(h:RetN P F ds d):RetD P F ds d:=by
  obtain⟨mv,r,hp',h1,h2,_⟩:=h;exact⟨mv,r,hp',h1,h2⟩
section calls
variable {o:Oper}{ev:Operand->AV}{f:Operand}{xs:Array Operand}{ts:Array TypeId}{F:FuncId}
theorem RD{ds:List D}{d:D}(ho:o.op=.call { callee:=.value f,args:=xs,argTypes:=ts })(hf:ev f=.d (.fn F))(hx:xs.toList.map ev=ds.map .d)(hret:RetD C.P F ds d):RdOk C o ev hp (.d d):=by
  obtain⟨mv,r,hp',h1,h2⟩:=hret;exact rd_callD ds r hp' d ho hf hx h1 h2
theorem RN{ds:List D}{d:D}(ho:o.op=.call { callee:=.value f,args:=xs,argTypes:=ts })(hf:ev f=.d (.fn F))(hx:wP hp (xs.toList.map ev) ds)(hret:RetN C.P F ds d):RdOk C o ev hp (.d d):=by
  obtain⟨mv,r,hp',hret,hsn,hm,hm'⟩:=hret;intro st hhp hag g a w hs Q K' hK;have hfv:=hs.ev f;rw[hag f (by simp[ho,Op.operands,Call.operands]),hf]at hfv
  have hx':wP st.hp (xs.toList.map st.fr.ev) ds:=by
    refine⟨by have:=hx.1;simpa using this,λi x d hxi hd=>?_⟩;simp only[cM,bZ]at hxi;obtain⟨y,hy,rfl⟩:=hxi;rw[hag y (by simp only[ho,Op.operands,Call.operands];exact zal9q.2 (.inr (zal10q.1 (dR hy))))];exact(hx.2 i (ev y) d (by simp[hy]) hd).le hhp
  have hargs:=z8 hs hx' (Y:=λb=>b<w.heap.size) hs.Xlt λi b hp=>(hs.lt i b hp).1;simp only[Oper.wp,eH ho (co hfv) hret.1,Oper.upon_enter,xr];refine(hret.2 w (dF λb=>b<w.heap.size) _ (D2 hs mv λ_ h=>h) hargs).mono ?_;rintro e w' ⟨v,g',rfl,hout,hr⟩;have hold:∀b,b<w.heap.size->w'.heap[b]?=w.heap[b]?:=λb hb=>hout.keep b hb λi hi=>absurd hi (iO i);have hsz:=hout.grown;simp only at hsz
  let g3:Gh:={ g' with X:=λb=>g'.X b/\w.heap.size<=b }
  have hrep3:∀(i:Nat)(B:Blk),hp'[i]?=some B->BRep w' g3 i B:=λi B hB=>(hout.hp i B hB).any (hm' B (dR hB))
  let g2:Gh:={ g with X:=λb=>g.X b\/(w.heap.size<=b/\b<w'.heap.size) }
  have hgr:Grow w g w' g2:=⟨λ_ _ h=>h,λ_ _ _=>rfl,λ_ h=>.inl h,λb hb=>hold b (hs.Xlt b hb)⟩;refine hK v w' g2 ?_ (.d _ _ (oV (st:=⟨[],hp'⟩) (g:=g3) hrep3 hsn (Y:=g2.X) (λb hb=>?_) (λi b hp=>?_) (hr.any hm)))
  refine { defers := hs.defers, size := hs.size, fr := fun t => (hs.fr t).mono hgr, hp := fun i B hB => (hs.hp i B hB).mono hgr id fun b hb => hold b (hs.lt i b hb).1, lt := ?_, inj := hs.inj, Xlt := ?_, Xold := ?_
           os:=hout.os.trans hs.os,tape:=hout.tape.trans hs.tape,output:=hout.output.trans hs.output,drawn:=dQ hs.drawn hout.drawn,grown:=dQ hs.grown hsz,keep:=?_,own:=hs.own,stay:=hs.stay,kle:=hs.kle,laid:=hs.laid }
  · intro i b hp
    have:=hs.lt i b hp;refine⟨by omega,this.2.1,λhX=>?_⟩;rcases hX with hX|⟨hX,_⟩
    exact this.2.2 hX;omega
  intro b hb;rcases hb with hb|⟨_,hb⟩
  have:=hs.Xlt b hb;omega;exact hb;intro b hb hlt;rcases hb with hb|⟨hge,_⟩
  exact hs.Xold b hb hlt;have:=hs.grown;omega;intro b hb hk;rw[hold b (by have:=hs.grown;omega)];exact hs.keep b hb hk;exact .inr ⟨hb.2,hout.Xlt b hb.1⟩;refine .inr ⟨?_,(hout.lt i b hp).1⟩;rcases dB b w.heap.size with hlt|hge
  exact absurd (hout.own i b hp hlt).1 (iO _);exact hge
end calls
theorem hZ{hp:List Blk}:∀{xs:List AV}{ds:List D},xs=ds.map .d->wP hp xs ds
  |_,[],h=>by subst h;exact SN
  |_,d::ds,h=>by subst h;exact SC (.d d) (hZ rfl)
inductive SubK (fr:Fr):List Nat->Fr->Prop
  |nil:SubK fr [] []
  |cons (k:Nat) (v:AV) (ks:List Nat) (r:Fr) (h:fr.get k=v) (hr:SubK fr ks r):SubK fr (k::ks) ((k,v)::r)
section
variable {k:Nat}{ks:List Nat}{r:Fr}
theorem cC{d:D}(h:fr.get k=.d d)(hr:SubK fr ks r):SubK fr (k::ks) ((k,.d d)::r):=.cons _ _ _ _ h hr
theorem mI{a b c d:Nat}(h:fr.get k=.msl a b c d)(hr:SubK fr ks r):SubK fr (k::ks) ((k,.msl a b c d)::r):=.cons _ _ _ _ h hr
theorem E7(hr:SubK fr ks r):∃r',SubK fr ks r':=⟨r,hr⟩
end
theorem SubK.keep:∀{fr r:Fr}{ks:List Nat},SubK fr ks r->r=Fr.keep ks fr
  |_,_,_,.nil=>rfl
  |fr,_,_,.cons k v ks r h hr=>by simp only[Fr.keep,fX,h];rw[hr.keep];rfl
theorem dN{hp:List Blk}(h:hp=[]):hp=[]:=h
theorem jJ{hp r r':List Blk}{t s:Nat}{es:List D}(h:hp=.flat t s es::r)(hr:r=r'):hp=.flat t s es::r':=hr ▸ h
theorem cV{c:Code}{Q:Exit->St->Prop}{fr':Fr}{hp':List Blk}(ks:List Nat)(h1:SubK fr ks fr')(h2:hp=hp')(h:TWp C c ⟨fr',hp'⟩ Q):TWp C c ⟨fr,hp⟩ Q:=by
  subst h2;rw[h1.keep]at h;exact twp_keep ks h
section ways
variable {next:St->Prop}{Q:Exit->St->Prop}{st:St}
theorem WT(h:next st):lT next Q .normal st:=h
theorem WX{i:Nat}(h:Q (.exit i) st):lT next Q (.exit i) st:=h
theorem WR(h:Q .ret st):lT next Q .ret st:=h
theorem WK{i:Nat}(h:Q .normal st):qR i Q .normal st:=h
theorem WH{i:Nat}(h:Q .normal st):qR i Q (.exit i) st:=by simp only[qR,if_true];exact h
end ways
theorem J4{c:Code}{Q:Exit->St->Prop}{α:Type}(S:α->St)(ok:α->Prop)(m:α->Nat)(ks ids:List Nat)(x0:α)(hnd:ids.Nodup)(hk:∀i,i<C.k->ids[i]?=some i){st:St}(h0:ok x0)(hS:st.canon ks ids=S x0)
    (round:∀x,ok x->TWp C c (S x) (lT (λst'=>∃y ids',ids'.Nodup/\(∀i,i<C.k->ids'[i]?=some i)/\ok y/\m y<m x/\st'.canon ks ids'=S y) Q)):TWp C (.loop c) st Q:=by
  refine E2 (λn st=>∃x ids,ids.Nodup/\(∀i,i<C.k->ids[i]?=some i)/\ok x/\m x=n/\st.canon ks ids=S x) (m x0) ⟨x0,ids,hnd,hk,h0,rfl,hS⟩ ?_;rintro n st ⟨x,ids,hnd,hk,hx,rfl,he⟩;refine uA ks ids hnd hk ?_;rw[he];refine(round x hx).mono ?_;rintro e st' hq
  cases e with
  |normal=>obtain⟨y,ids',h1,h2,h3,h4,h5⟩:=hq;exact⟨m y,h4,y,ids',h1,h2,h3,rfl,h5⟩
  |_=>exact hq
end Go.TL
