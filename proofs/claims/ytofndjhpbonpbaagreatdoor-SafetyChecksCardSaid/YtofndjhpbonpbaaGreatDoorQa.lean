/- Texts of this proof, joined, without what it does not use. No condition. -/
import Derived.Orders
import Derived.Tactics
import Derived.Laws.World
import Derived.Laws.Cells
import Derived.Laws.Rows
import Derived.Laws.AppendOwn

namespace Go.TL
inductive D where
  | bool (b:Bool)
  | int (k:IntKind) (n:Int)
  | str (s:ByteArray)
  | agg (cs:List D)
  | nilsl
  | sl (sz:Nat) (es:List D)
  | nilptr
  | ptr (e:D) (off:Nat)
  | fn (f:FuncId)
  | clo (f:FuncId) (cs:List D)
  | nilfn
  | iface (t:TypeId) (d:D)
  | nilif
  | nilmap
  deriving Inhabited
def D.cells:D->List D
  | .agg cs=>cs
  | d=>[d]
def D.one:D->Bool
  | .agg _=>false
  | _=>true
inductive DRep (w:World) (X:Nat->Prop):D->Value->Prop
  | bool (b:Bool):DRep w X (.bool b) (.bool b)
  | int (k:IntKind) (n:Int):DRep w X (.int k n) (.int k n)
  | str (s:ByteArray):DRep w X (.str s) (.string s)
  | agg (cs:List D) (vs:Array Value) (hl:cs.length=vs.size) (h1:∀ c∈cs,c.one=true) (h:∀ (i:Nat) (c:D) (v:Value),cs[i]?=some c->vs[i]?=some v->DRep w X c v):DRep w X (.agg cs) (.agg vs)
  | nilsl (a:Option Addr):DRep w X .nilsl (.slice a 0 0)
  | sl0 (sz:Nat) (a:Option Addr) (cap:Nat):DRep w X (.sl sz []) (.slice a 0 cap)
  | sl (sz:Nat) (es:List D) (ad:Addr) (cap:Nat) (val:Nat->Nat->Value) (hX:X ad.block) (hc:es.length<=cap)
      (hs:∀ (i:Nat) (e:D),es[i]?=some e->e.cells.length=sz)
      (h1:∀ (i:Nat) (e:D) (j:Nat) (c:D),es[i]?=some e->e.cells[j]?=some c->c.one=true)
      (hv:∀ (i:Nat) (e:D) (j:Nat) (c:D),es[i]?=some e->e.cells[j]?=some c->w.cell? (ad.add (i * sz+j))=some (val i j))
      (hr:∀ (i:Nat) (e:D) (j:Nat) (c:D),es[i]?=some e->e.cells[j]?=some c->DRep w X c (val i j)):DRep w X (.sl sz es) (.slice (some ad) es.length cap)
  | nilptr:DRep w X .nilptr (.pointer none)
  | ptr (e:D) (off:Nat) (ad:Addr) (val:Nat->Value) (hX:X ad.block) (h1:∀ c∈e.cells,c.one=true)
      (hv:∀ (j:Nat) (c:D),e.cells[off+j]?=some c->w.cell? (ad.add j)=some (val j))
      (hr:∀ (j:Nat) (c:D),e.cells[off+j]?=some c->DRep w X c (val j)):DRep w X (.ptr e off) (.pointer (some ad))
  | fn (f:FuncId):DRep w X (.fn f) (.func (.func f) #[] #[])
  | clo (f:FuncId) (cs:List D) (vs:Array Value) (hl:cs.length=vs.size) (h:∀ (i:Nat) (c:D) (v:Value),cs[i]?=some c->vs[i]?=some v->DRep w X c v):DRep w X (.clo f cs) (.func (.func f) #[] vs)
  | nilfn:DRep w X .nilfn .nilFunc
  | iface (t:TypeId) (d:D) (v:Value) (h:DRep w X d v):DRep w X (.iface t d) (.iface t v)
  | nilif:DRep w X .nilif .nilIface
  | nilmap:DRep w X .nilmap (.map none)
theorem cell?_of_heap {w w':World} {a:Addr} (h:w'.heap[a.block]?=w.heap[a.block]?):w'.cell? a=w.cell? a:=by simp [World.cell?,h]
theorem tI (a:Addr) (n:Nat):(a.add n).block=a.block:=by unfold Addr.add;split<;>rfl
theorem qAY (a:Addr) (i j:Nat):(a.add i).add j=a.add (i+j):=by
  unfold Addr.add;by_cases hi:i=0<;>by_cases hj:j=0<;>simp [hi,hj,Nat.add_assoc]
theorem kY (b o n:Nat):(⟨b,o,none⟩:Addr).add n=⟨b,o+n,none⟩:=by
  unfold Addr.add;by_cases h:n=0<;>simp [h]
theorem DRep.mono {w w':World} {X X':Nat->Prop} {d:D} {v:Value} (h:DRep w X d v) (hX:∀ b,X b->X' b) (hw:∀ b,X b->w'.heap[b]?=w.heap[b]?):DRep w' X' d v:=by
  induction h with
  | bool=>exact .bool _
  | int=>exact .int _ _
  | str=>exact .str _
  | agg cs vs hl h1 _ ih=>exact .agg cs vs hl h1 λi c v hc hv=>ih i c v hc hv
  | nilsl=>exact .nilsl _
  | sl0=>exact .sl0 _ _ _
  | sl sz es ad cap val hx hc hs h1 hv _ ih=>
    exact .sl sz es ad cap val (hX _ hx) hc hs h1 (λi e j c he hc=>(cell?_of_heap (by rw [tI];exact hw _ hx)).trans (hv i e j c he hc)) λi e j c he hc=>ih i e j c he hc
  | nilptr=>exact .nilptr
  | ptr e off ad val hx h1 hv _ ih=>
    exact .ptr e off ad val (hX _ hx) h1 (λj c hc=>(cell?_of_heap (by rw [tI];exact hw _ hx)).trans (hv j c hc)) λj c hc=>ih j c hc
  | fn=>exact .fn _
  | clo f cs vs hl _ ih=>exact .clo f cs vs hl λi c v hc hv=>ih i c v hc hv
  | nilfn=>exact .nilfn
  | iface t d v _ ih=>exact .iface t d v ih
  | nilif=>exact .nilif
  | nilmap=>exact .nilmap
theorem DRep.oneCell {w:World} {X:Nat->Prop} {d:D} {v:Value} (h:DRep w X d v) (h1:d.one=true):v.oneCell'=true/\v.cells=#[v]:=by
  cases h<;>first|exact⟨rfl,rfl⟩|cases h1
theorem DRep.cells {w:World} {X:Nat->Prop} {d:D} {v:Value} (h:DRep w X d v):
    v.cells.size=d.cells.length/\(∀ c∈d.cells,c.one=true)/\∀ (j:Nat) (c:D),d.cells[j]?=some c->∃ u,v.cells[j]?=some u/\DRep w X c u:=by
  have one:∀ (d:D) (v:Value),DRep w X d v->d.cells=[d]->d.one=true->v.cells=#[v]->
      v.cells.size=d.cells.length/\(∀ c∈d.cells,c.one=true)/\∀ (j:Nat) (c:D),d.cells[j]?=some c->∃ u,v.cells[j]?=some u/\DRep w X c u:=by
    intro d v hd e1 e2 e3;rw [e1,e3];refine⟨rfl,by simpa using e2,λj c hc=>?_⟩
    cases j with
    | zero=>simp at hc;subst hc;exact⟨v,by simp,hd⟩
    | succ j=>simp at hc
  cases h with
  | agg cs vs hl h1 hr=>
    refine⟨hl.symm,h1,λj c hc=>?_⟩;have hj:j < vs.size:=by rw [<- hl];exact (List.getElem?_eq_some_iff.1 hc).1
    exact⟨vs[j],by simp [Value.cells,hj],hr j c _ hc (by simp [hj])⟩
  | bool b=>exact one _ _ (.bool b) rfl rfl rfl
  | int k n=>exact one _ _ (.int k n) rfl rfl rfl
  | str s=>exact one _ _ (.str s) rfl rfl rfl
  | nilsl a=>exact one _ _ (.nilsl a) rfl rfl rfl
  | sl0 a b c=>exact one _ _ (.sl0 a b c) rfl rfl rfl
  | sl a b c d e f g h i j k=>exact one _ _ (.sl a b c d e f g h i j k) rfl rfl rfl
  | nilptr=>exact one _ _ .nilptr rfl rfl rfl
  | ptr a b c d e f g h=>exact one _ _ (.ptr a b c d e f g h) rfl rfl rfl
  | fn f=>exact one _ _ (.fn f) rfl rfl rfl
  | clo f cs vs hl h=>exact one _ _ (.clo f cs vs hl h) rfl rfl rfl
  | nilfn=>exact one _ _ .nilfn rfl rfl rfl
  | iface a b c d=>exact one _ _ (.iface a b c d) rfl rfl rfl
  | nilif=>exact one _ _ .nilif rfl rfl rfl
  | nilmap=>exact one _ _ .nilmap rfl rfl rfl
inductive AV where
  | junk
  | und
  | d (d:D)
  | msl (id sz off len:Nat)
  | mptr (id sz idx off:Nat)
  | mmap (id:Nat)
  | yld (id:Nat)
  | mmapN (id n:Nat)
  | agg (cs:List AV)
  | tup (vs:List AV)
  | fnc (f:FuncId) (cap:List AV)
  | ifc (t:TypeId) (v:AV)
  deriving Inhabited
inductive Blk where
  | dead
  | hole
  | flat (ty:TypeId) (sz:Nat) (es:List D)
  | box (ty:TypeId) (cs:List AV)
  | map (kt vt:TypeId) (es:List (D×D))
  | ob (o:Obj)
  | lp (s:LoopState) (pd:Option Code) (ps:Array Tmp) (asg body:Code) (n:Nat) (fr:List (Nat×AV))
  deriving Inhabited
abbrev Fr:=List (Nat×AV)
def Fr.get:Fr->Nat->AV
  | [],_=>.junk
  | (k,v) :: r,t=>if k=t then v else Fr.get r t
structure Gh where
  phi:Nat->Option Nat
  psi:Nat->Nat
  X:Nat->Prop
def AV.one:AV->Bool
  | .d x=>x.one
  | .agg _|.tup _|.und|.junk=>false
  | _=>true
inductive ARep (w:World) (g:Gh):AV->Value->Prop
  | junk (v:Value):ARep w g .junk v
  | und:ARep w g .und undef
  | d (d:D) (v:Value) (h:DRep w g.X d v):ARep w g (.d d) v
  | msl0 (id sz off:Nat) (a:Option Addr):ARep w g (.msl id sz off 0) (.slice a 0 0)
  | msl (id sz off len cap b:Nat) (hb:g.phi id=some b) (hc:len<=cap) (hp:(off+cap) * sz<=g.psi id):ARep w g (.msl id sz off len) (.slice (some ⟨b,off * sz,none⟩) len cap)
  | mptr (id sz idx off b:Nat) (hb:g.phi id=some b):ARep w g (.mptr id sz idx off) (.pointer (some ⟨b,idx * sz+off,none⟩))
  | mmap (id b:Nat) (hb:g.phi id=some b):ARep w g (.mmap id) (.map (some b))
  | yld (id b:Nat) (hb:g.phi id=some b):ARep w g (.yld id) (.func (.yield b) #[] #[])
  | mmapN0 (id:Nat):ARep w g (.mmapN id 0) (.map none)
  | mmapN (id n b:Nat) (hb:g.phi id=some b):ARep w g (.mmapN id n) (.map (some b))
  | agg (cs:List AV) (vs:Array Value) (hl:cs.length=vs.size) (h:∀ (i:Nat) (c:AV) (v:Value),cs[i]?=some c->vs[i]?=some v->ARep w g c v):ARep w g (.agg cs) (.agg vs)
  | tup (cs:List AV) (vs:Array Value) (hl:cs.length=vs.size) (h:∀ (i:Nat) (c:AV) (v:Value),cs[i]?=some c->vs[i]?=some v->ARep w g c v):ARep w g (.tup cs) (.tuple vs)
  | fnc (f:FuncId) (cs:List AV) (vs:Array Value) (hl:cs.length=vs.size) (h:∀ (i:Nat) (c:AV) (v:Value),cs[i]?=some c->vs[i]?=some v->ARep w g c v):ARep w g (.fnc f cs) (.func (.func f) #[] vs)
  | ifc (t:TypeId) (c:AV) (v:Value) (h:ARep w g c v):ARep w g (.ifc t c) (.iface t v)
structure Grow (w:World) (g:Gh) (w':World) (g':Gh):Prop where
  phi:∀ i b,g.phi i=some b->g'.phi i=some b
  psi:∀ i b,g.phi i=some b->g'.psi i=g.psi i
  X:∀ b,g.X b->g'.X b
  mem:∀ b,g.X b->w'.heap[b]?=w.heap[b]?
theorem ARep.mono {w w':World} {g g':Gh} {v:AV} {u:Value} (h:ARep w g v u) (hg:Grow w g w' g'):ARep w' g' v u:=by
  induction h with
  | junk=>exact .junk _
  | und=>exact .und
  | d d v h=>exact .d d v (h.mono hg.X hg.mem)
  | msl0=>exact .msl0 _ _ _ _
  | msl id sz off len cap b hb hc hp=>exact .msl id sz off len cap b (hg.phi _ _ hb) hc (by rw [hg.psi _ _ hb];exact hp)
  | mptr id sz idx off b hb=>exact .mptr id sz idx off b (hg.phi _ _ hb)
  | mmap id b hb=>exact .mmap id b (hg.phi _ _ hb)
  | yld id b hb=>exact .yld id b (hg.phi _ _ hb)
  | mmapN0=>exact .mmapN0 _
  | mmapN id n b hb=>exact .mmapN id n b (hg.phi _ _ hb)
  | agg cs vs hl _ ih=>exact .agg cs vs hl λi c v hc hv=>ih i c v hc hv
  | tup cs vs hl _ ih=>exact .tup cs vs hl λi c v hc hv=>ih i c v hc hv
  | fnc f cs vs hl _ ih=>exact .fnc f cs vs hl λi c v hc hv=>ih i c v hc hv
  | ifc t c v _ ih=>exact .ifc t c v ih
theorem ARep.oneCell {w:World} {g:Gh} {c:AV} {v:Value} (h:ARep w g c v) (h1:c.one=true):v.oneCell'=true/\v.cells=#[v]:=by
  cases h with
  | d d v h=>exact h.oneCell h1
  | junk=>cases h1
  | und=>cases h1
  | agg=>cases h1
  | tup=>cases h1
  | _=>exact⟨rfl,rfl⟩
def AV.cells:AV->List AV
  | .agg cs=>cs
  | .d x=>x.cells.map .d
  | v=>[v]
def AV.flat:AV->Bool
  | .tup _|.und|.junk=>false
  | .agg cs=>cs.all AV.one
  | _=>true
theorem ARep.cells {w:World} {g:Gh} {c:AV} {v:Value} (h:ARep w g c v) (hf:c.flat=true):
    v.cells.size=c.cells.length/\(∀ x∈c.cells,x.one=true)/\∀ (j:Nat) (x:AV),c.cells[j]?=some x->∃ u,v.cells[j]?=some u/\ARep w g x u:=by
  have one:∀ (c:AV) (v:Value),ARep w g c v->c.cells=[c]->c.one=true->v.cells=#[v]->
      v.cells.size=c.cells.length/\(∀ x∈c.cells,x.one=true)/\∀ (j:Nat) (x:AV),c.cells[j]?=some x->∃ u,v.cells[j]?=some u/\ARep w g x u:=by
    intro d v hd e1 e2 e3;rw [e1,e3];refine⟨rfl,by simpa using e2,λj c hc=>?_⟩
    cases j with
    | zero=>simp at hc;subst hc;exact⟨v,by simp,hd⟩
    | succ j=>simp at hc
  cases h with
  | junk=>cases hf
  | und=>cases hf
  | tup=>cases hf
  | d d v h=>
    obtain⟨h1,h2,h3⟩:=h.cells;refine⟨by simpa [AV.cells] using h1,?_,λj x hx=>?_⟩
    · intro x hx
      simp only [AV.cells,List.mem_map] at hx;obtain⟨c,hc,rfl⟩:=hx;exact h2 c hc
    simp only [AV.cells,List.getElem?_map,Option.map_eq_some_iff] at hx;obtain⟨c,hc,rfl⟩:=hx;obtain⟨u,hu,hr⟩:=h3 j c hc;exact⟨u,hu,.d c u hr⟩
  | agg cs vs hl hr=>
    refine⟨hl.symm,by simpa [AV.flat,AV.cells] using hf,λj c hc=>?_⟩;have hj:j < vs.size:=by rw [<- hl];exact (List.getElem?_eq_some_iff.1 hc).1
    exact⟨vs[j],by simp [Value.cells,hj],hr j c _ hc (by simp [hj])⟩
  | msl0 a b c d=>exact one _ _ (.msl0 a b c d) rfl rfl rfl
  | msl a b c d e f g h i=>exact one _ _ (.msl a b c d e f g h i) rfl rfl rfl
  | mptr a b c d e f=>exact one _ _ (.mptr a b c d e f) rfl rfl rfl
  | mmap a b c=>exact one _ _ (.mmap a b c) rfl rfl rfl
  | yld a b c=>exact one _ _ (.yld a b c) rfl rfl rfl
  | mmapN0 a=>exact one _ _ (.mmapN0 a) rfl rfl rfl
  | mmapN a b c d=>exact one _ _ (.mmapN a b c d) rfl rfl rfl
  | fnc a b c d e=>exact one _ _ (.fnc a b c d e) rfl rfl rfl
  | ifc a b c d=>exact one _ _ (.ifc a b c d) rfl rfl rfl
def BRep (w:World) (g:Gh) (i:Nat):Blk->Prop
  | .dead=>True
  | .hole=>g.phi i=none
  | .flat ty sz es=>(es=[]/\g.phi i=none)\/∃ b cells,g.phi i=some b/\w.heap[b]?=some (.cells cells ty (0,0))/\g.psi i=cells.size/\es.length * sz<=cells.size/\
      (∀ (k:Nat) (e:D),es[k]?=some e->e.cells.length=sz)/\(∀ (k:Nat) (e:D) (j:Nat) (c:D),es[k]?=some e->e.cells[j]?=some c->c.one=true)/\
      ∀ (k:Nat) (e:D) (j:Nat) (c:D),es[k]?=some e->e.cells[j]?=some c->∃ v,cells[k * sz+j]?=some v/\DRep w g.X c v
  | .box ty cs=>∃ b cells,g.phi i=some b/\w.heap[b]?=some (.cells cells ty (0,0))/\g.psi i=cells.size/\cs.length=cells.size/\
      ∀ (j:Nat) (c:AV) (v:Value),cs[j]?=some c->cells[j]?=some v->ARep w g c v
  | .map _ _ es=>(es=[]/\g.phi i=none)\/∃ b ents clock,g.phi i=some b/\w.heap[b]?=some (.map ents clock)/\ents.size=es.length/\
      ∀ (k:Nat) (e:D×D) (m:MapEntry),es[k]?=some e->ents[k]?=some m->DRep w g.X e.1 m.key/\DRep w g.X e.2 m.val
  | .ob o=>∃ b,g.phi i=some b/\w.heap[b]?=some o
  | .lp s pd ps asg body n fr=>∃ b r,g.phi i=some b/\w.heap[b]?=some (.loop r)/\r.state=s/\r.pending=pd/\r.params=ps/\r.assign=asg/\r.body=body/\r.tmps.size=n/\∀ t,ARep w g (Fr.get fr t) (r.tmps.getD t undef)
theorem BRep.mono {w w':World} {g g':Gh} {i:Nat} {B:Blk} (h:BRep w g i B) (hg:Grow w g w' g') (hn:g.phi i=none->g'.phi i=none)
    (hb:∀ b,g.phi i=some b->w'.heap[b]?=w.heap[b]?):BRep w' g' i B:=by
  cases B with
  | dead=>trivial
  | hole=>exact hn h
  | flat ty sz es=>
    rcases h with ⟨he,hp⟩|⟨b,cells,hp,hw,hs,hl,h0,h1,hr⟩
    · exact .inl ⟨he,hn hp⟩
    refine .inr ⟨b, cells, hg.phi _ _ hp, (hb b hp).trans hw, (hg.psi _ _ hp).trans hs, hl, h0, h1, fun k e j c he hc => ?_⟩;obtain⟨v,hv,hd⟩:=hr k e j c he hc;exact⟨v,hv,hd.mono hg.X hg.mem⟩
  | box ty cs=>
    obtain⟨b,cells,hp,hw,hs,hl,hr⟩:=h;exact⟨b,cells,hg.phi _ _ hp,(hb b hp).trans hw,(hg.psi _ _ hp).trans hs,hl,λj c v hc hv=>(hr j c v hc hv).mono hg⟩
  | map kt vt es=>
    rcases h with ⟨he,hp⟩|⟨b,ents,clock,hp,hw,hs,hr⟩
    · exact .inl ⟨he,hn hp⟩
    exact .inr ⟨b,ents,clock,hg.phi _ _ hp,(hb b hp).trans hw,hs,λk e m he hm=>⟨(hr k e m he hm).1.mono hg.X hg.mem,(hr k e m he hm).2.mono hg.X hg.mem⟩⟩
  | ob o=>obtain⟨b,hp,hw⟩:=h;exact⟨b,hg.phi _ _ hp,(hb b hp).trans hw⟩
  | lp s pd ps asg body n fr=>
    obtain⟨b,r,hp,hw,h1,h2,h3,h4,h5,h6,hr⟩:=h;exact⟨b,r,hg.phi _ _ hp,(hb b hp).trans hw,h1,h2,h3,h4,h5,h6,λt=>(hr t).mono hg⟩
structure St where
  fr:Fr
  hp:List Blk
structure Ctx where
  P:Program
  n:Nat
  w0:World
  k:Nat
  g0:Gh
  mv:Nat->Bool
abbrev qML:List (Nat×List Value):=[(0,[.int .i64 1,.int .i64 0,.int .i64 1,.int .i64 0,.int .i64 1,.int .i64 1,.int .i64 0,.int .i64 0,.int .i64 2,.int .i64 0,.int .i64 1,.int .i64 1,.int .i64 2,.int .i64 0,.int .i64 2,.int .i64 2,.int .i64 2,.int .i64 1,.int .i64 0,.int .i64 1,.int .i64 2,.int .i64 2,.int .i64 0,.int .i64 2,.int .i64 3,.int .i64 0,.int .i64 1,.int .i64 0,.int .i64 3,.int .i64 1,.int .i64 0,.int .i64 0,.int .i64 3,.int .i64 2,.int .i64 3,.int .i64 0,.int .i64 3,.int .i64 3,.int .i64 2,.int .i64 0])]
def qYR (w:World) (g:Gh):Prop:=∀ x∈qML,(∃ t fz,w.heap[x.1]?=some (.cells x.2.toArray t fz))/\∀ i,g.phi i≠some x.1
structure Sim (C:Ctx) (st:St) (g:Gh) (a:Act) (w:World):Prop where
  defers:a.defers=[]
  size:a.tmps.size=C.n
  fr:∀ t,ARep w g (st.fr.get t) (a.tmps.getD t undef)
  hp:∀ (i:Nat) (B:Blk),st.hp[i]?=some B->BRep w g i B
  lt:∀ (i b:Nat),g.phi i=some b->b < w.heap.size/\i < st.hp.length/\¬ g.X b
  inj:∀ (i j b:Nat) (Bi Bj:Blk),st.hp[i]?=some Bi->st.hp[j]?=some Bj->Bi≠.dead->Bj≠.dead->g.phi i=some b->g.phi j=some b->i=j
  Xlt:∀ b,g.X b->b < w.heap.size
  Xold:∀ b,g.X b->b < C.w0.heap.size->C.g0.X b
  os:w.os=C.w0.os
  tape:w.tape=C.w0.tape
  output:w.output=C.w0.output
  drawn:C.w0.drawn<=w.drawn
  grown:C.w0.heap.size<=w.heap.size
  keep:∀ b,b < C.w0.heap.size->(∀ i,i < C.k->C.g0.phi i≠some b)->w.heap[b]?=C.w0.heap[b]?
  own:∀ (i b:Nat),g.phi i=some b->b < C.w0.heap.size->i < C.k/\C.g0.phi i=some b
  stay:∀ (i b:Nat),i < C.k->C.mv i=false->C.g0.phi i=some b->g.psi i=C.g0.psi i/\g.phi i=some b
  kle:C.k<=st.hp.length
  laid:qYR C.w0 C.g0
theorem Sim.laidW {C:Ctx} {st:St} {g:Gh} {a:Act} {w:World} (h:Sim C st g a w):qYR w g:=λx hx=>by
  obtain⟨⟨t,fz,e⟩,hn⟩:=h.laid x hx;have hlt:x.1 < C.w0.heap.size:=(Array.getElem?_eq_some_iff.1 e).1;exact⟨⟨t,fz,(h.keep x.1 hlt λi _=>hn i).trans e⟩,λi hi=>hn i (h.own i x.1 hi hlt).2⟩
variable {C:Ctx} {st:St} {g:Gh} {a:Act} {w:World}
theorem zBO (xs:Array Value) (d t:Nat) (v:Value) (hd:d < xs.size):(xs.setIfInBounds d v).getD t undef=if d=t then v else xs.getD t undef:=by
  simp only [Array.getD_eq_getD_getElem?,Array.getElem?_setIfInBounds];split
  · rename_i h;subst h;simp
  rfl
theorem Sim.put (h:Sim C st g a w) {d:Nat} (hd:d < C.n) {x:AV} {v:Value} (hx:ARep w g x v):Sim C ⟨(d,x) :: st.fr,st.hp⟩ g (a.put (some d) v) w:=by
  refine { h with size:=?_,fr:=?_ }
  · simpa [Act.put] using h.size
  intro t;simp only [Act.put,Fr.get];rw [zBO _ _ _ _ (by rw [h.size];exact hd)];split
  · exact hx
  exact h.fr t
theorem Sim.forget (h:Sim C st g a w) {fr:Fr} (hf:∀ t,Fr.get fr t=st.fr.get t\/Fr.get fr t=.junk):Sim C ⟨fr,st.hp⟩ g a w:=
  by
  refine { h with fr:=λt=>?_ };rcases hf t with e|e
  · simp only [e];exact h.fr t
  simp only [e];exact .junk _
theorem Sim.sameHeap (h:Sim C st g a w) {w':World} (hh:w'.heap=w.heap) (ho:w'.os=w.os) (ht:w'.tape=w.tape) (hout:w'.output=w.output) (hdr:w.drawn<=w'.drawn):Sim C st g a w':=by
  have hg:Grow w g w' g:=⟨λ_ _ h=>h,λ_ _ _=>rfl,λ_ h=>h,λ_ _=>by rw [hh]⟩
  exact { defers := h.defers, size := h.size, fr := fun t => (h.fr t).mono hg
          hp := fun i B hB => (h.hp i B hB).mono hg id fun b _ => by rw [hh]
          lt := by rw [hh]; exact h.lt
          inj := h.inj, Xlt := by rw [hh]; exact h.Xlt, Xold := h.Xold, os := ho.trans h.os, tape := ht.trans h.tape, output := hout.trans h.output, drawn := Nat.le_trans h.drawn hdr
          grown := by rw [hh]; exact h.grown
          keep := by rw [hh]; exact h.keep
          own := h.own, stay := h.stay, kle := h.kle, laid := h.laid }
theorem Sim.drew (h:Sim C st g a w):Sim C st g a w.drew:=h.sameHeap rfl rfl rfl rfl (Nat.le_succ _)
def upd {α:Type} (f:Nat->α) (i:Nat) (x:α):Nat->α:=λj=>if j=i then x else f j
theorem qZB {α:Type} (f:Nat->α) (i:Nat) (x:α):upd f i x i=x:=by simp [upd]
def Gh.new (g:Gh) (i b n:Nat):Gh:={ g with phi:=upd g.phi i (some b),psi:=upd g.psi i n }
theorem cX (w:World) (o:Obj) (b:Nat) (hb:b < w.heap.size):(w.alloc o).heap[b]?=w.heap[b]?:=heap_alloc_old w o b hb
theorem Sim.phi_none (h:Sim C st g a w) {i:Nat} (hi:st.hp.length<=i):g.phi i=none:=by
  cases hp:g.phi i with
  | none=>rfl
  | some b=>have:=(h.lt i b hp).2.1;omega
theorem Sim.grow_new (h:Sim C st g a w) (o:Obj) (n:Nat):Grow w g (w.alloc o) (g.new st.hp.length w.heap.size n):=by
  refine⟨λi b hp=>?_,λi b hp=>?_,λb hX=>hX,λb hX=>cX w o b (h.Xlt b hX)⟩
  · have:=(h.lt i b hp).2.1
    simpa [Gh.new,upd,show i≠st.hp.length by omega] using hp
  have:=(h.lt i b hp).2.1;simp [Gh.new,upd,show i≠st.hp.length by omega]
theorem Sim.alloc (h:Sim C st g a w) {o:Obj} {n:Nat} {B:Blk} (hB:BRep (w.alloc o) (g.new st.hp.length w.heap.size n) st.hp.length B):
    Sim C ⟨st.fr,st.hp++[B]⟩ (g.new st.hp.length w.heap.size n) a (w.alloc o):=by
  have hg:=h.grow_new o n
  have hkeep:∀ i b,(g.new st.hp.length w.heap.size n).phi i=some b->(i=st.hp.length/\b=w.heap.size)\/(i≠st.hp.length/\g.phi i=some b):=by
    intro i b hp;by_cases hi:i=st.hp.length
    · subst hi;simp [Gh.new,upd] at hp;exact .inl ⟨rfl,hp.symm⟩
    simp [Gh.new,upd,hi] at hp;exact .inr ⟨hi,hp⟩
  refine { defers:=h.defers,size:=h.size,fr:=λt=>(h.fr t).mono hg,hp:=?_,lt:=?_,inj:=?_,Xlt:=?_,Xold:=h.Xold,os:=h.os,tape:=h.tape,output:=h.output,drawn:=h.drawn,grown:=?_,keep:=?_,own:=?_,stay:=?_,kle:=?_,laid:=h.laid }
  · intro i B' hi
    simp only [List.getElem?_append] at hi;split at hi
    · rename_i hlt
      refine (h.hp i B' hi).mono hg (λhn=>by simpa [Gh.new,upd,show i≠st.hp.length by omega] using hn) λb hb=>cX w o b (h.lt i b hb).1
    rename_i hge
    have:i=st.hp.length:=by
      rcases Nat.lt_or_ge (i - st.hp.length) 1 with h1|h1
      · omega
      rw [List.getElem?_eq_none (by simpa using h1)] at hi;cases hi
    subst this;simp at hi;subst hi;exact hB
  · intro i b hp
    simp only [World.size_alloc,List.length_append,List.length_cons,List.length_nil];rcases hkeep i b hp with ⟨rfl,rfl⟩|⟨_,hp'⟩
    · exact⟨by omega,by omega,λhX=>by have:=h.Xlt _ hX;omega⟩
    have:=h.lt i b hp';exact⟨by omega,by omega,this.2.2⟩
  · intro i j b Bi Bj hBi hBj hdi hdj hi hj
    rcases hkeep i b hi with ⟨rfl,rfl⟩|⟨h1,hi'⟩<;>rcases hkeep j _ hj with ⟨rfl,h2⟩|⟨h3,hj'⟩
    · rfl
    · have:=(h.lt _ _ hj').1;omega
    · have:=(h.lt _ _ hi').1;omega
    have l1:=(h.lt _ _ hi').2.1;have l2:=(h.lt _ _ hj').2.1;rw [List.getElem?_append,if_pos l1] at hBi;rw [List.getElem?_append,if_pos l2] at hBj;exact h.inj i j b Bi Bj hBi hBj hdi hdj hi' hj'
  · intro b hX;have:=h.Xlt b hX;simp only [World.size_alloc];omega
  · have:=h.grown;simp only [World.size_alloc];omega
  · intro b hb hk;rw [cX w o b (by have:=h.grown;omega)];exact h.keep b hb hk
  · intro i b hp hb
    rcases hkeep i b hp with ⟨rfl,rfl⟩|⟨_,hp'⟩
    · have:=h.grown;omega
    exact h.own i b hp' hb
  · intro i b hi hm hp
    have hne:i≠st.hp.length:=by have:=h.kle;omega
    have:=h.stay i b hi hm hp;simpa [Gh.new,upd,hne] using this
  have:=h.kle;simp only [List.length_append,List.length_cons,List.length_nil];omega
theorem Sim.virt (h:Sim C st g a w) (ty sz:Nat):Sim C ⟨st.fr,st.hp++[.flat ty sz []]⟩ g a w:=by
  refine { h with hp:=?_,lt:=?_,inj:=?_,kle:=?_ }
  · intro i B hi
    simp only [List.getElem?_append] at hi;split at hi
    · exact h.hp i B hi
    rename_i hge
    have:i=st.hp.length:=by
      rcases Nat.lt_or_ge (i - st.hp.length) 1 with h1|h1
      · omega
      rw [List.getElem?_eq_none (by simpa using h1)] at hi;cases hi
    subst this;simp at hi;subst hi;exact .inl ⟨rfl,h.phi_none (Nat.le_refl _)⟩
  · intro i b hp
    have:=h.lt i b hp;simp only [List.length_append,List.length_cons,List.length_nil];exact⟨this.1,by omega,this.2.2⟩
  · intro i j b Bi Bj hBi hBj hdi hdj hi hj
    have l1:=(h.lt _ _ hi).2.1;have l2:=(h.lt _ _ hj).2.1;rw [List.getElem?_append,if_pos l1] at hBi;rw [List.getElem?_append,if_pos l2] at hBj;exact h.inj i j b Bi Bj hBi hBj hdi hdj hi hj
  have:=h.kle;simp only [List.length_append,List.length_cons,List.length_nil];omega
def Gh.wide (g:Gh) (b:Nat):Gh:={ g with X:=λc=>g.X c\/c=b }
theorem Sim.allocX (h:Sim C st g a w) (o:Obj):Sim C st (g.wide w.heap.size) a (w.alloc o)/\Grow w g (w.alloc o) (g.wide w.heap.size):=by
  have hg:Grow w g (w.alloc o) (g.wide w.heap.size):=⟨λ_ _ h=>h,λ_ _ _=>rfl,λ_ h=>.inl h,λb hX=>cX w o b (h.Xlt b hX)⟩
  refine ⟨{ defers := h.defers, size := h.size, fr := fun t => (h.fr t).mono hg
            hp := fun i B hB => (h.hp i B hB).mono hg id fun b hb => cX w o b (h.lt i b hb).1
            lt := ?_, inj := h.inj, Xlt := ?_, Xold := ?_, os := h.os, tape := h.tape, output := h.output, drawn := h.drawn, grown := ?_, keep := ?_, own := h.own, stay := h.stay, kle := h.kle, laid := h.laid }, hg⟩
  · intro i b hp
    have:=h.lt i b hp;refine⟨by simp only [World.size_alloc];omega,this.2.1,λhX=>?_⟩;rcases hX with hX|hX
    · exact this.2.2 hX
    omega
  · intro b hX
    simp only [World.size_alloc];rcases hX with hX|hX
    · have:=h.Xlt b hX;omega
    omega
  · intro b hX hb
    rcases hX with hX|hX
    · exact h.Xold b hX hb
    have:=h.grown;omega
  · have:=h.grown;simp only [World.size_alloc];omega
  intro b hb hk;rw [cX w o b (by have:=h.grown;omega)];exact h.keep b hb hk
theorem Sim.change (h:Sim C st g a w) {i b:Nat} {B0:Blk} (hB0:st.hp[i]?=some B0) (hd0:B0≠.dead) (hp:g.phi i=some b) {w':World} (hsz:w'.heap.size=w.heap.size) (ho:w'.os=w.os) (ht:w'.tape=w.tape) (hout:w'.output=w.output) (hdr:w.drawn<=w'.drawn)
    (hoth:∀ b',b'≠b->w'.heap[b']?=w.heap[b']?) {B:Blk} (hB:BRep w' g i B):Sim C ⟨st.fr,st.hp.set i B⟩ g a w':=by
  have hnX:¬ g.X b:=(h.lt i b hp).2.2;have hg:Grow w g w' g:=⟨λ_ _ h=>h,λ_ _ _=>rfl,λ_ h=>h,λc hX=>hoth c λe=>hnX (e ▸ hX)⟩;refine { defers:=h.defers,size:=h.size,fr:=λt=>(h.fr t).mono hg,hp:=?_,lt:=?_,inj:=?_,Xlt:=?_,Xold:=h.Xold,os:=ho.trans h.os,tape:=ht.trans h.tape,output:=hout.trans h.output,drawn:=Nat.le_trans h.drawn hdr,grown:=?_,keep:=?_,own:=h.own,stay:=h.stay,kle:=?_,laid:=h.laid }
  · intro j B' hj
    rw [List.getElem?_set] at hj;split at hj
    · rename_i e;subst e
      split at hj
      · cases hj;exact hB
      cases hj
    rename_i hne;by_cases hdj:B'=.dead
    · subst hdj;trivial
    exact (h.hp j B' hj).mono hg id λc hc=>hoth c λe=>hne (h.inj i j b B0 B' hB0 hj hd0 hdj hp (e ▸ hc))
  · rw [hsz];simpa using h.lt
  · have inv:∀ (j:Nat) (Bj:Blk),(st.hp.set i B)[j]?=some Bj->Bj≠.dead->∃ B',st.hp[j]?=some B'/\B'≠.dead:=by
      intro j Bj hj hd;rw [List.getElem?_set] at hj;split at hj
      · rename_i e;subst e;exact⟨B0,hB0,hd0⟩
      exact⟨Bj,hj,hd⟩
    intro j j' c Bj Bj' h1 h2 h3 h4 h5 h6;obtain⟨B1,e1,d1⟩:=inv j Bj h1 h3;obtain⟨B2,e2,d2⟩:=inv j' Bj' h2 h4;exact h.inj j j' c B1 B2 e1 e2 d1 d2 h5 h6
  · rw [hsz];exact h.Xlt
  · rw [hsz];exact h.grown
  · intro c hc hk
    have hne:c≠b:=by
      intro e;subst e;obtain⟨hj,h0⟩:=h.own i c hp hc;exact hk i hj h0
    rw [hoth c hne];exact h.keep c hc hk
  simpa using h.kle
def AV.isRef:AV->Bool
  | .msl ..|.mptr ..|.mmap _|.yld _|.mmapN ..=>true
  | _=>false
mutual
def AV.mapRef (F:AV->AV):AV->AV
  | .junk=>.junk
  | .und=>.und
  | .d x=>.d x
  | .msl i s o l=>F (.msl i s o l)
  | .mptr i s x o=>F (.mptr i s x o)
  | .mmap i=>F (.mmap i)
  | .yld i=>F (.yld i)
  | .mmapN i n=>F (.mmapN i n)
  | .agg cs=>.agg (AV.mapRefs F cs)
  | .tup cs=>.tup (AV.mapRefs F cs)
  | .fnc f cs=>.fnc f (AV.mapRefs F cs)
  | .ifc t c=>.ifc t (AV.mapRef F c)
def AV.mapRefs (F:AV->AV):List AV->List AV
  | []=>[]
  | c :: r=>AV.mapRef F c :: AV.mapRefs F r
end
theorem AV.mapRefs_eq (F:AV->AV):∀ cs:List AV,AV.mapRefs F cs=cs.map (AV.mapRef F)
  | []=>rfl
  | c :: r=>by simp [AV.mapRefs,AV.mapRefs_eq F r]
theorem ARep.mapRef {w w':World} {g g':Gh} {F:AV->AV} (hD:∀ d v,DRep w g.X d v->DRep w' g'.X d v)
    (hF:∀ x v,ARep w g x v->x.isRef=true->ARep w' g' (F x) v) {x:AV} {v:Value} (h:ARep w g x v):ARep w' g' (x.mapRef F) v:=by
  induction h with
  | junk=>exact .junk _
  | und=>exact .und
  | d d v h=>exact .d d v (hD d v h)
  | msl0 i s o a=>exact hF _ _ (.msl0 i s o a) rfl
  | msl i s o l c b h1 h2 h3=>exact hF _ _ (.msl i s o l c b h1 h2 h3) rfl
  | mptr i s x o b h=>exact hF _ _ (.mptr i s x o b h) rfl
  | mmap i b h=>exact hF _ _ (.mmap i b h) rfl
  | yld i b h=>exact hF _ _ (.yld i b h) rfl
  | mmapN0 i=>exact hF _ _ (.mmapN0 i) rfl
  | mmapN i n b h=>exact hF _ _ (.mmapN i n b h) rfl
  | agg cs vs hl _ ih=>
    simp only [AV.mapRef,AV.mapRefs_eq];refine .agg _ vs (by simpa using hl) λi c v hc hv=>?_;simp only [List.getElem?_map,Option.map_eq_some_iff] at hc;obtain⟨c',hc',rfl⟩:=hc;exact ih i c' v hc' hv
  | tup cs vs hl _ ih=>
    simp only [AV.mapRef,AV.mapRefs_eq];refine .tup _ vs (by simpa using hl) λi c v hc hv=>?_;simp only [List.getElem?_map,Option.map_eq_some_iff] at hc;obtain⟨c',hc',rfl⟩:=hc;exact ih i c' v hc' hv
  | fnc f cs vs hl _ ih=>
    simp only [AV.mapRef,AV.mapRefs_eq];refine .fnc f _ vs (by simpa using hl) λi c v hc hv=>?_;simp only [List.getElem?_map,Option.map_eq_some_iff] at hc;obtain⟨c',hc',rfl⟩:=hc;exact ih i c' v hc' hv
  | ifc t c v _ ih=>exact .ifc t _ v ih
def Fr.mapRef (F:AV->AV):Fr->Fr
  | []=>[]
  | (t,v) :: r=>(t,v.mapRef F) :: Fr.mapRef F r
theorem Fr.get_mapRef (F:AV->AV):∀ (fr:Fr) (t:Nat),(Fr.mapRef F fr).get t=(fr.get t).mapRef F
  | [],_=>rfl
  | (k,v) :: r,t=>by
    simp only [Fr.mapRef,Fr.get];split
    · rfl
    exact Fr.get_mapRef F r t
def Blk.mapRef (F:AV->AV):Blk->Blk
  | .dead=>.dead
  | .hole=>.hole
  | .flat ty sz es=>.flat ty sz es
  | .box ty cs=>.box ty (AV.mapRefs F cs)
  | .map kt vt es=>.map kt vt es
  | .ob o=>.ob o
  | .lp s pd ps asg body n fr=>.lp s pd ps asg body n (Fr.mapRef F fr)
theorem BRep.mapRef {w:World} {g g':Gh} {F:AV->AV} {i j:Nat} (hphi:g'.phi j=g.phi i) (hpsi:g'.psi j=g.psi i) (hX:∀ b,g.X b->g'.X b)
    (hF:∀ x v,ARep w g x v->x.isRef=true->ARep w g' (F x) v) {B:Blk} (h:BRep w g i B):BRep w g' j (B.mapRef F):=by
  cases B with
  | dead=>trivial
  | hole=>exact hphi.trans h
  | flat ty sz es=>
    rcases h with ⟨he,hp⟩|⟨b,cells,hp,hw,hs,hl,h0,h1,hr⟩
    · exact .inl ⟨he,hphi.trans hp⟩
    refine .inr ⟨b, cells, hphi.trans hp, hw, hpsi.trans hs, hl, h0, h1, fun k e j c he hc => ?_⟩;obtain⟨v,hv,hd⟩:=hr k e j c he hc;exact⟨v,hv,hd.mono hX λ_ _=>rfl⟩
  | box ty cs=>
    obtain⟨b,cells,hp,hw,hs,hl,hr⟩:=h;refine⟨b,cells,hphi.trans hp,hw,hpsi.trans hs,by simpa [AV.mapRefs_eq] using hl,λj c v hc hv=>?_⟩;simp only [AV.mapRefs_eq,List.getElem?_map,Option.map_eq_some_iff] at hc;obtain⟨c',hc',rfl⟩:=hc;exact (hr j c' v hc' hv).mapRef (λd v h=>h.mono hX λ_ _=>rfl) hF
  | map kt vt es=>
    rcases h with ⟨he,hp⟩|⟨b,ents,clock,hp,hw,hs,hr⟩
    · exact .inl ⟨he,hphi.trans hp⟩
    exact .inr ⟨b,ents,clock,hphi.trans hp,hw,hs,λk e m he hm=>⟨(hr k e m he hm).1.mono hX λ_ _=>rfl,(hr k e m he hm).2.mono hX λ_ _=>rfl⟩⟩
  | ob o=>obtain⟨b,hp,hw⟩:=h;exact⟨b,hphi.trans hp,hw⟩
  | lp s pd ps asg body n fr=>
    obtain⟨b,r,hp,hw,h1,h2,h3,h4,h5,h6,hr⟩:=h;exact⟨b,r,hphi.trans hp,hw,h1,h2,h3,h4,h5,h6,λt=>by rw [Fr.get_mapRef];exact (hr t).mapRef (λd v h=>h.mono hX λ_ _=>rfl) hF⟩
def toName (f:Nat->Option Nat):AV->AV
  | .msl i s o l=>match f i with|some j=>.msl j s o l|none=>.junk
  | .mptr i s x o=>match f i with|some j=>.mptr j s x o|none=>.junk
  | .mmap i=>match f i with|some j=>.mmap j|none=>.junk
  | .yld i=>match f i with|some j=>.yld j|none=>.junk
  | .mmapN i n=>match f i with|some j=>.mmapN j n|none=>.junk
  | v=>v
theorem ARep.toName {w:World} {g g':Gh} {f:Nat->Option Nat} (hf:∀ i j,f i=some j->g'.phi j=g.phi i/\g'.psi j=g.psi i) (_hX:∀ b,g.X b->g'.X b) (x:AV) (v:Value) (h:ARep w g x v)
    (hr:x.isRef=true):ARep w g' (TL.toName f x) v:=by
  cases h with
  | msl0 id sz off a=>
    simp only [TL.toName];split
    · exact .msl0 _ _ _ _
    exact .junk _
  | msl id sz off len cap b hb hc hp=>
    simp only [TL.toName];split
    · rename_i j hj
      exact .msl _ _ _ _ _ b ((hf _ _ hj).1.trans hb) hc (by rw [(hf _ _ hj).2];exact hp)
    exact .junk _
  | mptr id sz idx off b hb=>
    simp only [TL.toName];split
    · rename_i j hj
      exact .mptr _ _ _ _ b ((hf _ _ hj).1.trans hb)
    exact .junk _
  | mmap id b hb=>
    simp only [TL.toName];split
    · rename_i j hj
      exact .mmap _ b ((hf _ _ hj).1.trans hb)
    exact .junk _
  | yld id b hb=>
    simp only [TL.toName];split
    · rename_i j hj
      exact .yld _ b ((hf _ _ hj).1.trans hb)
    exact .junk _
  | mmapN0 id=>
    simp only [TL.toName];split
    · exact .mmapN0 _
    exact .junk _
  | mmapN id n b hb=>
    simp only [TL.toName];split
    · rename_i j hj
      exact .mmapN _ _ b ((hf _ _ hj).1.trans hb)
    exact .junk _
  | _=>cases hr
theorem pD:∀ {l:List Nat},l.Nodup->∀ {i j x:Nat},l[i]?=some x->l[j]?=some x->i=j
  | [],_,i,_,_,hi,_=>by simp at hi
  | y :: r,hn,i,j,x,hi,hj=>by
    simp only [List.nodup_cons] at hn
    cases i with
    | zero=>
      cases j with
      | zero=>rfl
      | succ j=>simp at hi hj;subst hi;exact absurd (List.mem_of_getElem? hj) hn.1
    | succ i=>
      cases j with
      | zero=>simp at hi hj;subst hj;exact absurd (List.mem_of_getElem? hi) hn.1
      | succ j=>simp at hi hj;rw [pD hn.2 hi hj]
def bG:List Nat->Nat->Option Nat
  | [],_=>none
  | x :: r,i=>if x=i then some 0 else (bG r i).map (·+1)
theorem bT:∀ (l:List Nat) (i j:Nat),bG l i=some j->l[j]?=some i
  | [],_,_,h=>by cases h
  | x :: r,i,j,h=>by
    simp only [bG] at h;split at h
    · rename_i e;cases h;simp [e]
    simp only [Option.map_eq_some_iff] at h;obtain⟨k,hk,rfl⟩:=h;simpa using bT r i k hk
def Fr.keep (ks:List Nat) (fr:Fr):Fr:=ks.map λt=>(t,fr.get t)
theorem Fr.get_keep (fr:Fr):∀ (ks:List Nat) (t:Nat),(Fr.keep ks fr).get t=fr.get t\/(Fr.keep ks fr).get t=.junk
  | [],_=>.inr rfl
  | k :: r,t=>by
    simp only [Fr.keep,List.map_cons,Fr.get];split
    · rename_i e;subst e;exact .inl rfl
    exact Fr.get_keep fr r t
def St.canon (ks ids:List Nat) (st:St):St:=
  ⟨Fr.mapRef (toName (bG ids)) (Fr.keep ks st.fr),ids.map λi=>(st.hp.getD i .dead).mapRef (toName (bG ids))⟩
def Gh.canon (ids:List Nat) (g:Gh):Gh:=
  { phi:=λj=>(ids[j]?).bind g.phi,psi:=λj=>((ids[j]?).map g.psi).getD 0,X:=g.X }
theorem Sim.canon (h:Sim C st g a w) (ks ids:List Nat) (hnd:ids.Nodup) (hk:∀ i,i < C.k->ids[i]?=some i):Sim C (st.canon ks ids) (g.canon ids) a w:=by
  have hphi:∀ i b,(g.canon ids).phi i=some b->∃ j,ids[i]?=some j/\g.phi j=some b:=by
    intro i b hp;simp only [Gh.canon,Option.bind_eq_some_iff] at hp;exact hp
  have hf:∀ i j,bG ids i=some j->(g.canon ids).phi j=g.phi i/\(g.canon ids).psi j=g.psi i:=by
    intro i j hij;have:=bT ids i j hij;simp [Gh.canon,this]
  refine { defers:=h.defers,size:=h.size,fr:=?_,hp:=?_,lt:=?_,inj:=?_,Xlt:=h.Xlt,Xold:=h.Xold,os:=h.os,tape:=h.tape,output:=h.output,drawn:=h.drawn,grown:=h.grown,keep:=h.keep,own:=?_,stay:=?_,kle:=?_,laid:=h.laid }
  · intro t
    simp only [St.canon,Fr.get_mapRef];refine ARep.mapRef (w:=w) (g:=g) (g':=g.canon ids) (λd v hd=>hd) (ARep.toName hf λ_ hb=>hb) ?_;rcases Fr.get_keep st.fr ks t with e|e<;>rw [e]
    · exact h.fr t
    exact .junk _
  · intro i B hi
    simp only [St.canon,List.getElem?_map,Option.map_eq_some_iff] at hi;obtain⟨j,hj,rfl⟩:=hi
    cases hB:st.hp[j]? with
    | none=>simp [List.getD,hB,Blk.mapRef,BRep]
    | some B=>
      rw [List.getD_eq_getElem?_getD,hB];exact BRep.mapRef (i:=j) (g:=g) (g':=g.canon ids) (by simp [Gh.canon,hj]) (by simp [Gh.canon,hj]) (λ_ hb=>hb) (ARep.toName hf λ_ hb=>hb) (h.hp j B hB)
  · intro i b hp
    obtain⟨j,hj,hp'⟩:=hphi i b hp;have:=h.lt j b hp';exact⟨this.1,by simpa [St.canon] using (List.getElem?_eq_some_iff.1 hj).1,this.2.2⟩
  · intro i j b Bi Bj hBi hBj hdi hdj hi hj
    obtain⟨i',hi',hpi⟩:=hphi i b hi;obtain⟨j',hj',hpj⟩:=hphi j b hj
    have inv:∀ (m m':Nat) (Bm:Blk),ids[m]?=some m'->(st.canon ks ids).hp[m]?=some Bm->Bm≠.dead->∃ B',st.hp[m']?=some B'/\B'≠.dead:=by
      intro m m' Bm hm hB hd;simp only [St.canon,List.getElem?_map,hm,Option.map_some,Option.some.injEq] at hB
      cases hh:st.hp[m']? with
      | none=>rw [List.getD_eq_getElem?_getD,hh] at hB;subst hB;exact absurd rfl hd
      | some B'=>
        refine⟨B',rfl,λe=>?_⟩;subst e;rw [List.getD_eq_getElem?_getD,hh] at hB;subst hB;exact hd rfl
    obtain⟨B1,e1,d1⟩:=inv i i' Bi hi' hBi hdi;obtain⟨B2,e2,d2⟩:=inv j j' Bj hj' hBj hdj;have e:=h.inj i' j' b B1 B2 e1 e2 d1 d2 hpi hpj;subst e;exact pD hnd hi' hj'
  · intro i b hp hb
    obtain⟨j,hj,hp'⟩:=hphi i b hp;obtain⟨h1,h2⟩:=h.own j b hp' hb;have e:i=j:=pD hnd hj (hk j h1);subst e;exact⟨h1,h2⟩
  · intro i b hi hm hp
    have:=h.stay i b hi hm hp;simpa [Gh.canon,hk i hi] using this
  simp only [St.canon,List.length_map];rcases Nat.lt_or_ge ids.length C.k with hlt|hge
  · have:=hk ids.length hlt;simp at this
  exact hge
def purge (i:Nat):AV->AV
  | .msl j s o l=>if j=i then .junk else .msl j s o l
  | .mptr j s x o=>if j=i then .junk else .mptr j s x o
  | .mmap j=>if j=i then .junk else .mmap j
  | .yld j=>if j=i then .junk else .yld j
  | .mmapN j n=>if j=i then .junk else .mmapN j n
  | v=>v
def St.purge (i:Nat) (st:St):St:=⟨Fr.mapRef (TL.purge i) st.fr,st.hp.map (Blk.mapRef (TL.purge i))⟩
theorem wT {i j:Nat} {B:Blk} (h:(st.purge i).hp[j]?=some B) (hd:B≠.dead):∃ B',st.hp[j]?=some B'/\B'≠.dead:=by
  simp only [St.purge,List.getElem?_map,Option.map_eq_some_iff] at h;obtain⟨B',hB',rfl⟩:=h;exact⟨B',hB',λe=>by subst e;exact hd rfl⟩
theorem Sim.purge (h:Sim C st g a w) (i:Nat):Sim C (st.purge i) g a w:=by
  have hF:∀ (x:AV) (v:Value),ARep w g x v->x.isRef=true->ARep w g (TL.purge i x) v:=by
    intro x v hx _;cases x<;>simp only [TL.purge]<;>(try exact hx)<;>split<;>first|exact .junk _|exact hx
  refine { h with fr:=λt=>?_,hp:=?_,lt:=?_,inj:=?_,kle:=?_ }
  · simp only [St.purge,Fr.get_mapRef]
    exact (h.fr t).mapRef (λd v hd=>hd) hF
  · intro j B hj
    simp only [St.purge,List.getElem?_map,Option.map_eq_some_iff] at hj;obtain⟨B',hB',rfl⟩:=hj;exact BRep.mapRef rfl rfl (λ_ hb=>hb) hF (h.hp j B' hB')
  · simpa [St.purge] using h.lt
  · intro j j' b Bj Bj' h1 h2 h3 h4 h5 h6
    obtain⟨B1,e1,d1⟩:=wT h1 h3;obtain⟨B2,e2,d2⟩:=wT h2 h4;exact h.inj j j' b B1 B2 e1 e2 d1 d2 h5 h6
  simpa [St.purge] using h.kle
theorem Sim.move (h:Sim C st g a w) {i:Nat} (hi:i < st.hp.length) (hm:i < C.k->C.mv i=true) {o:Obj} {n:Nat} {B:Blk} (hB:BRep (w.alloc o) (g.new i w.heap.size n) i B):
    Sim C ⟨(st.purge i).fr,(st.purge i).hp.set i B⟩ (g.new i w.heap.size n) a (w.alloc o):=by
  have hF:∀ (x:AV) (v:Value),ARep w g x v->x.isRef=true->ARep (w.alloc o) (g.new i w.heap.size n) (TL.purge i x) v:=by
    intro x v hx _;have hD:∀ b,g.X b->(w.alloc o).heap[b]?=w.heap[b]?:=λb hb=>cX w o b (h.Xlt b hb)
    cases hx with
    | msl0=>simp only [TL.purge];split<;>first|exact .junk _|exact .msl0 _ _ _ _
    | msl id sz off len cap b hb hc hp=>
      simp only [TL.purge];split
      · exact .junk _
      rename_i hne;exact .msl _ _ _ _ _ b (by simpa [Gh.new,upd,hne] using hb) hc (by simpa [Gh.new,upd,hne] using hp)
    | mptr id sz idx off b hb=>
      simp only [TL.purge];split
      · exact .junk _
      rename_i hne;exact .mptr _ _ _ _ b (by simpa [Gh.new,upd,hne] using hb)
    | mmap id b hb=>
      simp only [TL.purge];split
      · exact .junk _
      rename_i hne;exact .mmap _ b (by simpa [Gh.new,upd,hne] using hb)
    | yld id b hb=>
      simp only [TL.purge];split
      · exact .junk _
      rename_i hne;exact .yld _ b (by simpa [Gh.new,upd,hne] using hb)
    | mmapN0=>simp only [TL.purge];split<;>first|exact .junk _|exact .mmapN0 _
    | mmapN id n b hb=>
      simp only [TL.purge];split
      · exact .junk _
      rename_i hne;exact .mmapN _ _ b (by simpa [Gh.new,upd,hne] using hb)
    | d d v hd=>exact .d _ _ (hd.mono (λ_ hb=>hb) hD)
    | _=>contradiction
  have hD:∀ (d:D) (v:Value),DRep w g.X d v->DRep (w.alloc o) (g.new i w.heap.size n).X d v:=λd v hd=>hd.mono (λ_ hb=>hb) λb hb=>cX w o b (h.Xlt b hb)
  have hphi:∀ j b,(g.new i w.heap.size n).phi j=some b->(j=i/\b=w.heap.size)\/(j≠i/\g.phi j=some b):=by
    intro j b hp;by_cases hj:j=i
    · subst hj;simp [Gh.new,upd] at hp;exact .inl ⟨rfl,hp.symm⟩
    simp [Gh.new,upd,hj] at hp;exact .inr ⟨hj,hp⟩
  refine { defers:=h.defers,size:=h.size,fr:=λt=>?_,hp:=?_,lt:=?_,inj:=?_,Xlt:=?_,Xold:=h.Xold,os:=h.os,tape:=h.tape,output:=h.output,drawn:=h.drawn,grown:=?_,keep:=?_,own:=?_,stay:=?_,kle:=?_,laid:=h.laid }
  · simp only [St.purge,Fr.get_mapRef]
    exact (h.fr t).mapRef hD hF
  · intro j B' hj
    by_cases hji:j=i
    · subst hji
      simp only [St.purge] at hj;rw [List.getElem?_set,if_pos rfl] at hj;split at hj
      · cases hj;exact hB
      cases hj
    rw [List.getElem?_set, if_neg (fun e => hji e.symm)] at hj;simp only [St.purge,List.getElem?_map,Option.map_eq_some_iff] at hj;obtain⟨B0,hB0,rfl⟩:=hj;have h0:=h.hp j B0 hB0
    cases B0 with
    | dead=>trivial
    | hole=>
      have h0:g.phi j=none:=h0;show (g.new i w.heap.size n).phi j=none;simpa [Gh.new,upd,hji] using h0
    | flat ty sz es=>
      rcases h0 with ⟨he,hp⟩|⟨b,cells,hp,hw,hs,hl,h00,h1,hr⟩
      · exact .inl ⟨he,by simpa [Gh.new,upd,hji] using hp⟩
      refine .inr ⟨b, cells, by simpa [Gh.new, upd, hji] using hp, (cX w o b (h.lt j b hp).1).trans hw, by simpa [Gh.new, upd, hji] using hs, hl, h00, h1, fun k e jj c he hc => ?_⟩;obtain⟨v,hv,hd⟩:=hr k e jj c he hc;exact⟨v,hv,hD _ _ hd⟩
    | box ty cs=>
      obtain⟨b,cells,hp,hw,hs,hl,hr⟩:=h0;refine⟨b,cells,by simpa [Gh.new,upd,hji] using hp,(cX w o b (h.lt j b hp).1).trans hw,by simpa [Gh.new,upd,hji] using hs,by simpa [AV.mapRefs_eq] using hl,λjj c v hc hv=>?_⟩;simp only [AV.mapRefs_eq,List.getElem?_map,Option.map_eq_some_iff] at hc;obtain⟨c',hc',rfl⟩:=hc;exact (hr jj c' v hc' hv).mapRef hD hF
    | map kt vt es=>
      rcases h0 with ⟨he,hp⟩|⟨b,ents,clock,hp,hw,hs,hr⟩
      · exact .inl ⟨he,by simpa [Gh.new,upd,hji] using hp⟩
      exact .inr ⟨b,ents,clock,by simpa [Gh.new,upd,hji] using hp,(cX w o b (h.lt j b hp).1).trans hw,hs,λk e m he hm=>⟨hD _ _ (hr k e m he hm).1,hD _ _ (hr k e m he hm).2⟩⟩
    | ob q=>obtain⟨b,hp,hw⟩:=h0;exact⟨b,by simpa [Gh.new,upd,hji] using hp,(cX w o b (h.lt j b hp).1).trans hw⟩
    | lp s pd ps asg body n' fr=>
      obtain⟨b,r,hp,hw,h1,h2,h3,h4,h5,h6,hr⟩:=h0;exact⟨b,r,by simpa [Gh.new,upd,hji] using hp,(cX w o b (h.lt j b hp).1).trans hw,h1,h2,h3,h4,h5,h6,λt=>by rw [Fr.get_mapRef];exact (hr t).mapRef hD hF⟩
  · intro j b hp
    simp only [World.size_alloc,List.length_set,St.purge,List.length_map];rcases hphi j b hp with ⟨rfl,rfl⟩|⟨_,hp'⟩
    · exact⟨by omega,hi,λhX=>by have:=h.Xlt _ hX;omega⟩
    have:=h.lt j b hp';exact⟨by omega,this.2.1,this.2.2⟩
  · intro j j' b Bj Bj' hBj hBj' hdj hdj' hj hj'
    rcases hphi j b hj with ⟨rfl,rfl⟩|⟨h1,h1'⟩<;>rcases hphi j' _ hj' with ⟨rfl,h2⟩|⟨h3,h3'⟩
    · rfl
    · have:=(h.lt _ _ h3').1;omega
    · have:=(h.lt _ _ h1').1;omega
    rw [List.getElem?_set, if_neg (fun e => h1 e.symm)] at hBj;rw [List.getElem?_set,if_neg (λe=>h3 e.symm)] at hBj';obtain⟨B1,e1,d1⟩:=wT hBj hdj;obtain⟨B2,e2,d2⟩:=wT hBj' hdj';exact h.inj j j' b B1 B2 e1 e2 d1 d2 h1' h3'
  · intro b hX;have:=h.Xlt b hX;simp only [World.size_alloc];omega
  · have:=h.grown;simp only [World.size_alloc];omega
  · intro b hb hk;rw [cX w o b (by have:=h.grown;omega)];exact h.keep b hb hk
  · intro j b hp hb
    rcases hphi j b hp with ⟨rfl,rfl⟩|⟨_,hp'⟩
    · have:=h.grown;omega
    exact h.own j b hp' hb
  · intro j b hj hmj hp
    have hne:j≠i:=by
      intro e;subst e;rw [hm hj] at hmj;cases hmj
    have:=h.stay j b hj hmj hp;simpa [Gh.new,upd,hne] using this
  have:=h.kle;simpa [St.purge] using this
theorem Sim.hole (h:Sim C st g a w):Sim C ⟨st.fr,st.hp++[.hole]⟩ g a w:=by
  refine { h with hp:=?_,lt:=?_,inj:=?_,kle:=?_ }
  · intro i B hi
    simp only [List.getElem?_append] at hi;split at hi
    · exact h.hp i B hi
    rename_i hge
    have:i=st.hp.length:=by
      rcases Nat.lt_or_ge (i - st.hp.length) 1 with h1|h1
      · omega
      rw [List.getElem?_eq_none (by simpa using h1)] at hi;cases hi
    subst this;simp at hi;subst hi;exact h.phi_none (Nat.le_refl _)
  · intro i b hp
    have:=h.lt i b hp;simp only [List.length_append,List.length_cons,List.length_nil];exact⟨this.1,by omega,this.2.2⟩
  · intro i j b Bi Bj hBi hBj hdi hdj hi hj
    have l1:=(h.lt _ _ hi).2.1;have l2:=(h.lt _ _ hj).2.1;rw [List.getElem?_append,if_pos l1] at hBi;rw [List.getElem?_append,if_pos l2] at hBj;exact h.inj i j b Bi Bj hBi hBj hdi hdj hi hj
  have:=h.kle;simp only [List.length_append,List.length_cons,List.length_nil];omega
theorem Sim.grow_at (h:Sim C st g a w) (o:Obj) (n:Nat) {i:Nat} (hi:g.phi i=none):Grow w g (w.alloc o) (g.new i w.heap.size n):=by
  refine⟨λj b hp=>?_,λj b hp=>?_,λb hX=>hX,λb hX=>cX w o b (h.Xlt b hX)⟩
  · have hj : j ≠ i := fun e => by subst e; rw [hi] at hp; cases hp
    simpa [Gh.new,upd,hj] using hp
  have hj : j ≠ i := fun e => by subst e; rw [hi] at hp; cases hp
  simp [Gh.new,upd,hj]
theorem Sim.fill (h:Sim C st g a w) {i:Nat} (hh:st.hp[i]?=some .hole) {o:Obj} {n:Nat} {B:Blk} (hB:BRep (w.alloc o) (g.new i w.heap.size n) i B):
    Sim C ⟨st.fr,st.hp.set i B⟩ (g.new i w.heap.size n) a (w.alloc o):=by
  have hno:g.phi i=none:=h.hp i _ hh;have hi:i < st.hp.length:=(List.getElem?_eq_some_iff.1 hh).1;have hg:=h.grow_at o n hno
  have hphi:∀ j b,(g.new i w.heap.size n).phi j=some b->(j=i/\b=w.heap.size)\/(j≠i/\g.phi j=some b):=by
    intro j b hp;by_cases hj:j=i
    · subst hj;simp [Gh.new,upd] at hp;exact .inl ⟨rfl,hp.symm⟩
    simp [Gh.new,upd,hj] at hp;exact .inr ⟨hj,hp⟩
  refine { defers:=h.defers,size:=h.size,fr:=λt=>(h.fr t).mono hg,hp:=?_,lt:=?_,inj:=?_,Xlt:=?_,Xold:=h.Xold,os:=h.os,tape:=h.tape,output:=h.output,drawn:=h.drawn,grown:=?_,keep:=?_,own:=?_,stay:=?_,kle:=?_,laid:=h.laid }
  · intro j B' hj
    rw [List.getElem?_set] at hj;split at hj
    · rename_i e;subst e
      cases hj;exact hB
    rename_i hne;refine (h.hp j B' hj).mono hg (λhn=>?_) λb hb=>cX w o b (h.lt j b hb).1;simpa [Gh.new,upd,show j≠i from λe=>hne e.symm] using hn
  · intro j b hp
    simp only [World.size_alloc,List.length_set];rcases hphi j b hp with ⟨rfl,rfl⟩|⟨_,hp'⟩
    · exact⟨by omega,hi,λhX=>by have:=h.Xlt _ hX;omega⟩
    have:=h.lt j b hp';exact⟨by omega,this.2.1,this.2.2⟩
  · intro j j' b Bj Bj' hBj hBj' hdj hdj' hj hj'
    rcases hphi j b hj with ⟨rfl,rfl⟩|⟨h1,h1'⟩<;>rcases hphi j' _ hj' with ⟨rfl,h2⟩|⟨h3,h3'⟩
    · rfl
    · have:=(h.lt _ _ h3').1;omega
    · have:=(h.lt _ _ h1').1;omega
    rw [List.getElem?_set, if_neg (fun e => h1 e.symm)] at hBj;rw [List.getElem?_set,if_neg (λe=>h3 e.symm)] at hBj';exact h.inj j j' b Bj Bj' hBj hBj' hdj hdj' h1' h3'
  · intro b hX;have:=h.Xlt b hX;simp only [World.size_alloc];omega
  · have:=h.grown;simp only [World.size_alloc];omega
  · intro b hb hk;rw [cX w o b (by have:=h.grown;omega)];exact h.keep b hb hk
  · intro j b hp hb
    rcases hphi j b hp with ⟨rfl,rfl⟩|⟨_,hp'⟩
    · have:=h.grown;omega
    exact h.own j b hp' hb
  · intro j b hj hmj hp
    have hne:j≠i:=λe=>by
      subst e;have:=(h.stay j b hj hmj hp).2;rw [hno] at this;cases this
    have:=h.stay j b hj hmj hp;simpa [Gh.new,upd,hne] using this
  have:=h.kle;simpa using this
end Go.TL
