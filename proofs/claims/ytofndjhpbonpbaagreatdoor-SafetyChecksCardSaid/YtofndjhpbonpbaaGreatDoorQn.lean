/- Texts of this proof, joined, without what it does not use. No condition. -/
import Derived.Shelf.SlSortCmp.InsertionK
import Derived.Test.YtofndjhpbonpbaaGreatDoorQm

namespace Go.TL
open Go.Sort Go.Proofs
variable {C:Ctx} {st:St} {g:Gh} {a:Act} {w:World} {P:Program}
def D.val:D->Value
  | .bool b=>.bool b
  | .int k n=>.int k n
  | .str s=>.string s
  | _=>undef
def D.scal:D->Bool
  | .bool _|.int _ _|.str _=>true
  | _=>false
theorem qZO {X:Nat->Prop} {c:D} {v:Value} (hc:c.scal=true) (h:DRep w X c v):v=c.val:=by
  cases h<;>first|rfl|cases hc
theorem qNU {X:Nat->Prop} {c:D} (hc:c.scal=true):DRep w X c c.val:=by
  cases c<;>first|cases hc|skip
  · exact .bool _
  · exact .int _ _
  exact .str _
theorem qNV {c:D} (hc:c.scal=true):c.one=true/\c.val.oneCell'=true:=by
  cases c<;>first|exact⟨rfl,rfl⟩|cases hc
theorem Sim.grow (h:Sim C st g a w) (n:Nat) (os:Array Obj):Sim C st g a (Sort.grow (Sort.ahead w n) os):=by
  have hheap:∀ b,b < w.heap.size->(Sort.grow (Sort.ahead w n) os).heap[b]?=w.heap[b]?:=λb hb=>by
    show (w.heap++os)[b]?=_;rw [Array.getElem?_append,if_pos hb]
  have hsz:w.heap.size<=(Sort.grow (Sort.ahead w n) os).heap.size:=by show _<=(w.heap++os).size;simp
  have hg:Grow w g (Sort.grow (Sort.ahead w n) os) g:=⟨λ_ _ h=>h,λ_ _ _=>rfl,λ_ h=>h,λb hb=>hheap b (h.Xlt b hb)⟩
  exact { h with fr := fun t => (h.fr t).mono hg, hp := fun i B hi => (h.hp i B hi).mono hg id fun b hb => hheap b (h.lt i b hb).1,
                 lt := fun i b hb => ⟨Nat.lt_of_lt_of_le (h.lt i b hb).1 hsz, (h.lt i b hb).2⟩, Xlt := fun b hb => Nat.lt_of_lt_of_le (h.Xlt b hb) hsz,
                 drawn := Nat.le_trans h.drawn (Nat.le_add_right _ _), grown := Nat.le_trans h.grown hsz,
                 keep := fun b hb hk => by rw [hheap b (Nat.lt_of_lt_of_le hb h.grown)]; exact h.keep b hb hk }
theorem Out.grown' {hp':List Blk} {mv:Nat->Bool} {g g':Gh} {w':World} (h:Out ⟨P,0,w,0,g,mv⟩ hp' g' w'):∃ q os,w'=Sort.grow (w.drewN q) os:=by
  have hold:∀ b,b < w.heap.size->w'.heap[b]?=w.heap[b]?:=λb hb=>h.keep b hb λi hi=>absurd hi (zQV i);have hsz:w.heap.size<=w'.heap.size:=h.grown;have hd:w.drawn<=w'.drawn:=h.drawn;have e1:w'.os=w.os:=h.os;have e2:w'.tape=w.tape:=h.tape;have e3:w'.output=w.output:=h.output;refine⟨w'.drawn - w.drawn,w'.heap.extract w.heap.size w'.heap.size,?_⟩
  have hh:w'.heap=w.heap++w'.heap.extract w.heap.size w'.heap.size:=by
    apply Array.ext_getElem?;intro i;rw [Array.getElem?_append];split
    · rename_i hi;exact hold i hi
    rename_i hi;rw [Array.getElem?_extract];split
    · rw [Nat.add_sub_cancel' (Nat.le_of_not_lt hi)]
    rename_i hn;rw [Array.getElem?_eq_none_iff];omega
  cases w;cases w';simp only at e1 e2 e3 hh hd;subst e1 e2 e3;simp only [Sort.grow,World.drewN];rw [<- hh]
  congr 1
  omega
theorem qAF {α:Type} [Inhabited α] (enc:α->List Value) (k:Nat) (w:World) (blk off n:Nat) (d:Array α) (os:Array Obj) (b:Nat) (hb:b≠blk) (hlt:b < w.heap.size):(sortWorldK enc k w blk off n d os).heap[b]?=w.heap[b]?:=by
  show (((Sort.ahead w n).heap.modify blk _)++os)[b]?=_;rw [Array.getElem?_append,if_pos (by simpa [Sort.ahead] using hlt),Array.getElem?_modify,if_neg (λe=>hb e.symm)];rfl
theorem nB {α:Type} [Inhabited α] (enc:α->Value) (off:Nat) (d:Array α) (c:Array Value):(putCells enc off d c).size=c.size:=by simp [putCells]
theorem qAH {α:Type} [Inhabited α] (enc:α->Value) (off:Nat) (d:Array α) (c:Array Value) (k:Nat) (hk:k < c.size):(putCells enc off d c)[k]?=some (if off<=k/\k < off+d.size then enc d[k - off]! else c[k]):=by
  simp [putCells,hk]
theorem xE {d:D} (h:(d.cells.all D.scal)=true) {j:Nat} {c:D} (hc:d.cells[j]?=some c):c.scal=true:=zQT.1 h c (zQM hc)
theorem qNF {w:World} {X:Nat->Prop} {d:D} (h1:d.one=false) (hs:(d.cells.all D.scal)=true):DRep w X d (.agg (d.cells.map D.val).toArray):=by
  cases d<;>first|cases h1|skip
  rename_i cs;refine .agg cs _ (by simp [D.cells]) (λc hc=>(qNV (zQT.1 hs c hc)).1) λi c v hc hv=>?_;have hv':(cs.map D.val)[i]?=some v:=by simpa [D.cells] using hv
  rw [zQP,hc] at hv';cases hv';exact qNU (xE (d:=.agg cs) hs hc)
theorem Pw.two {α β : Type} {R : α -> β -> Prop} {a b : α} {x y : β} (h0 : R a x) (h1 : R b y) : Pw R [a, b] [x, y] := ⟨rfl, fun i u v hu hv => by
  match i, hu, hv with
  | 0, hu, hv => simp at hu hv; subst hu hv; exact h0
  | 1, hu, hv => simp at hu hv; subst hu hv; exact h1
  | i + 2, hu, hv => simp at hu⟩
theorem qTM {α:Type} [Inhabited α] {f:α->D} {G:FuncId} {sz:Nat} {cs:List D} {cf:α->α->Int} (hag:∀ x,(f x).one=false) (hsc:∀ x,((f x).cells.all D.scal)=true)
    (hclo:∀ x y,RetD P G ([f x,f y]++cs) (.int .i64 (cf x y))) {w:World} {X:Nat->Prop} {cb:Array Value} (hcb:Pw (DRep w X) cs cb.toList) {b size:Nat} (hX:∀ b',X b'->b'≠b/\b' < w.heap.size) (hL:qYR w (cS X)) (hLb:∀ x∈qML,x.1≠b):
    CmpLays P G cb (λx=>(f x).cells.map D.val) sz cf b 0 size w:=by
  intro m os dk _ x y;obtain⟨mv,r,hp',hret,hsn⟩:=hclo x y;generalize hW:sortWorldK (λx=>(f x).cells.map D.val) sz w b 0 m dk os=W;have hold:∀ b',X b'->W.heap[b']?=w.heap[b']?:=λb' hb'=>by rw [<- hW];exact qAF _ _ _ _ _ _ _ _ _ (hX b' hb').1 (hX b' hb').2
  have hWs:w.heap.size<=W.heap.size:=by
    rw [<- hW];show _<=(((Sort.ahead w m).heap.modify b _)++os).size;simp [Sort.ahead]
  have hLW:qYR W (cS X):=λx hx=>by
    obtain⟨⟨t,fz,e⟩,_⟩:=hL x hx;exact⟨⟨t,fz,by rw [<- hW,qAF _ _ _ _ _ _ _ _ _ (hLb x hx) (Array.getElem?_eq_some_iff.1 e).1];exact e⟩,λi h=>by simp [cS] at h⟩
  have hout:Out ⟨P,0,W,0,cS X,mv⟩ [] (cS X) W:=
    { defers := rfl, size := rfl, fr := fun _ => .junk _, hp := fun i B h => by simp at h, lt := fun i b h => by simp [cS] at h, inj := fun i j b _ _ _ _ _ _ h => by simp [cS] at h, Xlt := fun b' hb' => Nat.lt_of_lt_of_le (hX b' hb').2 hWs, Xold := fun b h _ => h
      os := rfl, tape := rfl, output := rfl, drawn := zQW _, grown := zQW _, keep := fun _ _ _ => rfl, own := fun i b h => by simp [cS] at h, stay := fun i b h => absurd h (zQV i), kle := Nat.zero_le _, laid := hLW }
  have hargs:Pw (ARep W (cS X)) (([f x,f y]++cs).map AV.d) (#[Value.agg ((f x).cells.map D.val).toArray,.agg ((f y).cells.map D.val).toArray]++cb).toList:=by
    rw [List.map_append,Array.toList_append];refine Pw.append (Pw.two (.d _ _ (qNF (hag x) (hsc x))) (.d _ _ (qNF (hag y) (hsc y)))) ⟨by simpa using hcb.1,λi u v hu hv=>?_⟩;simp only [zQP,zQO] at hu;obtain⟨d,hd,rfl⟩:=hu;exact .d _ _ ((hcb.2 i d v hd hv).mono (λ_ h=>h) hold)
  have hc:=hret.2 W (cS X) _ hout hargs;refine hc.mono ?_;rintro e w' ⟨v,g',rfl,hout',hr⟩;obtain⟨q,os',hw'⟩:=Out.grown' hout';refine⟨?_,q,os',hw'⟩
  have:v=.int .i64 (cf x y):=by
    cases hsn with
    | d _=>cases hr with|d _ _ h=>cases h;rfl
  rw [this]
theorem qWO {α:Type} [Inhabited α] {f:α->D} {F G:FuncId} {sz:Nat} (e:TypeId) {c:D} {cs:List D} {cf:α->α->Int} {S:Array α->List α} (mv:Nat->Bool) (xs:List α)
    (hcbF:qW P F=true) (hag:∀ x,(f x).one=false) (hsz:∀ x,(f x).cells.length=sz) (hsc:∀ x,((f x).cells.all D.scal)=true)
    (hfn:qEE c=some (G,cs)) (hclo:∀ x y,RetD P G ([f x,f y]++cs) (.int .i64 (cf x y)))
    (hlen:xs.length < 4611686018427387904) (hS:(S xs.toArray).length=xs.length)
    (hnone:∀ (p:Option Addr) (cap:Nat) (fv:Value) (w:World),Calls P F #[.slice p 0 cap,fv] w λe w'=>e=.returned (.tuple #[])/\w'=w)
    (hsort : ∀ (blk off cap : Nat) (cb : Array Value) (d : Array α) (w : World), CmpLays P G cb (fun x => (f x).cells.map D.val) sz cf blk off d.size w -> HoldsK (fun x => (f x).cells.map D.val) sz w blk off d -> blk < w.heap.size -> d.size < 4611686018427387904 ->
      Calls P F #[.slice (some ⟨blk, off, none⟩) d.size cap, .func (.func G) #[] cb] w fun e w' => e = .returned (.tuple #[]) /\ ∃ n os, w' = sortWorldK (fun x => (f x).cells.map D.val) sz w blk off n (S d).toArray os) :
    Ret P F [.flat e sz (xs.map f)] mv [.msl 0 sz 0 xs.length,.d c] (.tup []) [.flat e sz ((S xs.toArray).map f)]:=by
  refine⟨hcbF,λw g vs hout hargs=>?_⟩
  obtain⟨v0,v1,rfl⟩:∃ v0 v1,vs=#[v0,v1]:=by
    have hl:vs.size=2:=by have:=hargs.1;simpa using this.symm
    exact⟨vs[0],vs[1],by apply Array.ext;simp [hl];intro i h1 h2;match i,h2 with|0,_=>rfl|1,_=>rfl⟩
  have h0:=hargs.2 0 _ _ rfl rfl;have h1:=hargs.2 1 _ _ rfl rfl
  cases h1 with
  | d _ _ h1=>
  obtain⟨cb,rfl,hcb⟩:=qAJ h1 hfn;have hB:=hout.hp 0 _ rfl;generalize hn:xs.length=n at h0
  cases h0 with
  | msl0 _ _ _ ad=>
    have hxs:xs=[]:=List.eq_nil_of_length_eq_zero hn;subst hxs;have hS0:S (#[]:Array α)=[]:=List.eq_nil_of_length_eq_zero hS;refine (hnone ad 0 _ w).mono ?_;rintro e w' ⟨rfl,rfl⟩;refine⟨_,g,rfl,?_,.tup [] #[] rfl λi c v h=>by simp at h⟩;simpa [hS0] using hout
  | msl _ _ _ _ cap b hb hc hpz=>
    rcases hB with ⟨_,hn0⟩|⟨b',cells,hp0,hw,hpsi,hl,hh0,hh1,hr⟩
    · rw [hb] at hn0;cases hn0
    cases hb.symm.trans hp0;subst hn;rw [Nat.zero_mul];have hblt:=(hout.lt 0 b hb).1;have hXb:∀ b',g.X b'->b'≠b/\b' < w.heap.size:=λb' hX=>⟨λe=>(hout.lt 0 b hb).2.2 (e ▸ hX),hout.Xlt b' hX⟩
    have hflat:∀ (d:Array α) (i j:Nat),i < d.size->j < sz->(flatK (λx=>(f x).cells.map D.val) sz d)[i * sz+j]?=((f d[i]!).cells[j]?).map D.val:=by
      intro d i j hi hj;have hlt:i * sz+j < d.size * sz:=by have:=Nat.mul_le_mul_right sz (show i+1<=d.size from hi);rw [Nat.add_mul] at this;omega
      have h2:=get_flatK (λx=>(f x).cells.map D.val) sz d (i * sz+j) hlt;have hdiv:(i * sz+j) / sz=i:=by rw [Nat.mul_comm,Nat.mul_add_div (by omega),Nat.div_eq_of_lt hj,Nat.add_zero]
      have hmod:(i * sz+j) % sz=j:=by rw [Nat.mul_comm,Nat.mul_add_mod,Nat.mod_eq_of_lt hj]
      rw [hdiv,hmod] at h2;rw [getElem!_pos _ _ (by simpa using hlt)] at h2;rw [Array.getElem?_eq_getElem (by simpa using hlt),h2];have hjl:j < (f d[i]!).cells.length:=by rw [hsz];exact hj
      rw [getElem!_pos _ _ (by simpa using hjl),zQR hjl];simp
    have hH:HoldsK (λx=>(f x).cells.map D.val) sz w b 0 xs.toArray:=by
      intro j hj;have hj':j < xs.length * sz:=by simpa using hj
      have hsz0 : 0 < sz := by rcases Nat.eq_zero_or_pos sz with h0 | h0; · subst h0; simp at hj'
                               · exact h0
      have hi:j / sz < xs.length:=by rw [Nat.div_lt_iff_lt_mul hsz0];exact hj'
      have hm:j % sz < sz:=Nat.mod_lt _ hsz0;have hdec:j / sz * sz+j % sz=j:=by rw [Nat.mul_comm];exact Nat.div_add_mod j sz
      have hjl:j % sz < (f xs[j / sz]).cells.length:=by rw [hsz];exact hm
      have hx:(xs.map f)[j / sz]?=some (f xs[j / sz]):=by simp [hi]
      obtain⟨v,hv,hd⟩:=hr (j / sz) _ (j % sz) _ hx (zQR hjl);rw [hdec] at hv;have hfl:=hflat xs.toArray (j / sz) (j % sz) (by simpa using hi) hm;rw [hdec] at hfl;have hget:xs.toArray[j / sz]! = xs[j / sz]:=by rw [getElem!_pos _ _ (by simpa using hi)];simp
      rw [hget,zQR hjl] at hfl
      have hfl':(flatK (λx=>(f x).cells.map D.val) sz xs.toArray)[j]! = ((f xs[j / sz]).cells[j % sz]).val:=by
        rw [getElem!_pos (flatK (λx=>(f x).cells.map D.val) sz xs.toArray) j hj];rw [Array.getElem?_eq_getElem hj] at hfl;simpa using hfl
      rw [Nat.zero_add];refine⟨?_,by simp [World.frozen?,hw]⟩;rw [cell_of_row w b j cells e (0,0) hw,hv,hfl'];rw [qZO (xE (hsc _) (zQR hjl)) hd];rfl
    have hcl:=qTM (P:=P) (sz:=sz) (size:=xs.toArray.size) hag hsc hclo hcb hXb (λx hx=>⟨(Sim.laidW hout x hx).1,λi h=>by simp [cS] at h⟩) (λx hx e=>(Sim.laidW hout x hx).2 0 (e ▸ hb));have hs:=hsort b 0 cap cb xs.toArray w hcl hH hblt (by simpa using hlen);refine (show Calls P F #[.slice (some ⟨b,0,none⟩) xs.length cap,.func (.func G) #[] cb] w _ from hs).mono ?_;rintro e' w' ⟨rfl,m,os,rfl⟩;refine⟨_,g,rfl,?_,.tup [] #[] rfl λi c v h=>by simp at h⟩;have hbw:(Sort.ahead w m).heap[b]?=some (.cells cells e (0,0)):=hw;have hahead:Out ⟨P,0,w,1,g,mv⟩ [.flat e sz (xs.map f)] g (Sort.ahead w m):=Sim.sameHeap hout rfl rfl rfl rfl (Nat.le_add_right _ _)
    have hwr:(putRowK (λx=>(f x).cells.map D.val) sz (Sort.ahead w m) b 0 (S xs.toArray).toArray).heap[b]?=some (.cells (putCells id 0 (flatK (λx=>(f x).cells.map D.val) sz (S xs.toArray).toArray) cells) e (0,0)):=by
      show ((Sort.ahead w m).heap.modify b _)[b]?=_;rw [Array.getElem?_modify,if_pos rfl,hbw];rfl
    have hoth:∀ b',b'≠b->(putRowK (λx=>(f x).cells.map D.val) sz (Sort.ahead w m) b 0 (S xs.toArray).toArray).heap[b']?=(Sort.ahead w m).heap[b']?:=λb' hb'=>by
      show ((Sort.ahead w m).heap.modify b _)[b']?=_;rw [Array.getElem?_modify,if_neg (λe=>hb' e.symm)]
    have hch := Sim.change (i := 0) (b := b) (B0 := .flat e sz (xs.map f)) hahead rfl (fun e => by cases e) hb (w' := putRowK (fun x => (f x).cells.map D.val) sz (Sort.ahead w m) b 0 (S xs.toArray).toArray) (size_putRowK _ _ _ _ _ _) rfl rfl rfl (zQW _) hoth
      (B:=.flat e sz ((S xs.toArray).map f)) (.inr ⟨b,_,hb,hwr,?_,?_,λk d hk=>?_,λk d j c hk hc=>?_,λk d j c hk hc=>?_⟩)
    · exact Sim.grow hch 0 os
    · rw [hpsi,nB]
    · simp only [zQC,nB,hS] at hl ⊢;exact hl
    · simp only [zQP,zQO] at hk
      obtain⟨x,_,rfl⟩:=hk;exact hsz x
    · simp only [zQP,zQO] at hk
      obtain⟨x,_,rfl⟩:=hk;exact (qNV (xE (hsc x) hc)).1
    simp only [zQP,zQO] at hk;obtain⟨x,hx,rfl⟩:=hk;have hk':=(zQQ.1 hx).1;have hj:j < sz:=by rw [<- hsz x];exact (zQQ.1 hc).1
    have hfl:=hflat (S xs.toArray).toArray k j (by simpa using hk') hj;have hget:(S xs.toArray).toArray[k]! = x:=by rw [getElem!_pos _ _ (by simpa using hk')];simpa using (zQQ.1 hx).2
    rw [hget,hc] at hfl;refine⟨c.val,?_,qNU (xE (hsc x) hc)⟩;have hlt:k * sz+j < (flatK (λx=>(f x).cells.map D.val) sz (S xs.toArray).toArray).size:=(Array.getElem?_eq_some_iff.1 hfl).1
    have hlc:k * sz+j < cells.size:=by
      simp only [size_flatK,List.size_toArray,hS] at hlt;simp only [zQC] at hl;omega
    rw [qAH id 0 _ cells (k * sz+j) hlc,if_pos ⟨Nat.zero_le _,by simpa using hlt⟩,Nat.sub_zero,getElem!_pos (flatK (λx=>(f x).cells.map D.val) sz (S xs.toArray).toArray) (k * sz+j) hlt];rw [Array.getElem?_eq_getElem hlt] at hfl;simpa using hfl
end Go.TL
