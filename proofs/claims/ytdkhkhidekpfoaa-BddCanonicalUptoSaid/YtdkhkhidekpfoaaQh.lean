/- Texts of this proof, joined, without what it does not use. No condition. -/
import Derived.Test.YtdkhkhidekpfoaaRows
import Derived.Test.YtdkhkhidekpfoaaQg

namespace Go.Proofs.Ytdkhkhidekpfoaa
open Go Go.TL
mutual
theorem mC {H:Type}:∀ d:DataW H,Rows.uptoBulk d=aZ d
 | .lit (.string bytes)=>by simp [Rows.uptoBulk,aZ]
 | .lit (.bool _)=>by simp [Rows.uptoBulk,aZ]
 | .lit (.int _ _)=>by simp [Rows.uptoBulk,aZ]
 | .lit (.float .f32 _)=>by simp [Rows.uptoBulk,aZ]
 | .lit (.float .f64 _)=>by simp [Rows.uptoBulk,aZ]
 | .lit .nil=>by simp [Rows.uptoBulk,aZ]
 | .nil=>by simp [Rows.uptoBulk,aZ]
 | .ptr d=>by simp [Rows.uptoBulk,aZ,mC d]
 | .slice elems spare=>by simp [Rows.uptoBulk,aZ,uQ elems,uQ spare]
 | .agg parts=>by simp [Rows.uptoBulk,aZ,uQ parts]
 | .iface _ d=>by simp [Rows.uptoBulk,aZ,mC d]
 | .map entries=>by simp [Rows.uptoBulk,aZ,qER entries]
 | .held _=>by simp [Rows.uptoBulk,aZ]
theorem uQ {H:Type}:∀ l:List (DataW H),Rows.uptoBulkAll l=eA l
 | []=>by simp [Rows.uptoBulkAll,eA]
 | d :: r=>by simp [Rows.uptoBulkAll,eA,mC d,uQ r]
theorem qER {H:Type}:∀ l:List (Lit×DataW H),Rows.uptoBulkEntries l=pY l
 | []=>by simp [Rows.uptoBulkEntries,pY]
 | x :: r=>by simp [Rows.uptoBulkEntries,pY,bulk4 x,qER r]
theorem bulk4 {H:Type}:∀ x:Lit×DataW H,Rows.uptoBulkEntry x=jE x
 | (.string bytes,d)=>by simp [Rows.uptoBulkEntry,jE,mC d]
 | (.bool _,d)=>by simp [Rows.uptoBulkEntry,jE,mC d]
 | (.int _ _,d)=>by simp [Rows.uptoBulkEntry,jE,mC d]
 | (.float .f32 _,d)=>by simp [Rows.uptoBulkEntry,jE,mC d]
 | (.float .f64 _,d)=>by simp [Rows.uptoBulkEntry,jE,mC d]
 | (.nil,d)=>by simp [Rows.uptoBulkEntry,jE,mC d]
end
theorem vD {H:Type} {ds:List (DataW H)} (h:Rows.uptoSmall H ds=true):eA ds≤1048576:=by
 rw [← uQ];exact of_decide_eq_true h
end Go.Proofs.Ytdkhkhidekpfoaa
namespace Go.TL
variable {C:Ctx} {ops:Array Oper} {l:List Oper} {K:St→Prop} {fr:Fr} {hp:List Blk} {P:Program}
section forms
variable {o:Oper} {ev:Operand→AV} {x c y:Operand}
theorem pick_T {u:AV} (ho:o.op=.pick c x y) (hc:ev c=.d (.bool true)) (hu:ev x=u):RdOk C o ev hp u:=by subst hu;exact wV true _ ho hc rfl
theorem pick_F {u:AV} (ho:o.op=.pick c x y) (hc:ev c=.d (.bool false)) (hu:ev y=u):RdOk C o ev hp u:=by subst hu;exact wV false _ ho hc rfl
theorem yF {t:TypeId} {e:D} {s:Nat} (ho:o.op=.load t x) (hl:lay C.P t=some (true,s)) (hx:ev x=.d (.ptr e 0)) (hs:e.cells.length=s) (h1:e.one=false):RdOk C o ev hp (.d e):=by
  have h:=iV (o:=o) (ev:=ev) (hp:=hp) e 0 s ho hl hx (by omega)
  have he:e.part 0 s=e:=by
    cases e with
    | agg cs=>subst hs;simp [D.part,D.cells]
    | _=>cases h1
  rwa [he] at h
theorem yG {t bt:TypeId} {id sz idx off s:Nat} {es:List D} {e d:D} (ho:o.op=.load t x) (hl:lay C.P t=some (false,s)) (hx:ev x=.mptr id sz idx off) (hb:hp[id]?=some (.flat bt sz es)) (he:es[idx]?=some e) (hc:e.cells[off]?=some d):RdOk C o ev hp (.d d):=
  sB id sz idx off s es e d ho hl hx hb he hc
theorem vW {t bt:TypeId} {id sz idx s:Nat} {es:List D} {e:D} (ho:o.op=.load t x) (hl:lay C.P t=some (true,s)) (hx:ev x=.mptr id sz idx 0) (hb:hp[id]?=some (.flat bt sz es)) (he:es[idx]?=some e) (hs:e.cells.length=s) (h1:e.one=false):RdOk C o ev hp (.d e):=by
  have h:=iC (o:=o) (ev:=ev) (hp:=hp) id sz idx 0 s es e ho hl hx hb he (by omega)
  have he:e.part 0 s=e:=by
    cases e with
    | agg cs=>subst hs;simp [D.part,D.cells]
    | _=>cases h1
  rwa [he] at h
theorem qAS {t e:TypeId} {sz by':Nat} {es:List D} {k:IntKind} {i:Int} {d:D} (ho:o.op=.indexAddr t x y) (hl:sel C.P t=some (e,sz,by')) (hx:ev x=.d (.sl sz es)) (hy:ev y=.d (.int k i)) (h:0≤i∧es[i.toNat]?=some d):RdOk C o ev hp (.d (.ptr d 0)):=
  nS sz by' es k i d ho hl hx hy h.1 h.2
theorem yI {t e:TypeId} {id sz by' off len:Nat} {k:IntKind} {i:Int} (ho:o.op=.indexAddr t x y) (hl:sel C.P t=some (e,sz,by')) (hx:ev x=.msl id sz off len) (hy:ev y=.d (.int k i)) (h:0≤i∧i < len) {j:Nat} (hj:off+i.toNat=j):RdOk C o ev hp (.mptr id sz j 0):=
  hj ▸ mM id sz by' off len k i ho hl hx hy h.1 h.2
theorem qBI {op:BinOp} {t t':TypeId} {m n r:Int} (ho:o.op=.binOp op t x y t') (hx:ev x=.d (.int .i64 m)) (hy:ev y=.d (.int .i64 n)) (hr:qBK op m n=some r) (hb:-9223372036854775808≤r∧r≤9223372036854775807):RdOk C o ev hp (.d (.int .i64 r)):=
  zV .i64 m n r ho hx hy (by cases op<;>simp only [qBK] at hr<;>cases hr<;>simp only [qBL,wrap64 hb])
theorem not_b {t:TypeId} {b b':Bool} (ho:o.op=.unOp .not t x) (hx:ev x=.d (.bool b)) (hb:(!b)=b'):RdOk C o ev hp (.d (.bool b')):=hb ▸ rd_not b ho hx
theorem len_d {t e:TypeId} {sz s by':Nat} {es:List D} (ho:o.op=.call { callee:=.builtin .len,args:=#[x],argTypes:=#[t] }) (hl:sel C.P t=some (e,s,by')) (hx:ev x=.d (.sl sz es)) {n:Nat} (hn:es.length=n):RdOk C o ev hp (.d (.int .i64 n)):=
  rB _ s by' n ho hl hx (by subst hn;rfl)
end forms
theorem Snap.le {hp hp':List Blk} (h:HpLe hp hp') {x:AV} {d:D} (hs:Snap hp x d):Snap hp' x d:=by
  induction hs with
  | d x=>exact .d x
  | msl id sz off len ty es h1 hl=>exact .msl id sz off len ty es (h _ _ h1 (λe=>by cases e)) hl
  | mptrF id sz idx off ty es e h1 he=>exact .mptrF id sz idx off ty es e (h _ _ h1 (λe=>by cases e)) he
  | mptrB id off ty cs ds h1 hl h2 _ ih=>exact .mptrB id off ty cs ds (h _ _ h1 (λe=>by cases e)) hl h2 ih
  | agg cs ds hl h2 _ ih=>exact .agg cs ds hl h2 ih
  | clo f cs ds hl _ ih=>exact .clo f cs ds hl ih
  | ifc t c d _ ih=>exact .ifc t c d ih
def RetD (P:Program) (F:FuncId) (ds:List D) (d:D):Prop:=∃ mv r hp',Ret P F [] mv (ds.map .d) r hp'∧Snap hp' r d
def RetN (P:Program) (F:FuncId) (ds:List D) (d:D):Prop:=∃ mv r hp',Ret P F [] mv (ds.map .d) r hp'∧Snap hp' r d∧AMem0 r∧∀ B∈hp',qBQ B
theorem RetN.retD {F:FuncId} {ds:List D} {d:D} (h:RetN P F ds d):RetD P F ds d:=by
  obtain⟨mv,r,hp',h1,h2,_⟩:=h;exact⟨mv,r,hp',h1,h2⟩
section calls
variable {o:Oper} {ev:Operand→AV} {f:Operand} {xs:Array Operand} {ts:Array TypeId} {F:FuncId}
theorem RD {ds:List D} {d:D} (ho:o.op=.call { callee:=.value f,args:=xs,argTypes:=ts }) (hf:ev f=.d (.fn F)) (hx:xs.toList.map ev=ds.map .d) (hret:RetD C.P F ds d):RdOk C o ev hp (.d d):=by
  obtain⟨mv,r,hp',h1,h2⟩:=hret;exact zU ds r hp' d ho hf hx h1 h2
theorem RN {ds:List D} {d:D} (ho:o.op=.call { callee:=.value f,args:=xs,argTypes:=ts }) (hf:ev f=.d (.fn F)) (hx:nR hp (xs.toList.map ev) ds) (hret:RetN C.P F ds d):RdOk C o ev hp (.d d):=by
  obtain⟨mv,r,hp',hret,hsn,hm,hm'⟩:=hret;intro st hhp hag g a w hs Q K' hK;have hfv:=hs.ev f;rw [hag f (by simp [ho,Op.operands,Call.operands]),hf] at hfv
  have hx':nR st.hp (xs.toList.map st.fr.ev) ds:=by
    refine⟨by have:=hx.1;simpa using this,λi x d hxi hd=>?_⟩;simp only [List.getElem?_map,Option.map_eq_some_iff] at hxi;obtain⟨y,hy,rfl⟩:=hxi;rw [hag y (by simp only [ho,Op.operands,Call.operands];exact Array.mem_append.2 (.inr (Array.mem_toList_iff.1 (List.mem_of_getElem? hy))))];exact (hx.2 i (ev y) d (by simp [hy]) hd).le hhp
  have hargs:=qBJ hs hx' (Y:=λb=>b < w.heap.size) hs.Xlt λi b hp=>(hs.lt i b hp).1;simp only [Oper.wp,dE ho (qAW hfv) hret.1,Oper.upon_enter,Array.append_empty];refine (hret.2 w (cT λb=>b < w.heap.size) _ (qCB hs mv λ_ h=>h) hargs).mono ?_;rintro e w' ⟨v,g',rfl,hout,hr⟩;have hold:∀ b,b < w.heap.size→w'.heap[b]?=w.heap[b]?:=λb hb=>hout.keep b hb λi hi=>absurd hi (Nat.not_lt_zero i);have hsz:=hout.grown;simp only at hsz
  let g3:Gh:={ g' with X:=λb=>g'.X b∧w.heap.size≤b }
  have hrep3:∀ (i:Nat) (B:Blk),hp'[i]?=some B→BRep w' g3 i B:=λi B hB=>(hout.hp i B hB).any (hm' B (List.mem_of_getElem? hB))
  let g2:Gh:={ g with X:=λb=>g.X b∨(w.heap.size≤b∧b < w'.heap.size) }
  have hgr:Grow w g w' g2:=⟨λ_ _ h=>h,λ_ _ _=>rfl,λ_ h=>.inl h,λb hb=>hold b (hs.Xlt b hb)⟩;refine hK v w' g2 ?_ (.d _ _ (dW (st:=⟨[],hp'⟩) (g:=g3) hrep3 hsn (Y:=g2.X) (λb hb=>?_) (λi b hp=>?_) (hr.any hm)))
  · refine { defers := hs.defers, size := hs.size, fr := fun t => (hs.fr t).mono hgr, hp := fun i B hB => (hs.hp i B hB).mono hgr id fun b hb => hold b (hs.lt i b hb).1, lt := ?_, inj := hs.inj, Xlt := ?_, Xold := ?_
             os := hout.os.trans hs.os, tape := hout.tape.trans hs.tape, output := hout.output.trans hs.output, drawn := Nat.le_trans hs.drawn hout.drawn, grown := Nat.le_trans hs.grown hsz, keep := ?_, own := hs.own, stay := hs.stay, kle := hs.kle }
    · intro i b hp
      have:=hs.lt i b hp;refine⟨by omega,this.2.1,λhX=>?_⟩;rcases hX with hX|⟨hX,_⟩
      · exact this.2.2 hX
      omega
    · intro b hb
      rcases hb with hb|⟨_,hb⟩
      · have:=hs.Xlt b hb;omega
      exact hb
    · intro b hb hlt
      rcases hb with hb|⟨hge,_⟩
      · exact hs.Xold b hb hlt
      have:=hs.grown;omega
    intro b hb hk;rw [hold b (by have:=hs.grown;omega)];exact hs.keep b hb hk
  · exact .inr ⟨hb.2,hout.Xlt b hb.1⟩
  refine .inr ⟨?_,(hout.lt i b hp).1⟩;rcases Nat.lt_or_ge b w.heap.size with hlt|hge
  · exact absurd (hout.own i b hp hlt).1 (Nat.not_lt_zero _)
  exact hge
end calls
theorem wS {hp:List Blk}:∀ {xs:List AV} {ds:List D},xs=ds.map .d→nR hp xs ds
  | _,[],h=>by subst h;exact SN
  | _,d :: ds,h=>by subst h;exact SC (.d d) (wS rfl)
inductive SubK (fr:Fr):List Nat→Fr→Prop
  | nil:SubK fr [] []
  | cons (k:Nat) (v:AV) (ks:List Nat) (r:Fr) (h:fr.get k=v) (hr:SubK fr ks r):SubK fr (k :: ks) ((k,v) :: r)
section
variable {k:Nat} {ks:List Nat} {r:Fr}
theorem sU (hr:SubK fr ks r):∃ r',SubK fr ks r':=⟨r,hr⟩
end
theorem SubK.keep:∀ {fr r:Fr} {ks:List Nat},SubK fr ks r→r=Fr.keep ks fr
  | _,_,_,.nil=>rfl
  | fr,_,_,.cons k v ks r h hr=>by simp only [Fr.keep,List.map_cons,h];rw [hr.keep];rfl
theorem zF {c:Code} {Q:Exit→St→Prop} {fr':Fr} {hp':List Blk} (ks:List Nat) (h1:SubK fr ks fr') (h2:hp=hp') (h:TWp C c ⟨fr',hp'⟩ Q):TWp C c ⟨fr,hp⟩ Q:=by
  subst h2;rw [h1.keep] at h;exact zH ks h
section ways
variable {next:St→Prop} {Q:Exit→St→Prop} {st:St}
theorem WT (h:next st):gJ next Q .normal st:=h
theorem WX {i:Nat} (h:Q (.exit i) st):gJ next Q (.exit i) st:=h
theorem WR (h:Q .ret st):gJ next Q .ret st:=h
theorem WK {i:Nat} (h:Q .normal st):gP i Q .normal st:=h
theorem WB {i:Nat} (h:Q .ret st):gP i Q .ret st:=h
theorem WH {i:Nat} (h:Q .normal st):gP i Q (.exit i) st:=by simp only [gP,if_true];exact h
end ways
theorem xS {c:Code} {Q:Exit→St→Prop} {α:Type} (S:α→St) (ok:α→Prop) (m:α→Nat) (ks ids:List Nat) (x0:α) (hnd:ids.Nodup) (hk:∀ i,i < C.k→ids[i]?=some i) {st:St} (h0:ok x0) (hS:st.canon ks ids=S x0)
    (round:∀ x,ok x→TWp C c (S x) (gJ (λst'=>∃ y ids',ids'.Nodup∧(∀ i,i < C.k→ids'[i]?=some i)∧ok y∧m y < m x∧st'.canon ks ids'=S y) Q)):TWp C (.loop c) st Q:=by
  refine zG (λn st=>∃ x ids,ids.Nodup∧(∀ i,i < C.k→ids[i]?=some i)∧ok x∧m x=n∧st.canon ks ids=S x) (m x0) ⟨x0,ids,hnd,hk,h0,rfl,hS⟩ ?_;rintro n st ⟨x,ids,hnd,hk,hx,rfl,he⟩;refine jK ks ids hnd hk ?_;rw [he];refine (round x hx).mono ?_;rintro e st' hq
  cases e with
  | normal=>obtain⟨y,ids',h1,h2,h3,h4,h5⟩:=hq;exact⟨m y,h4,y,ids',h1,h2,h3,rfl,h5⟩
  | _=>exact hq
end Go.TL
