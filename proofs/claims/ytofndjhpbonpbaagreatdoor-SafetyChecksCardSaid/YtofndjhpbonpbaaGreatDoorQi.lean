/- Texts of this proof, joined, without what it does not use. No condition. -/
import Derived.Deep.DeepHandedRow
import Derived.Lib.LaidTab
import Derived.Test.YtofndjhpbonpbaaGreatDoorQh

set_option maxRecDepth 100000
namespace Go.Proofs.YtofndjhpbonpbaaGreatDoor
open Go
noncomputable def laidWorld (os:Os):World:=
 { World.holding Tryz.prog os ⟨#[], #[], []⟩ with heap := ((World.holding Tryz.prog os ⟨#[], #[], []⟩).heap.modify 0 fun
  | .cells _ t frozen => .cells #[.int .i64 1, .int .i64 0, .int .i64 1, .int .i64 0, .int .i64 1, .int .i64 1, .int .i64 0, .int .i64 0, .int .i64 2, .int .i64 0, .int .i64 1, .int .i64 1, .int .i64 2, .int .i64 0, .int .i64 2, .int .i64 2, .int .i64 2, .int .i64 1, .int .i64 0, .int .i64 1, .int .i64 2, .int .i64 2, .int .i64 0, .int .i64 2, .int .i64 3, .int .i64 0, .int .i64 1, .int .i64 0, .int .i64 3, .int .i64 1, .int .i64 0, .int .i64 0, .int .i64 3, .int .i64 2, .int .i64 3, .int .i64 0, .int .i64 3, .int .i64 3, .int .i64 2, .int .i64 0] t frozen
  | o => o) }
end Go.Proofs.YtofndjhpbonpbaaGreatDoor
namespace Go.TL
open Go.ChangeShapes Go.WideShapes Go.RowKit Go.Deep Go.ChangeAt
variable {P:Program} {H:Type} {enc:TypeId×Value->H} {w:World} {base:Nat} {spare:Nat->Bool} {held:Bool}
theorem qPP (Good:List D->Prop) (S:List TypeId) {C:Checked} {F:FuncId} {fn:Func} {s:ChangeSpec} {so:OpenSpec} {laidv:List (String×DataW Unit)} (hgood:∀ (ds:List (DataW H)) (es:List D),(∀ k,so.cond=some k->k H ds=true)->D.bulks es<=mZ ds->Good es) {F':Stop.Interp} (hat:∀ {P:Program} {fn:Func} {a b c d:Bool} {w:World} {args:Array Value} {v:Value} {w':World},s.post enc P fn a b c d w args v w'->(so.at F').post enc P fn a b c d w args v w') (hbare:so.bare.plain.varTypes C.prog=[]) (hvars:so.vars=[]) (os:Os) (own:ownKnob C.prog.godebug=none) (started:os.Started) (laid:laidOutB C.prog=true) (noInit:C.prog.inits.idxOf? F=none) (hfn:C.prog.funcs[F]?=some fn)
    (wit : ∃ (w : World) (tape : Tape) (i : Input), w.os = os /\ (w.forCall tape i).Shaped C.prog /\ i.vars = [] /\ Input.okWide C.prog (w.forCall tape i) .any w.heap.size F i /\
      so.preRow enc C.prog fn [] false laidv (w.forCall tape i).memory i.args /\ ({} : Assume).holds C.prog (lone (Frame.enter C.prog F i.args .normal) [] (w.forCall tape i)))
    (hf:qPQ C.prog S fn=true) (hsv:s.vars=[]) (hs:∀ ds:List (DataW H),ds.length=fn.params.toList.length->s.fn H ds={ results:=[.lit (.bool true)],args:=ds })
    (hret:∀ ds,qHR C.prog fn.params.toList ds->Good ds->Ret C.prog F [] (λ_=>false) (ds.map .d) (.d (.bool true)) []) (hL:∀ W,laidMetH C.prog laidv W->qYR W (cS λb=>b < W.heap.size)):
    ReturnsInHanded {} C os F .any (so.preRow enc C.prog fn [] false laidv) ((so.at F').post enc C.prog fn false true false false):=by
  refine returnsInHanded_of_row own started noInit hfn wit ?_;intro W base args ds gs before hval hW _ hkk hwt hlm _ _;rw [hvars] at hW;rw [hbare] at hwt;rw [<- hsv] at hW;have hW':=hW;obtain⟨p,q,hA,hV,rfl,hfz,_⟩:=hW;rw [hsv] at hV;obtain⟨rfl,rfl⟩:=trodVars_none hV;simp only [List.append_nil] at hW';simp only [qPQ,Bool.and_eq_true,List.all_eq_true,decide_eq_true_eq] at hf
  obtain ⟨hl, es, hes, hpw, hbk⟩ := qHG hf.1.1 (base := base) (fun t ht => (hf.1.2 t ht).1.1) (fun j t v ht hv => hval j t v (by simpa using ht) (by simpa using hv)) hA (fun n hn => by
    rw [List.append_nil, List.append_nil] at hwt
    simpa using List.all_eq_true.1 hwt n hn)
  have hlt:∀ x∈p,x.block < W.heap.size:=λx hx=>by simpa using hW'.lt x hx
  obtain⟨_,hcall⟩:=hret es hes (hgood ds es (by rw [List.append_nil] at hkk;exact hkk) hbk);refine (hcall W (cS λb=>b < W.heap.size) args ?_ ?_).mono λe W' hh=>?_
  · exact { defers := rfl, size := rfl, fr := fun _ => .junk _, hp := fun i B h => by simp at h, lt := fun i b h => by simp [cS] at h, inj := fun i j b _ _ _ _ _ _ h => by simp [cS] at h, Xlt := fun b h => h, Xold := fun b h _ => h
            os := rfl, tape := rfl, output := rfl, drawn := Nat.le_refl _, grown := Nat.le_refl _, keep := fun _ _ _ => rfl, own := fun i b h => by simp [cS] at h, stay := fun i b h => absurd h (Nat.not_lt_zero i), kle := Nat.zero_le _, laid := hL W hlm }
  · refine ⟨by simpa using hpw.1, fun i x v hx hv => ?_⟩
    simp only [List.getElem?_map,Option.map_eq_some_iff] at hx;obtain⟨d,hd,rfl⟩:=hx;exact .d d v (hpw.2 i d v hd hv)
  obtain⟨v,g',rfl,ho,hv⟩:=hh
  cases hv with
  | d _ _ hv=>
    cases hv;have hb:Below W.heap.size W W':=⟨ho.os,ho.tape,ho.output,ho.grown,λb hb=>ho.keep b hb λi hi=>absurd hi (Nat.not_lt_zero i)⟩;have e:s.fn H (ds++[])={ results:=[.lit (.bool true)],args:=ds }:=by rw [List.append_nil];exact hs ds hl
    refine⟨_,rfl,hat ⟨ds,[],p,[],p,[],hW',?_,?_,?_,hb.frame _,λh=>by cases h⟩⟩
    · rw [e]
      have h2:=hf.2;split at h2
      · rename_i tb hts
        have hsz:fn.resultTypes.size=1:=by have:=congrArg List.length hts;simpa using this
        rw [hts,hsz];have hu:C.prog.underlying tb=some .bool:=by split at h2<;>first|assumption|cases h2
        exact trodAll_mk1 (shut_bool hu true)
      cases h2
    · rw [e]
      exact xO laid hb (λt ht=>⟨(hf.1.2 t ht).1.2,(hf.1.2 t ht).2⟩) hlt hA
    rw [hsv,e];rfl
end Go.TL
namespace Go.TL
variable {C:Ctx} {ops:Array Oper} {l:List Oper} {K:St->Prop} {fr:Fr} {hp:List Blk} {P:Program}
section forms
variable {o:Oper} {ev:Operand->AV} {x c y:Operand}
theorem eI {d:D} (ho:o.op=.move x\/o.op=.assign x) (h:ev x=.d d):RdOk C o ev hp (.d d):=h ▸ zR ho
theorem gM {i s f n:Nat} (ho:o.op=.move x\/o.op=.assign x) (h:ev x=.msl i s f n):RdOk C o ev hp (.msl i s f n):=h ▸ zR ho
theorem pick_T {u:AV} (ho:o.op=.pick c x y) (hc:ev c=.d (.bool true)) (hu:ev x=u):RdOk C o ev hp u:=by subst hu;exact qUN true _ ho hc rfl
theorem pick_F {u:AV} (ho:o.op=.pick c x y) (hc:ev c=.d (.bool false)) (hu:ev y=u):RdOk C o ev hp u:=by subst hu;exact qUN false _ ho hc rfl
theorem zZ {t:TypeId} {e d:D} {off s:Nat} (ho:o.op=.load t x) (hl:lay C.P t=some (false,s)) (hx:ev x=.d (.ptr e off)) (hc:e.cells[off]?=some d):RdOk C o ev hp (.d d):=qDE e d off s ho hl hx hc
theorem qXJ {t:TypeId} {e:D} {s:Nat} (ho:o.op=.load t x) (hl:lay C.P t=some (true,s)) (hx:ev x=.d (.ptr e 0)) (hs:e.cells.length=s) (h1:e.one=false):RdOk C o ev hp (.d e):=by
  have h:=vK (o:=o) (ev:=ev) (hp:=hp) e 0 s ho hl hx (by omega)
  have he:e.part 0 s=e:=by
    cases e with
    | agg cs=>subst hs;simp [D.part,D.cells]
    | _=>cases h1
  rwa [he] at h
theorem qXK {t bt:TypeId} {id sz idx off s:Nat} {es:List D} {e d:D} (ho:o.op=.load t x) (hl:lay C.P t=some (false,s)) (hx:ev x=.mptr id sz idx off) (hb:hp[id]?=some (.flat bt sz es)) (he:es[idx]?=some e) (hc:e.cells[off]?=some d):RdOk C o ev hp (.d d):=
  qLT id sz idx off s es e d ho hl hx hb he hc
theorem qSZ {t bt:TypeId} {id sz idx s:Nat} {es:List D} {e:D} (ho:o.op=.load t x) (hl:lay C.P t=some (true,s)) (hx:ev x=.mptr id sz idx 0) (hb:hp[id]?=some (.flat bt sz es)) (he:es[idx]?=some e) (hs:e.cells.length=s) (h1:e.one=false):RdOk C o ev hp (.d e):=by
  have h:=uH (o:=o) (ev:=ev) (hp:=hp) id sz idx 0 s es e ho hl hx hb he (by omega)
  have he:e.part 0 s=e:=by
    cases e with
    | agg cs=>subst hs;simp [D.part,D.cells]
    | _=>cases h1
  rwa [he] at h
theorem vX {t e:TypeId} {sz by':Nat} {es:List D} {k:IntKind} {i:Int} {d:D} (ho:o.op=.indexAddr t x y) (hl:sel C.P t=some (e,sz,by')) (hx:ev x=.d (.sl sz es)) (hy:ev y=.d (.int k i)) (h:0<=i/\es[i.toNat]?=some d):RdOk C o ev hp (.d (.ptr d 0)):=
  qEB sz by' es k i d ho hl hx hy h.1 h.2
theorem qXO {t e:TypeId} {id sz by' off len:Nat} {k:IntKind} {i:Int} (ho:o.op=.indexAddr t x y) (hl:sel C.P t=some (e,sz,by')) (hx:ev x=.msl id sz off len) (hy:ev y=.d (.int k i)) (h:0<=i/\i < len) {j:Nat} (hj:off+i.toNat=j):RdOk C o ev hp (.mptr id sz j 0):=
  hj ▸ qBY id sz by' off len k i ho hl hx hy h.1 h.2
theorem nF {op:BinOp} {t t':TypeId} {k:IntKind} {m n:Int} {b:Bool} (ho:o.op=.binOp op t x y t') (hx:ev x=.d (.int k m)) (hy:ev y=.d (.int k n)) (hb:qMV op m n=some b):RdOk C o ev hp (.d (.bool b)):=qZW k m n b ho hx hy hb
theorem tH {op:BinOp} {t t':TypeId} {m n r:Int} (ho:o.op=.binOp op t x y t') (hx:ev x=.d (.int .i64 m)) (hy:ev y=.d (.int .i64 n)) (hr:qVY op m n=some r) (hb:-9223372036854775808<=r/\r<=9223372036854775807):RdOk C o ev hp (.d (.int .i64 r)):=
  qZY .i64 m n r ho hx hy (by cases op<;>simp only [qVY] at hr<;>cases hr<;>simp only [zCG,wrap64 hb])
theorem not_b {t:TypeId} {b b':Bool} (ho:o.op=.unOp .not t x) (hx:ev x=.d (.bool b)) (hb:(!b)=b'):RdOk C o ev hp (.d (.bool b')):=hb ▸ rd_not b ho hx
theorem qGF {t e:TypeId} {sz s by':Nat} {es:List D} (ho:o.op=.call { callee:=.builtin .len,args:=#[x],argTypes:=#[t] }) (hl:sel C.P t=some (e,s,by')) (hx:ev x=.d (.sl sz es)) {n:Nat} (hn:es.length=n):RdOk C o ev hp (.d (.int .i64 n)):=
  qBX _ s by' n ho hl hx (by subst hn;rfl)
theorem nE {t e:TypeId} {s by':Nat} (ho:o.op=.call { callee:=.builtin .len,args:=#[x],argTypes:=#[t] }) (hl:sel C.P t=some (e,s,by')) (hx:ev x=.d .nilsl):RdOk C o ev hp (.d (.int .i64 (Int.ofNat 0))):=qBX _ s by' 0 ho hl hx rfl
end forms
theorem Snap.le {hp hp':List Blk} (h:HpLe hp hp') {x:AV} {d:D} (hs:Snap hp x d):Snap hp' x d:=by
  induction hs with
  | d x=>exact .d x
  | msl id sz off len ty es h1 hl=>exact .msl id sz off len ty es (h _ _ h1 (λe=>by cases e)) hl
  | mptrF id sz idx off ty es e h1 he=>exact .mptrF id sz idx off ty es e (h _ _ h1 (λe=>by cases e)) he
  | mptrB id off ty cs ds h1 hl h2 _ ih=>exact .mptrB id off ty cs ds (h _ _ h1 (λe=>by cases e)) hl h2 ih
  | agg cs ds hl h2 _ ih=>exact .agg cs ds hl h2 ih
  | clo f cs ds hl _ ih=>exact .clo f cs ds hl ih
  | ifc t c d _ ih=>exact .ifc t c d ih
def RetD (P:Program) (F:FuncId) (ds:List D) (d:D):Prop:=∃ mv r hp',Ret P F [] mv (ds.map .d) r hp'/\Snap hp' r d
def RetN (P:Program) (F:FuncId) (ds:List D) (d:D):Prop:=∃ mv r hp',Ret P F [] mv (ds.map .d) r hp'/\Snap hp' r d/\AMem0 r/\∀ B∈hp',qRP B
theorem RetN.retD {F:FuncId} {ds:List D} {d:D} (h:RetN P F ds d):RetD P F ds d:=by
  obtain⟨mv,r,hp',h1,h2,_⟩:=h;exact⟨mv,r,hp',h1,h2⟩
section calls
variable {o:Oper} {ev:Operand->AV} {f:Operand} {xs:Array Operand} {ts:Array TypeId} {F:FuncId}
theorem RD {ds:List D} {d:D} (ho:o.op=.call { callee:=.value f,args:=xs,argTypes:=ts }) (hf:ev f=.d (.fn F)) (hx:xs.toList.map ev=ds.map .d) (hret:RetD C.P F ds d):RdOk C o ev hp (.d d):=by
  obtain⟨mv,r,hp',h1,h2⟩:=hret;exact qZX ds r hp' d ho hf hx h1 h2
theorem RN {ds:List D} {d:D} (ho:o.op=.call { callee:=.value f,args:=xs,argTypes:=ts }) (hf:ev f=.d (.fn F)) (hx:yG hp (xs.toList.map ev) ds) (hret:RetN C.P F ds d):RdOk C o ev hp (.d d):=by
  obtain⟨mv,r,hp',hret,hsn,hm,hm'⟩:=hret;intro st hhp hag g a w hs Q K' hK;have hfv:=hs.ev f;rw [hag f (by simp [ho,Op.operands,Call.operands]),hf] at hfv
  have hx':yG st.hp (xs.toList.map st.fr.ev) ds:=by
    refine⟨by have:=hx.1;simpa using this,λi x d hxi hd=>?_⟩;simp only [List.getElem?_map,Option.map_eq_some_iff] at hxi;obtain⟨y,hy,rfl⟩:=hxi;rw [hag y (by simp only [ho,Op.operands,Call.operands];exact Array.mem_append.2 (.inr (Array.mem_toList_iff.1 (List.mem_of_getElem? hy))))];exact (hx.2 i (ev y) d (by simp [hy]) hd).le hhp
  have hargs:=qRL hs hx' (Y:=λb=>b < w.heap.size) hs.Xlt λi b hp=>(hs.lt i b hp).1;simp only [Oper.wp,dN ho (qCR hfv) hret.1,Oper.upon_enter,Array.append_empty];refine (hret.2 w (cS λb=>b < w.heap.size) _ (qPE hs mv λ_ h=>h) hargs).mono ?_;rintro e w' ⟨v,g',rfl,hout,hr⟩;have hold:∀ b,b < w.heap.size->w'.heap[b]?=w.heap[b]?:=λb hb=>hout.keep b hb λi hi=>absurd hi (Nat.not_lt_zero i);have hsz:=hout.grown;simp only at hsz
  let g3:Gh:={ g' with X:=λb=>g'.X b/\w.heap.size<=b }
  have hrep3:∀ (i:Nat) (B:Blk),hp'[i]?=some B->BRep w' g3 i B:=λi B hB=>(hout.hp i B hB).any (hm' B (List.mem_of_getElem? hB))
  let g2:Gh:={ g with X:=λb=>g.X b\/(w.heap.size<=b/\b < w'.heap.size) }
  have hgr:Grow w g w' g2:=⟨λ_ _ h=>h,λ_ _ _=>rfl,λ_ h=>.inl h,λb hb=>hold b (hs.Xlt b hb)⟩;refine hK v w' g2 ?_ (.d _ _ (lN (st:=⟨[],hp'⟩) (g:=g3) hrep3 hsn (Y:=g2.X) (λb hb=>?_) (λi b hp=>?_) (hr.any hm)))
  · refine { defers := hs.defers, size := hs.size, fr := fun t => (hs.fr t).mono hgr, hp := fun i B hB => (hs.hp i B hB).mono hgr id fun b hb => hold b (hs.lt i b hb).1, lt := ?_, inj := hs.inj, Xlt := ?_, Xold := ?_
             os := hout.os.trans hs.os, tape := hout.tape.trans hs.tape, output := hout.output.trans hs.output, drawn := Nat.le_trans hs.drawn hout.drawn, grown := Nat.le_trans hs.grown hsz, keep := ?_, own := hs.own, stay := hs.stay, kle := hs.kle, laid := hs.laid }
    · intro i b hp
      have:=hs.lt i b hp;refine⟨by omega,this.2.1,λhX=>?_⟩;rcases hX with hX|⟨hX,_⟩
      · exact this.2.2 hX
      omega
    · intro b hb
      rcases hb with hb|⟨_,hb⟩
      · have:=hs.Xlt b hb;omega
      exact hb
    · intro b hb hlt
      rcases hb with hb|⟨hge,_⟩
      · exact hs.Xold b hb hlt
      have:=hs.grown;omega
    intro b hb hk;rw [hold b (by have:=hs.grown;omega)];exact hs.keep b hb hk
  · exact .inr ⟨hb.2,hout.Xlt b hb.1⟩
  refine .inr ⟨?_,(hout.lt i b hp).1⟩;rcases Nat.lt_or_ge b w.heap.size with hlt|hge
  · exact absurd (hout.own i b hp hlt).1 (Nat.not_lt_zero _)
  exact hge
end calls
theorem tM {hp:List Blk}:∀ {xs:List AV} {ds:List D},xs=ds.map .d->yG hp xs ds
  | _,[],h=>by subst h;exact SN
  | _,d :: ds,h=>by subst h;exact SC (.d d) (tM rfl)
inductive SubK (fr:Fr):List Nat->Fr->Prop
  | nil:SubK fr [] []
  | cons (k:Nat) (v:AV) (ks:List Nat) (r:Fr) (h:fr.get k=v) (hr:SubK fr ks r):SubK fr (k :: ks) ((k,v) :: r)
section
variable {k:Nat} {ks:List Nat} {r:Fr}
theorem bE {d:D} (h:fr.get k=.d d) (hr:SubK fr ks r):SubK fr (k :: ks) ((k,.d d) :: r):=.cons _ _ _ _ h hr
theorem dH {a b c d:Nat} (h:fr.get k=.msl a b c d) (hr:SubK fr ks r):SubK fr (k :: ks) ((k,.msl a b c d) :: r):=.cons _ _ _ _ h hr
theorem lM (hr:SubK fr ks r):∃ r',SubK fr ks r':=⟨r,hr⟩
end
theorem SubK.keep:∀ {fr r:Fr} {ks:List Nat},SubK fr ks r->r=Fr.keep ks fr
  | _,_,_,.nil=>rfl
  | fr,_,_,.cons k v ks r h hr=>by simp only [Fr.keep,List.map_cons,h];rw [hr.keep];rfl
theorem bU {hp:List Blk} (h:hp=[]):hp=[]:=h
theorem cP {hp r r':List Blk} {t s:Nat} {es:List D} (h:hp=.flat t s es :: r) (hr:r=r'):hp=.flat t s es :: r':=hr ▸ h
theorem bP {c:Code} {Q:Exit->St->Prop} {fr':Fr} {hp':List Blk} (ks:List Nat) (h1:SubK fr ks fr') (h2:hp=hp') (h:TWp C c ⟨fr',hp'⟩ Q):TWp C c ⟨fr,hp⟩ Q:=by
  subst h2;rw [h1.keep] at h;exact qZE ks h
section ways
variable {next:St->Prop} {Q:Exit->St->Prop} {st:St}
theorem WT (h:next st):rG next Q .normal st:=h
theorem WX {i:Nat} (h:Q (.exit i) st):rG next Q (.exit i) st:=h
theorem WR (h:Q .ret st):rG next Q .ret st:=h
theorem WK {i:Nat} (h:Q .normal st):oF i Q .normal st:=h
theorem WH {i:Nat} (h:Q .normal st):oF i Q (.exit i) st:=by simp only [oF,if_true];exact h
end ways
theorem qWD {c:Code} {Q:Exit->St->Prop} {α:Type} (S:α->St) (ok:α->Prop) (m:α->Nat) (ks ids:List Nat) (x0:α) (hnd:ids.Nodup) (hk:∀ i,i < C.k->ids[i]?=some i) {st:St} (h0:ok x0) (hS:st.canon ks ids=S x0)
    (round:∀ x,ok x->TWp C c (S x) (rG (λst'=>∃ y ids',ids'.Nodup/\(∀ i,i < C.k->ids'[i]?=some i)/\ok y/\m y < m x/\st'.canon ks ids'=S y) Q)):TWp C (.loop c) st Q:=by
  refine qZD (λn st=>∃ x ids,ids.Nodup/\(∀ i,i < C.k->ids[i]?=some i)/\ok x/\m x=n/\st.canon ks ids=S x) (m x0) ⟨x0,ids,hnd,hk,h0,rfl,hS⟩ ?_;rintro n st ⟨x,ids,hnd,hk,hx,rfl,he⟩;refine wN ks ids hnd hk ?_;rw [he];refine (round x hx).mono ?_;rintro e st' hq
  cases e with
  | normal=>obtain⟨y,ids',h1,h2,h3,h4,h5⟩:=hq;exact⟨m y,h4,y,ids',h1,h2,h3,rfl,h5⟩
  | _=>exact hq
end Go.TL
