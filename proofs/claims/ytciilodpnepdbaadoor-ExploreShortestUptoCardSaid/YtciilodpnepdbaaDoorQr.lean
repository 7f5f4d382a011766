/- Texts of this proof, joined, without what it does not use. No condition. -/
import Derived.RangeFuncIn
import Derived.RangeFuncRecord
import Derived.RangeFuncLeaves
import Derived.TacticsIn
import Derived.Test.YtciilodpnepdbaaDoorQq

set_option maxHeartbeats 4000000
namespace Go.TL
variable {C:Ctx} {st:St} {g:Gh} {a:Act} {w:World} {P:Program}
abbrev FR (ro:Option Nat):Fence:={ Fence.wide with round:=ro }
theorem stepsIn_fr {ro:Option Nat} {m m':Machine}:StepsIn (Machine.fenced P (FR ro)) P m m'↔Steps P m m':=stepsIn_wide
theorem comesIn_fr {ro:Option Nat} {m m':Machine} {e:Ending}:ComesIn (Machine.fenced P (FR ro)) P m m' e↔Comes P m m' e:=comesIn_wide
theorem mS {ro:Option Nat} {n:Nat} {f:FuncId} {args:Array Value} {R:Ending->World->Prop} (h:Calls P f args w R):CallsIn (FR ro) n P f args w R:=
  ⟨trivial,λcs _=>let ⟨e,w',fr,r,s,x⟩:=h cs;⟨e,w',fr,r,comesIn_fr.2 s,x⟩⟩
theorem sM {ro:Option Nat} {n:Nat} {row:String} {args:Array Value} {R:Value->World->Prop} (h:Rows P row args w R):RowsIn (FR ro) n P row args w R:=
  λc cs _=>let ⟨v,w',r,s⟩:=h c cs;⟨v,w',r,stepsIn_fr.2 s⟩
theorem bU (a:Act) (d:Option Tmp) (v:Value):(a.put d v).defers=a.defers:=by cases d<;>rfl
theorem dF {ops:Array Oper} {K:St->Prop}:∀ (l:List Oper) (a:Act) (w:World),wpList P ops (QN C K) l a w->a.defers=[]
  | [],a,w,h=>by obtain⟨st,g,_,hs⟩:=h;exact hs.defers
  | o :: l,a,w,h=>by
    unfold wpList at h;split at h
    · rcases h with h|⟨_,_,_,h⟩
      · unfold Oper.wp at h
        generalize (execOp a.eval o).run P w=r at h
        cases r with
        | ok x w'=>
          cases x with
          | value v=>have:=dF l _ _ h;rwa [bU] at this
          | skip=>have:=dF l _ _ h;rwa [bU] at this
          | defer d=>have:=dF l _ _ h;rw [bU] at this;cases this
          | enter f args=>
            obtain⟨e,w'',fr,hr,_⟩:=h []
            cases e with
            | returned v=>have:=dF l _ _ hr;rwa [bU] at this
            | panicked ch=>exact hr.elim
            | outgrown=>obtain⟨_,_,hr⟩:=hr;exact hr.elim
          | row s args=>
            obtain⟨v,w'',hr,_⟩:=h default [];have:=dF l _ _ hr;rwa [bU] at this
          | _=>exact h.elim
        | halt x w'=>cases x<;>exact h.elim
      exact h.elim
    have:=dF l _ _ h;rwa [bU] at this
def fQ (o:Oper):Bool:=match o.op with
  | .defer _=>false
  | _=>true
theorem qF {ro:Option Nat} {o:Oper} (h:fQ o=true) (ρ:Operand->Value):o.semAt ro ρ=execOp ρ o:=
  Oper.semAt_eq ro ρ o λc e=>by simp [fQ,e] at h
def Act.mark (df:List Deferred) (a:Act):Act:={ a with defers:=df }
theorem eG (df:List Deferred) (a:Act) (d:Option Tmp) (v:Value):(Act.mark df a).put d v=Act.mark df (a.put d v):=by cases d<;>rfl
theorem kR {a:Act} (h:a.defers=[]) (df:List Deferred):Act.mark [] (Act.mark df a)=a:=by cases a;simp only at h;subst h;rfl
def QM (C:Ctx) (df:List Deferred) (Q:Exit->St->Prop):Exit->Act->World->Prop:=λe a w=>a.defers=df/\∃ st g,Q e st/\Sim C st g (Act.mark [] a) w
theorem uI {ro:Option Nat} {n:Nat} {df:List Deferred} {ops:Array Oper} {K:St->Prop} {R:Exit->Act->World->Prop} {l2:List Oper} (hR:∀ a w,Sat C K a w->wpListIn (FR ro) n P ops R l2 (Act.mark df a) w):
    ∀ (l:List Oper) (a:Act) (w:World),(l.all fQ=true)->wpList P ops (QN C K) l a w->wpListIn (FR ro) n P ops R (l++l2) (Act.mark df a) w
  | [],a,w,_,h=>hR a w h
  | o :: l,a,w,hd,h=>by
    have ih:=uI (ro:=ro) (n:=n) (ops:=ops) hR l;simp only [List.all_cons,zQA] at hd;rw [List.cons_append];unfold wpListIn;unfold wpList at h;have ht:(Act.mark df a).tmps=a.tmps:=rfl;rw [ht];by_cases hw:Region.wanted o (yielded ops a.tmps)=true
    · rw [if_pos hw] at h ⊢
      rcases h with h|⟨_,_,_,h⟩
      · refine ⟨fun _ _ => trivial, ?_⟩
        have he:(Act.mark df a).eval=a.eval:=by funext x;cases x<;>rfl
        rw [he,qF hd.1];unfold Oper.wp at h;generalize (execOp a.eval o).run P w=r at h ⊢
        cases r with
        | ok x w'=>
          cases x with
          | value v=>simp only [Oper.uponIn,eG];exact ih _ _ hd.2 h
          | skip=>simp only [Oper.uponIn,eG];exact ih _ _ hd.2 h
          | defer d=>have:=dF l _ _ h;rw [bU] at this;cases this
          | enter f args=>
            refine⟨λe=>(by cases e),(mS h).mono ?_⟩;intro e w'' hr
            cases e with
            | returned v=>simp only [eG];exact ih _ _ hd.2 hr
            | panicked ch=>exact hr.elim
            | outgrown=>obtain⟨_,_,hr⟩:=hr;exact hr.elim
          | row s args=>
            refine⟨λe=>(by cases e),(sM h).mono ?_⟩;intro v w'' hr;simp only [eG];exact ih _ _ hd.2 hr
          | _=>exact h.elim
        | halt x w'=>cases x<;>exact h.elim
      exact h.elim
    have hw : Region.wanted o (yielded ops a.tmps) = false := by simpa using hw
    simp only [hw,Bool.false_eq_true,if_false] at h ⊢;refine⟨λ_ _=>trivial,?_⟩;rw [eG];exact ih _ _ hd.2 h
def TWpI (ro:Option Nat) (C:Ctx) (df:List Deferred) (c:Code) (st:St) (Q:Exit->St->Prop):Prop:=
  ∀ g a w,Sim C st g a w->c.wpIn (FR ro) 0 C.P (QM C df Q) (Act.mark df a) w
section rules
variable {ro:Option Nat} {df:List Deferred} {Q Q':Exit->St->Prop} {ops:Array Oper}
theorem qDK {e:Exit} {K:St->Prop} (hK:∀ st,K st->Q e st) {a:Act} {w:World} (h:Sat C K a w):QM C df Q e (Act.mark df a) w:=by
  obtain⟨st,g,hk,hs⟩:=h;exact⟨rfl,st,g,hK _ hk,by rw [kR hs.defers];exact hs⟩
theorem qFF {id:Nat} (hd:ops.toList.all fQ=true) (h:aM C ops ops.toList st (Q .normal)):TWpI ro C df (.region id ops false) st Q:=λg a w hs=>
  wpIn_region_list (by
    have := uI (ro := ro) (n := 0) (R := QM C df Q) (l2 := []) (fun _ _ => qDK (e := .normal) fun _ h => h) _ _ _ hd (h g a w hs)
    rwa [List.append_nil] at this)
def kY (ro:Option Nat) (C:Ctx) (df:List Deferred) (ops:Array Oper) (l:List Oper) (st:St) (K:St->Prop):Prop:=
  ∀ g a w,Sim C st g a w->wpListIn (FR ro) 0 C.P ops (QM C df λe st=>e=.normal/\K st) l (Act.mark df a) w
theorem qBT {id:Nat} (h:kY ro C df ops ops.toList st (Q .normal)):TWpI ro C df (.region id ops false) st Q:=λg a w hs=>
  Go.wpIn_mono (wpIn_region_list (h g a w hs)) (by
    rintro e a' w' ⟨hd, st', g', ⟨rfl, hQ⟩, hs'⟩
    exact ⟨hd, st', g', hQ, hs'⟩)
theorem i_nil {K:St->Prop} (h:K st):kY ro C df ops [] st K:=λg a w hs=>⟨rfl,st,g,⟨rfl,h⟩,by rw [kR hs.defers];exact hs⟩
theorem i_cut {K:St->Prop} {l:List Oper} (n:Nat) (hd:(l.take n).all fQ=true) (h:aM C ops (l.take n) st λst'=>kY ro C df ops (l.drop n) st' K):kY ro C df ops l st K:=λg a w hs=>by
  have:=uI (ro:=ro) (n:=0) (df:=df) (R:=QM C df λe st=>e=.normal/\K st) (l2:=l.drop n) (λa' w' ⟨st',g',hk,hs'⟩=>hk g' a' w' hs') _ a w hd (h g a w hs)
  rwa [List.take_append_drop] at this
theorem qm_un {e:Exit} {a:Act} {w:World} (h:QM C df Q e a w):∃ a0 st g,a=Act.mark df a0/\Q e st/\Sim C st g a0 w:=by
  obtain⟨hd,st,g,hQ,hs⟩:=h;refine⟨Act.mark [] a,st,g,?_,hQ,hs⟩;cases a;simp only at hd;subst hd;rfl
theorem mF {x y:Code} (h:TWpI ro C df x st (fW (λst'=>TWpI ro C df y st' Q) Q)):TWpI ro C df (.seq x y) st Q:=λg a w hs=>by
  refine wpIn_seq (Go.wpIn_mono (h g a w hs) ?_);intro e a' w' hq
  cases e with
  | normal=>obtain⟨a0,st',g',rfl,hQ,hs'⟩:=qm_un hq;exact hQ g' a0 w' hs'
  | _=>exact hq
theorem yL (h:Q .normal st):TWpI ro C df .skip st Q:=λg a _ hs=>wpIn_skip ⟨rfl,st,g,h,by rw [kR hs.defers];exact hs⟩
theorem wP (h:Q .ret st):TWpI ro C df .ret st Q:=λg a _ hs=>wpIn_ret ⟨rfl,st,g,h,by rw [kR hs.defers];exact hs⟩
theorem qFG {c:Operand} {x y:Code} (b:Bool) (hc:st.fr.ev c=.d (.bool b)) (h1:b=true->TWpI ro C df x st Q) (h2:b=false->TWpI ro C df y st Q):TWpI ro C df (.cond c x y) st Q:=λg a w hs=>by
  have h:=hs.ev c;rw [hc] at h;have he:(Act.mark df a).eval c=.bool b:=bool_inv h;refine wpIn_cond he ?_;cases b
  · exact h2 rfl g a w hs
  exact h1 rfl g a w hs
theorem zX {id:Nat} {c:Code} (h:TWpI ro C df c st (fF id Q)):TWpI ro C df (.block id c) st Q:=λg a w hs=>by
  refine wpIn_block (Go.wpIn_mono (h g a w hs) ?_);intro e a' w' hq;obtain⟨hd,st',g',hQ,hs'⟩:=hq
  cases e with
  | exit id'=>
    simp only [Exit.inBlock];simp only [fF] at hQ;split
    · rename_i h;rw [if_pos h] at hQ;exact⟨hd,st',g',hQ,hs'⟩
    rename_i h;rw [if_neg h] at hQ;exact⟨hd,st',g',hQ,hs'⟩
  | _=>exact⟨hd,st',g',hQ,hs'⟩
theorem TWpI.plain {c:Code} (h:TWpI none C [] c st Q):TWp C c st Q:=λg a w hs=>by
  have h1:=h g a w hs;have e:Act.mark [] a=a:=by have:=hs.defers;cases a;simp only at this;subst this;rfl
  rw [e] at h1;refine Go.wp_mono (wpIn_wide.1 h1) ?_;rintro e a' w' ⟨hd,st',g',hQ,hs'⟩;have e':Act.mark [] a'=a':=by cases a';simp only at hd;subst hd;rfl
  rw [e'] at hs';exact⟨st',g',hQ,hs'⟩
end rules
variable {C:Ctx} {st:St} {g:Gh} {a:Act} {w:World} {P:Program}
theorem qL {o:Oper} {f:Operand} {xs:Array Operand} {ts:Array TypeId} {l:Nat} {rc:Loop} (ho:o.op=.call { callee:=.value f,args:=xs,argTypes:=ts }) (hf:a.eval f=.func (.yield l) #[] #[]) (hl:w.heap[l]?=some (.loop rc)) (hs:(xs.map a.eval).size=rc.params.size):
    (execOp a.eval o).run P w=.ok (.round l rc.fn ((rc.params.zip (xs.map a.eval)).foldl (λtmps (t,v)=>tmps.setIfInBounds t v) rc.tmps) rc.assign rc.body) w:=by
  simp only [execOp,ho,resolve,hf,Deferred.ofValue,invoke,Sem.run_bind,Sem.run_pure,Result.andThen_ok,Array.empty_append];exact run_yield hl hs
def sI:List Nat->List AV->Fr->Fr
  | p :: ps,x :: xs,fr=>sI ps xs ((p,x) :: fr)
  | _,_,fr=>fr
theorem zK:∀ (ps:List Nat) (xs:List AV) (vs:List Value) (tm:Array Value) (fr:Fr),Pw (ARep w g) xs vs->ps.length=xs.length->(∀ p∈ps,p < tm.size)->(∀ t,ARep w g (fr.get t) (tm.getD t undef))->
    ((ps.zip vs).foldl (λ(t:Array Value) (x:Nat×Value)=>t.setIfInBounds x.1 x.2) tm).size=tm.size/\∀ t,ARep w g ((sI ps xs fr).get t) (((ps.zip vs).foldl (λ(t:Array Value) (x:Nat×Value)=>t.setIfInBounds x.1 x.2) tm).getD t undef)
  | [],_,_,tm,fr,_,_,_,h=>⟨rfl,by simpa [sI] using h⟩
  | p :: ps,[],_,_,_,_,hl,_,_=>by simp at hl
  | p :: ps,x :: xs,[],_,_,hp,_,_,_=>by have:=hp.1;simp at this
  | p :: ps,x :: xs,v :: vs,tm,fr,hp,hl,hlt,h=>by
    have hp':Pw (ARep w g) xs vs:=⟨by have:=hp.1;simpa using this,λi x y hx hy=>hp.2 (i+1) x y (by simpa using hx) (by simpa using hy)⟩;have hx:ARep w g x v:=hp.2 0 x v rfl rfl;have hpt:p < tm.size:=hlt p List.mem_cons_self
    have ih := zK ps xs vs (tm.setIfInBounds p v) ((p, x) :: fr) hp' (by simpa using hl) (fun q hq => by rw [Array.size_setIfInBounds]; exact hlt q (List.mem_cons_of_mem _ hq)) (fun t => by
      simp only [Fr.get];rw [Array.getD_eq_getD_getElem?, Array.getElem?_setIfInBounds];by_cases hpt' : p = t
      · rw [if_pos hpt', if_pos hpt', if_pos hpt]; exact hx
      rw [if_neg hpt', if_neg hpt', <- Array.getD_eq_getD_getElem?]; exact h t)
    simp only [List.zip_cons_cons,List.foldl_cons,sI];exact⟨ih.1.trans (Array.size_setIfInBounds ..),ih.2⟩
def qCP (P:Program) (hp:List Blk) (mv:Nat->Bool) (args:List AV) (r:AV) (hp':List Blk):Prop:=
  ∀ (w:World) (g:Gh) (vs:Array Value) (l:Nat) (rc:Loop),Out ⟨P,0,w,hp.length,g,mv⟩ hp g w->g.phi 0=some l->w.heap[l]?=some (.loop rc)->Pw (ARep w g) args vs.toList->
    vs.size=rc.params.size/\RoundIn Fence.wide 0 P l rc.fn ((rc.params.zip vs).foldl (λtmps (t,v)=>tmps.setIfInBounds t v) rc.tmps) rc.assign rc.body w λe w'=>∃ v g',e=.returned v/\Out ⟨P,0,w,hp.length,g,mv⟩ hp' g' w'/\ARep w' g' r v
def mD (b:Bool) (ps:Array Tmp) (asg body:Code) (n:Nat) (fr:Fr):Blk:=match b with
  | true=>.lp .ready none ps asg body n fr
  | false=>.lp .done (some .ret) ps asg body n fr
def yQ (k:Nat) (b:Bool) (hp':List Blk):Exit->St->Prop:=λe st=>
  ((e=.normal/\b=true)\/(e=.ret/\b=false))/\∃ (ids:List Nat) (ps:Array Tmp) (asg body:Code) (n:Nat) (fr:Fr),ids.Nodup/\(∀ i,i < k->ids[i]?=some i)/\st.hp[0]?=some (.lp .busy none ps asg body n fr)/\
    ids.map (λi=>((st.hp.set 0 (mD b ps asg body n fr)).getD i .dead).mapRef (toName (aC ids)))=hp'
theorem wG {l:Nat} (o:Obj) (h:¬ g.X l):Grow w g (w.putObj l o) g:=
  ⟨λ_ _ h=>h,λ_ _ _=>rfl,λ_ h=>h,λb hb=>World.putObj_heap_other λe=>h (e ▸ hb)⟩
theorem Sim.turn (hs:Sim C st g a w) {i l:Nat} {s s':LoopState} {pd pd':Option Code} {ps:Array Tmp} {asg body:Code} {n:Nat} {fr:Fr} {rc:Loop} (hb:st.hp[i]?=some (.lp s pd ps asg body n fr)) (hp:g.phi i=some l) (hl:w.heap[l]?=some (.loop rc)):
    Sim C ⟨st.fr,st.hp.set i (.lp s' pd' ps asg body n fr)⟩ g a (w.putObj l (.loop { rc with state:=s',pending:=pd' })):=by
  obtain⟨b,r,hp',hw,h1,h2,h3,h4,h5,h6,hr⟩:=hs.hp i _ hb;cases hp.symm.trans hp';cases hl.symm.trans hw;have hX:=(hs.lt i l hp).2.2;have hlt:=(hs.lt i l hp).1;exact hs.change hb (λe=>by cases e) hp World.putObj_size rfl rfl rfl (zQW _) (λb' hb'=>World.putObj_heap_other hb') ⟨l,_,hp,World.putObj_heap_same hlt,rfl,rfl,h3,h4,h5,h6,λt=>(hr t).mono (wG _ hX)⟩
theorem sO {hp hp' : List Blk} {mv : Nat -> Bool} {args : List AV} {ps : Array Tmp} {asg body : Code} {n : Nat} {fr : Fr} {rest : List Blk} {b : Bool} (hhp : hp = .lp .ready none ps asg body n fr :: rest) (hmv : mv 0 = false) (hps : ps.toList.length = args.length) (hpn : (ps.toList.all fun p => decide (p < n)) = true)
    (h:∀ w g l,TWpI (some l) ⟨P,n,w,hp.length,g,mv⟩ [] asg ⟨sI ps.toList args fr,hp⟩ λe st=>e=.normal/\st.hp=hp/\TWpI (some l) ⟨P,n,w,hp.length,g,mv⟩ [] body ⟨st.fr,.lp .busy none ps asg body n fr :: rest⟩ (yQ hp.length b hp')):qCP P hp mv args (.d (.bool b)) hp':=by
  intro w g vs l rc hout hphi hl hargs;have h0:hp[0]?=some (.lp .ready none ps asg body n fr):=by rw [hhp];rfl
  have hk:0 < hp.length:=by rw [hhp];simp
  obtain⟨l',r',hph',hw',h1,h2,h3,h4,h5,h6,hr⟩:=hout.hp 0 _ h0;cases hphi.symm.trans hph';cases hl.symm.trans hw';have hvs:vs.toList.length=args.length:=hargs.1.symm;have hsz:vs.size=rc.params.size:=by rw [h3,<- Array.length_toList,<- Array.length_toList,hvs,hps]
  refine⟨hsz,?_⟩
  have hset := zK (w := w) (g := g) ps.toList args vs.toList rc.tmps fr hargs hps (fun p hp => by
    have := zQT.1 hpn p hp
    rw [h6]; exact of_decide_eq_true this) hr
  have hfold:(rc.params.zip vs).foldl (λtmps (t,v)=>tmps.setIfInBounds t v) rc.tmps=(ps.toList.zip vs.toList).foldl (λ(t:Array Value) (x:Nat×Value)=>t.setIfInBounds x.1 x.2) rc.tmps:=by
    rw [h3,<- Array.foldl_toList,Array.toList_zip]
  rw [hfold,h4,h5]
  have hsim:Sim ⟨P,n,w,hp.length,g,mv⟩ ⟨sI ps.toList args fr,hp⟩ g { tmps:=(ps.toList.zip vs.toList).foldl (λ(t:Array Value) (x:Nat×Value)=>t.setIfInBounds x.1 x.2) rc.tmps,defers:=[] } w:=
    Out.sim (C:=⟨P,n,w,hp.length,g,mv⟩) hout rfl (hset.1.trans h6) hset.2
  refine roundIn_of_wpIn trivial (Go.wpIn_mono (h w g l g _ w hsim) ?_);rintro e a₁ w₁ ⟨hd,st₁,g₁,⟨rfl,hhp₁,hbody⟩,hs₁⟩;have e₁:Act.mark [] a₁=a₁:=by cases a₁;simp only at hd;subst hd;rfl
  rw [e₁] at hs₁;have hb₁:st₁.hp[0]?=some (.lp .ready none ps asg body n fr):=by rw [hhp₁];exact h0
  have hphi₁:g₁.phi 0=some l:=(hs₁.stay 0 l hk hmv hphi).2;obtain⟨l₁,r₁,hp₁,hw₁,hr₁,hq₁,_⟩:=hs₁.hp 0 _ hb₁;cases hphi₁.symm.trans hp₁;refine⟨_,run_beginRound hw₁ hr₁,?_⟩;have hs₂:=hs₁.turn (s':=.busy) (pd':=none) hb₁ hphi₁ hw₁;have hrc:({ r₁ with state:=.busy,pending:=none }:Loop)={ r₁ with state:=.busy }:=by cases r₁;simp only at hq₁;subst hq₁;rfl
  rw [hrc] at hs₂;have hset0:st₁.hp.set 0 (.lp .busy none ps asg body n fr)=.lp .busy none ps asg body n fr :: rest:=by rw [hhp₁,hhp];rfl
  rw [hset0] at hs₂;refine Go.wpIn_mono (by have:=hbody g₁ a₁ _ hs₂;rwa [show Act.mark [] a₁=a₁ from e₁] at this) ?_;rintro e a₂ w₂ ⟨hd₂,st₂,g₂,⟨he,ids,ps',asg',body',n',fr',hnd,hids,hb₂,hres⟩,hs₃⟩;have hphi₂:g₂.phi 0=some l:=(hs₃.stay 0 l hk hmv hphi).2;obtain⟨l₂,r₂,hp₂,hw₂,hst₂,hq₂,_⟩:=hs₃.hp 0 _ hb₂;cases hphi₂.symm.trans hp₂
  have fin:∀ (s:LoopState) (pd:Option Code),.lp s pd ps' asg' body' n' fr'=mD b ps' asg' body' n' fr'->∃ v g',Ending.returned (.bool b)=.returned v/\Out ⟨P,0,w,hp.length,g,mv⟩ hp' g' (w₂.putObj l (.loop { r₂ with state:=s,pending:=pd }))/\ARep (w₂.putObj l (.loop { r₂ with state:=s,pending:=pd })) g' (.d (.bool b)) v:=by
    intro s pd hlp;have hs₄:=hs₃.turn (s':=s) (pd':=pd) hb₂ hphi₂ hw₂;rw [hlp] at hs₄;have hc:=hs₄.canon [] ids hnd hids;have ho:=hc.out;simp only [St.canon] at ho;rw [hres] at ho;exact⟨.bool b,g₂.canon ids,rfl,ho,.d _ _ (.bool b)⟩
  rcases he with ⟨rfl,rfl⟩|⟨rfl,rfl⟩
  · exact⟨_,_,run_endRound none hw₂,fin .ready none rfl⟩
  exact⟨_,_,run_endRound (some .ret) hw₂,fin .done (some .ret) rfl⟩
variable {C:Ctx} {st:St} {g:Gh} {a:Act} {w:World} {P:Program}
theorem qGQ {i:Nat} {v:Value} (h:ARep w g (.yld i) v):∃ b,g.phi i=some b/\v=.func (.yield b) #[] #[]:=by
  cases h with
  | yld _ b hb=>exact⟨b,hb,rfl⟩
section
variable {ro:Option Nat} {df:List Deferred} {ops:Array Oper} {l:List Oper} {K:St->Prop} {fr:Fr} {hp:List Blk} {d:Nat} {ty:TypeId} {pos:String} {after:Array Edge}
theorem lJ {f:Operand} {xs:Array Operand} {ts:Array TypeId} (i:Nat) (ids:List Nat) (mv:Nat->Bool) {args:List AV} {r r':AV} {fr2:Fr} {hh hp' hp2:List Blk} {ps:Array Tmp} {asg body:Code} {n:Nat} {frl:Fr} (hd:decide (d < C.n)=true) (hf:fr.ev f=.yld i) (hi:ids[0]?=some i)
    (hlp:hp[i]?=some (.lp .ready none ps asg body n frl)) (hnd:ids.Nodup) (hal:(ids.all λj=>aR hp j)=true)
    (hmv:((List.range C.k).all λj=>!mvd ids mv j||C.mv j)=true) (hx:(xs.toList.map fr.ev).map (AV.mapRef (toName (aC ids)))=args) (hhd:eT ids hp=hh) (hret:qCP C.P hh mv args r hp') (hr:r.mapRef (fwd ids hp.length)=r') (hfr:Fr.mapRef (bQ (mvd ids mv)) fr=fr2) (hb:eO ids (hp.map (Blk.mapRef (bQ (mvd ids mv)))) hp'=hp2)
    (h:kY ro C df ops l ⟨(d,r') :: fr2,hp2⟩ K):kY ro C df ops (⟨some d,.call { callee:=.value f,args:=xs,argTypes:=ts },ty,pos,after,none⟩ :: l) ⟨fr,hp⟩ K:=by
  subst hr hb hhd hfr;intro g a w hs;unfold wpListIn;rw [if_pos (by simp [Region.wanted])];refine⟨λ_ _=>trivial,?_⟩;have he:(Act.mark df a).eval=a.eval:=by funext x;cases x<;>rfl
  rw [he,qF rfl];have hfv:=hs.ev f;rw [hf] at hfv;obtain⟨b,hphi,hv⟩:=qGQ hfv;obtain⟨b',rc,hphi',hw,_⟩:=hs.hp i _ hlp;cases hphi.symm.trans hphi'
  have hf':∀ i j,aC ids i=some j->(g.canon ids).phi j=g.phi i/\(g.canon ids).psi j=g.psi i:=by
    intro i j hij;have:=aH ids i j hij;simp [Gh.canon,this]
  have hargs:Pw (ARep w (g.canon ids)) args (xs.map a.eval).toList:=by
    rw [<- hx];refine⟨by simp,λi x v hxi hvi=>?_⟩;simp only [List.map_map,zQP,zQO] at hxi;simp only [Array.toList_map,zQP,zQO] at hvi;obtain⟨y,hy,rfl⟩:=hxi;obtain⟨z,hz,rfl⟩:=hvi;rw [hy] at hz;cases hz;exact ARep.mapRef (w:=w) (g:=g) (g':=g.canon ids) (λd v hd=>hd) (ARep.toName hf' λ_ hb=>hb) (hs.ev y)
  have hal':∀ j∈ids,aR hp j=true:=λj hj=>zQT.1 hal j hj;have hlt:∀ j∈ids,j < hp.length:=λj hj=>by obtain⟨B,hB,_⟩:=bW (hal' j hj);exact (zQQ.1 hB).1
  have hmv':∀ j,j < C.k->mvd ids mv j=true->C.mv j=true:=λj hj hm=>by
    have:=zQT.1 hmv j (List.mem_range.2 hj);simpa [hm] using this
  have h0:(g.canon ids).phi 0=some b:=by simp [Gh.canon,hi,hphi]
  obtain⟨hsz,hround⟩:=hret w (g.canon ids) _ b rc (hs.handedM hnd mv) h0 hw hargs;rw [qL rfl hv hw hsz];refine⟨λe=>(by cases e),RoundIn.mono (show RoundIn (FR ro) (0 - 1) C.P b rc.fn _ rc.assign rc.body w _ from hround) ?_⟩;rintro e w' ⟨v,g',rfl,hout,hr⟩;simp only [eG];have hdst:gG C.n (some d)=true:=by simpa [gG] using hd
  refine h _ _ _ ((hs.backM mv hnd hal' hmv' hout).put' (d:=some d) hdst ?_);refine ARep.mapRef (w:=w') (g:=g') (λd v hd=>hd.mono (λb hb=>?_) λ_ _=>rfl) (λx v hx hr=>hx.fwd hnd hlt hr) hr;by_cases hlt':b < w.heap.size
  · exact .inl (hout.Xold b hb hlt')
  exact .inr ⟨by omega,hb⟩
end
def Ctx.rebase (C:Ctx) (n0 k:Nat) (g:Gh) (w:World):Ctx:=⟨C.P,C.n,w,k,g,λi=>bif Nat.blt i C.k then C.mv i else !Nat.beq i n0⟩
theorem Sim.rebase (hs:Sim C st g a w) (n0:Nat):Sim (C.rebase n0 st.hp.length g w) st g a w:=
  { hs with Xold:=λ_ h _=>h,os:=rfl,tape:=rfl,output:=rfl,drawn:=zQW _,grown:=zQW _,keep:=λ_ _ _=>rfl,own:=λi b hp _=>⟨(hs.lt i b hp).2.1,hp⟩,stay:=λ_ _ _ _ hp=>⟨rfl,hp⟩,kle:=zQW _ }
theorem Sim.unbase {st':St} {g':Gh} {a':Act} {w':World} {n0:Nat} (hs:Sim C st g a w) (h:Sim (C.rebase n0 st.hp.length g w) st' g' a' w'):Sim C st' g' a' w':=
  { h with
    Xold := fun b hb hlt => hs.Xold b (h.Xold b hb (Nat.lt_of_lt_of_le hlt hs.grown)) hlt
    os := h.os.trans hs.os, tape := h.tape.trans hs.tape, output := h.output.trans hs.output, drawn := Nat.le_trans hs.drawn h.drawn, grown := Nat.le_trans hs.grown h.grown
    keep := fun b hb hk => (h.keep b (Nat.lt_of_lt_of_le hb hs.grown) fun i _ hp => hk i (hs.own i b hp hb).1 (hs.own i b hp hb).2).trans (hs.keep b hb hk)
    own := fun i b hp hb => hs.own i b (h.own i b hp (Nat.lt_of_lt_of_le hb hs.grown)).2 hb
    stay := fun i b hi hm hp => by
      obtain ⟨h1, h2⟩ := hs.stay i b hi hm hp;have h3 := h.stay i b (Nat.lt_of_lt_of_le hi hs.kle) (by simp only [Ctx.rebase]; rw [show Nat.blt i C.k = true by simpa [Nat.blt_eq] using hi]; exact hm) h2;exact ⟨h3.1.trans h1, h3.2⟩
    kle := Nat.le_trans hs.kle h.kle }
def oG (D:Nat):Deferred:={ target:=.collected D,args:=#[] }
def QE (C : Ctx) (Q : Exit -> St -> Prop) : Exit -> Act -> World -> Prop := fun e a w => ∃ st g, Q e st /\ Sim C st g (Act.mark [] a) w /\
  (a.defers=[]\/∃ D i,a.defers=[oG D]/\g.phi i=some D/\st.hp[i]?=some (.ob (.deferred (some []))))
def qCO (C:Ctx) (c:Code) (st:St) (Q:Exit->St->Prop):Prop:=∀ g a w,Sim C st g a w->c.wpIn (FR none) 0 C.P (QE C Q) a w
section
variable {Q:Exit->St->Prop}
theorem qAR {a:Act} (h:a.defers=[]):Act.mark [] a=a:=by cases a;simp only at h;subst h;rfl
theorem pA {x y:Code} (h:TWp C x st (fW (λst'=>qCO C y st' Q) Q)):qCO C (.seq x y) st Q:=λg a w hs=>by
  refine wpIn_seq (wpIn_wide.2 (Go.wp_mono (h g a w hs) ?_));rintro e a' w' ⟨st',g',hQ,hs'⟩
  cases e with
  | normal=>exact hQ g' a' w' hs'
  | _=>exact⟨st',g',hQ,by rw [qAR hs'.defers];exact hs',.inl hs'.defers⟩
def qIS (C:Ctx) (z y:Code) (st:St) (Q:Exit->St->Prop):Prop:=∀ g a w,Sim C st g a w->z.wpIn (FR none) 0 C.P (Exit.then (y.wpIn (FR none) 0 C.P (QE C Q)) (QE C Q)) a w
theorem uS {x y z:Code} (h:TWp C x st (fW (λst'=>qIS C z y st' Q) Q)):qCO C (.seq (.seq x z) y) st Q:=λg a w hs=>by
  refine wpIn_seq (wpIn_seq (wpIn_wide.2 (Go.wp_mono (h g a w hs) ?_)));rintro e a' w' ⟨st',g',hQ,hs'⟩
  cases e with
  | normal=>exact hQ g' a' w' hs'
  | _=>exact⟨st',g',hQ,by rw [qAR hs'.defers];exact hs',.inl hs'.defers⟩
theorem vR {G:FuncId} (hc:iF P G=true) (vs args:Array Value):(invoke (.fn (.func G) vs) args).run P w=.ok (.enter G (args++vs)) w:=by
  simp only [invoke];exact vA hc _ _
theorem nQ {gop:Operand} {ps:Array Tmp} {asg body y:Code} {bid:Nat} {fr:Fr} {hp:List Blk} {G:FuncId} {c:AV} {cs:List AV} (ids:List Nat) (mv:Nat->Bool) {args:List AV} {r:AV} {hh hp' hp2:List Blk} {fr2 frl:Fr} {b:Bool} {ps':Array Tmp} {asg' body':Code} {n':Nat}
    (hf:fr.ev gop=c) (hc:jB c=some (G,cs)) (hi:ids[0]?=some (hp.length+1)) (hnd:ids.Nodup) (hal:(ids.all λj=>aR (hp++[.ob (.deferred (some [])),.lp .ready none ps asg body C.n fr]) j)=true) (hn0:aC ids hp.length=none)
    (hmv:((List.range C.k).all λj=>!mvd ids mv j||C.mv j)=true) (hmv0:mv 0=false) (hx:(AV.yld (hp.length+1) :: cs).map (AV.mapRef (toName (aC ids)))=args) (hhd:eT ids (hp++[.ob (.deferred (some [])),.lp .ready none ps asg body C.n fr])=hh) (hret:Ret C.P G hh mv args r hp')
    (hfr:Fr.mapRef (bQ (mvd ids mv)) fr=fr2) (hb:eO ids ((hp++[Blk.ob (.deferred (some [])),Blk.lp .ready none ps asg body C.n fr]).map (Blk.mapRef (bQ (mvd ids mv)))) hp'=hp2)
    (hlp:hp2[hp.length+1]?=some (mD b ps' asg' body' n' frl)) (hob:hp2[hp.length]?=some (.ob (.deferred (some []))))
    (h1:b=true->∀ w g df,TWpI none (C.rebase hp.length hp2.length g w) df y ⟨fr2,hp2.set (hp.length+1) (.lp .exhausted none ps' asg' body' n' frl)⟩ λe st=>Q e st/\st.hp[hp.length]?=some (.ob (.deferred (some []))))
    (h2:b=false->Q .ret ⟨fr2,hp2.set (hp.length+1) (.lp .exhausted (some .ret) ps' asg' body' n' frl)⟩):qIS C (.block bid (.rangeFunc gop ps asg body)) y ⟨fr,hp⟩ Q:=by
  subst hfr hb hhd;intro g a w hs;have hk:=hs.kle;simp only at hk;have hs1:=hs.alloc (o:=.deferred (some [])) (n:=0) (B:=.ob (.deferred (some []))) ⟨w.heap.size,by simp [Gh.new,upd],World.alloc_heap_new w _⟩;refine wpIn_block (wpIn_rangeFunc λfn _=>?_)
  have hs2:=hs1.alloc (o:=.loop { state:=.ready,pending:=none,fn,tmps:=a.tmps,params:=ps,assign:=asg,body,defers:=w.heap.size }) (n:=0) (B:=.lp .ready none ps asg body C.n fr)
    ⟨_,_,by simp [Gh.new,upd],World.alloc_heap_new _ _,rfl,rfl,rfl,rfl,rfl,hs1.size,λt=>(hs1.fr t).mono (hs1.grow_new _ 0)⟩
  simp only [List.append_assoc,List.singleton_append,zQL,List.length_cons,List.length_nil,Nat.zero_add,World.size_alloc] at hs2;generalize hw2:(w.alloc (.deferred (some []))).alloc (.loop { state:=.ready,pending:=none,fn,tmps:=a.tmps,params:=ps,assign:=asg,body,defers:=w.heap.size })=w2 at hs2;generalize hg2:(g.new hp.length w.heap.size 0).new (hp.length+1) (w.heap.size+1) 0=g2 at hs2;have hpN:g2.phi (hp.length+1)=some (w.heap.size+1):=by rw [<- hg2];simp [Gh.new,upd]
  have hpM:g2.phi hp.length=some w.heap.size:=by rw [<- hg2];simp [Gh.new,upd]
  generalize hH:hp++[Blk.ob (.deferred (some [])),.lp .ready none ps asg body C.n fr]=H at *;have hHl:H.length=hp.length+2:=by rw [<- hH];simp
  have hfv:=hs.ev gop;rw [hf] at hfv;obtain⟨vs0,hv0,_⟩:=gO hfv hc;have hfv2:=hs2.ev gop;simp only at hfv2;rw [hf] at hfv2;obtain⟨vs,hv,hvs⟩:=gO hfv2 hc
  have hf':∀ i j,aC ids i=some j->(g2.canon ids).phi j=g2.phi i/\(g2.canon ids).psi j=g2.psi i:=by
    intro i j hij;have:=aH ids i j hij;simp [Gh.canon,this]
  have hargs:Pw (ARep w2 (g2.canon ids)) args (#[Value.func (.yield (w.heap.size+1)) #[] #[]]++vs).toList:=by
    rw [<- hx,List.map_cons,Array.toList_append];refine Pw.append (xs:=[_]) ⟨rfl,λi x v hxi hvi=>?_⟩ ⟨by simpa using hvs.1,λi x v hxi hvi=>?_⟩
    · cases i with
      | zero=>
        simp at hxi hvi;subst hxi hvi;exact ARep.mapRef (w:=w2) (g:=g2) (g':=g2.canon ids) (λd v hd=>hd) (ARep.toName hf' λ_ hb=>hb) (.yld _ _ hpN)
      | succ i=>simp at hxi
    simp only [zQP,zQO] at hxi;obtain⟨d,hd',rfl⟩:=hxi;exact ARep.mapRef (w:=w2) (g:=g2) (g':=g2.canon ids) (λd v hd=>hd) (ARep.toName hf' λ_ hb=>hb) (hvs.2 i d v hd' hvi)
  have hal':∀ j∈ids,aR H j=true:=λj hj=>zQT.1 hal j hj
  have hmv':∀ j,j < C.k->mvd ids mv j=true->C.mv j=true:=λj hj hm=>by
    have:=zQT.1 hmv j (List.mem_range.2 hj);simpa [hm] using this
  have hpl:aC ids (hp.length+1)=some 0:=jK hnd hi;refine⟨w.heap.size+1,[oG w.heap.size],w2,{ target:=.fn (.func G) vs,args:=#[Value.func (.yield (w.heap.size+1)) #[] #[]] },w2,G,_,w2,by rw [<- hw2];exact run_enterLoop_outer fn a.tmps ps asg body,?_,λ_ _=>trivial,vR hret.1 _ _,λe=>(by cases e),mS ((hret.2 w2 (g2.canon ids) _ (hs2.handedM hnd mv) hargs).mono ?_)⟩
  · simp only [resolve,hv,Deferred.ofValue,Sem.run_pure,Array.empty_append]
    simp [Act.eval]
  rintro e w' ⟨v,g',rfl,hout,_⟩;have hs3:=hs2.backM mv hnd hal' hmv' hout;simp only at hs3;have hph0:(g2.canon ids).phi 0=some (w.heap.size+1):=by simp [Gh.canon,hi,hpN]
  have hl0:0 < (eT ids H).length:=by
    have:=(zQQ.1 hi).1;simpa [eT] using this
  have hg0:g'.phi 0=some (w.heap.size+1):=(hout.stay 0 _ hl0 hmv0 hph0).2;have hphi:(g2.back ids H.length w2.heap.size g').phi (hp.length+1)=some (w.heap.size+1):=by simp only [Gh.back,hpl];exact hg0
  have hphM:(g2.back ids H.length w2.heap.size g').phi hp.length=some w.heap.size:=by simp only [Gh.back,hn0];rw [if_pos (by omega)];exact hpM
  have hnil:=hs.defers;have hmk:({ a with defers:=[oG w.heap.size]++a.defers }:Act)=Act.mark [oG w.heap.size] a:=by rw [hnil];rfl
  rw [hmk]
  cases b with
  | true=>
    obtain⟨l',rc,hp',hw',hst,hpd,_⟩:=hs3.hp _ _ hlp;cases hphi.symm.trans hp';have hs4:=hs3.turn (s':=.exhausted) (pd':=none) hlp hphi hw';have hrc:({ rc with state:=.exhausted,pending:=none }:Loop)={ rc with state:=.exhausted }:=by cases rc;simp only at hpd;subst hpd;rfl
    rw [hrc] at hs4;refine⟨none,_,by rw [<- hpd];exact run_endLoop hw' (by rw [hst];exact λe=>by cases e),?_⟩;have h5:=h1 rfl _ _ [oG w.heap.size] _ _ _ (by have:=hs4.rebase hp.length;rwa [List.length_set] at this);refine Go.wpIn_mono h5 ?_;rintro e a' w4 ⟨hd,st',g4,⟨hQ,hob'⟩,hs'⟩;refine⟨st',g4,hQ,hs4.unbase (n0:=hp.length) (by rw [List.length_set];exact hs'),.inr ⟨_,hp.length,hd,(hs'.stay hp.length _ ?_ ?_ hphM).2,hob'⟩⟩
    · have:=(zQQ.1 hob).1;simpa [Ctx.rebase] using this
    simp only [Ctx.rebase];rw [show Nat.blt hp.length C.k=false by rw [Bool.eq_false_iff];intro h;rw [Nat.blt_eq] at h;omega];simp
  | false=>
    obtain⟨l',rc,hp',hw',hst,hpd,_⟩:=hs3.hp _ _ hlp;cases hphi.symm.trans hp';have hs4:=hs3.turn (s':=.exhausted) (pd':=some .ret) hlp hphi hw';have hrc:({ rc with state:=.exhausted,pending:=some .ret }:Loop)={ rc with state:=.exhausted }:=by cases rc;simp only at hpd;subst hpd;rfl
    rw [hrc] at hs4;refine⟨some .ret,_,by rw [<- hpd];exact run_endLoop hw' (by rw [hst];exact λe=>by cases e),?_⟩;refine wpIn_ret ⟨_,_,h2 rfl,by rw [kR hnil];exact hs4,.inr ⟨_,hp.length,rfl,hphM,?_⟩⟩;simp only;rw [List.getElem?_set_ne (by omega)];exact hob
end
variable {C:Ctx} {st:St} {g:Gh} {a:Act} {w:World} {P:Program}
section
variable {hp:List Blk} {i:Nat} {o:Obj} {B:Blk}
theorem qE (hi:hp[i]?=some (.ob o)) {id:Nat} {B':Blk} (h:hp[id]?=some B') (hn:∀ q,B'≠.ob q):(hp.set i B)[id]?=some B':=by
  rw [List.getElem?_set_ne]
  · exact h
  intro e;subst e;rw [hi] at h;cases h;exact hn _ rfl
theorem Snap.ob (hi:hp[i]?=some (.ob o)) {x:AV} {d:D} (h:Snap hp x d):Snap (hp.set i B) x d:=by
  induction h with
  | d x=>exact .d x
  | msl id sz off len ty es h hl=>exact .msl id sz off len ty es (qE hi h λ_ e=>by cases e) hl
  | mptrF id sz idx off ty es e h he=>exact .mptrF id sz idx off ty es e (qE hi h λ_ e=>by cases e) he
  | mptrB id off ty cs ds h hl h1 _ ih=>exact .mptrB id off ty cs ds (qE hi h λ_ e=>by cases e) hl h1 λi c d hc hd=>ih i c d hc hd
  | agg cs ds hl h1 _ ih=>exact .agg cs ds hl h1 λi c d hc hd=>ih i c d hc hd
  | clo f cs ds hl _ ih=>exact .clo f cs ds hl λi c d hc hd=>ih i c d hc hd
  | ifc t c d _ ih=>exact .ifc t c d ih
theorem SnapsW.ob (hi:hp[i]?=some (.ob o)) {xs:List AV} {ds:List D} (h:SnapsW hp xs ds):SnapsW (hp.set i B) xs ds:=by
  induction h with
  | nil=>exact .nil
  | cons h hd _ ih=>exact .cons (h.ob hi) hd ih
theorem ResV.ob (hi:st.hp[i]?=some (.ob o)) {r:ResultVar} {x:AV} (h:ResV P st r x):ResV P ⟨st.fr,st.hp.set i B⟩ r x:=by
  cases h with
  | tmp t=>exact .tmp (st:=⟨st.fr,st.hp.set i B⟩) t
  | one hl ha hb hc=>exact .one hl ha (qE hi hb λ_ e=>by cases e) hc
  | agg hl ha hb hc hv=>exact .agg hl ha (qE hi hb λ_ e=>by cases e) hc hv
theorem ResVs.ob (hi:st.hp[i]?=some (.ob o)):∀ {rs:List ResultVar} {xs:List AV},ResVs P st rs xs->ResVs P ⟨st.fr,st.hp.set i B⟩ rs xs
  | _,_,.nil=>.nil
  | _,_,.cons h hr=>.cons (h.ob hi) (ResVs.ob hi hr)
theorem ResOk.ob (hi:st.hp[i]?=some (.ob o)) {rs:List ResultVar} {x:AV} (h:ResOk P st rs x):ResOk P ⟨st.fr,st.hp.set i B⟩ rs x:=by
  obtain⟨xs,h,e⟩:=h;exact⟨xs,h.ob hi,e⟩
end
theorem qM {F:FuncId} {fn:Func} {c:Code} {mv:Nat->Bool} {args:List AV} {ds:List D} {n:Nat} {rs:List ResultVar} (hcb:iF P F=true) (hf:P.funcs[F]?=some fn) (hb:fn.body=some c) (hn:fn.ntmps=n) (hrs:fn.results.toList=rs) (hle:Nat.ble args.length n=true)
    (h:∀ w g,qCO ⟨P,n,w,0,g,mv⟩ c ⟨jD args,[]⟩ (qFV P rs ds)):Ret P F [] mv args (.tup (ds.map .d)) []:=by
  subst hn hrs;have hn:=Nat.le_of_ble_eq_true hle;refine⟨hcb,?_⟩;intro w g vs hout hargs;have hlen:vs.size=args.length:=by have:=hargs.1;simpa using this.symm
  have hsim:Sim ⟨P,fn.ntmps,w,0,g,mv⟩ ⟨jD args,[]⟩ g { tmps:=vs++Array.replicate (fn.ntmps - vs.size) undef,defers:=[] } w:=by
    refine Out.sim (C:=⟨P,fn.ntmps,w,0,g,mv⟩) hout rfl ?_ λt=>?_
    · simp only [Array.size_append,Array.size_replicate];omega
    unfold jD;rw [iX,if_pos (Nat.zero_le _),Nat.sub_zero];by_cases ht:t < args.length
    · have h1:args[t]?=some args[t]:=zQR ht
      have h2:vs.toList[t]?=some (vs.toList[t]'(by simpa [hlen] using ht)):=zQR _;have h3:=hargs.2 t _ _ h1 h2;rw [h1]
      have h4:(vs++Array.replicate (fn.ntmps - vs.size) undef).getD t undef=vs.toList[t]'(by simpa [hlen] using ht):=by
        rw [Array.getD_eq_getD_getElem?,Array.getElem?_append,if_pos (by omega)];simp [show t < vs.size by omega]
      rw [h4];exact h3
    rw [List.getElem?_eq_none (by omega)];exact .junk _
  refine callsIn_wide.1 (callsIn_of_wp_marks (F:=Fence.wide) (n:=0) hf hb trivial (Go.wpIn_mono (h w g g _ w hsim) ?_))
  have fin:∀ (st':St) (g':Gh) (a':Act) (w':World),Sim ⟨P,fn.ntmps,w,0,g,mv⟩ st' g' (Act.mark [] a') w'->EndsT P fn.results.toList ds st'->∃ v,(results fn a'.tmps).run P w'=.ok v w'/\∃ v' g',Ending.returned v=.returned v'/\Out ⟨P,0,w,0,g,mv⟩ [] g' w'/\ARep w' g' (.tup (ds.map .d)) v':=by
    rintro st' g' a' w' hs' ⟨xs,hx,hsn⟩;obtain⟨v,hv,hrep⟩:=iA (P:=P) hs' hx;obtain⟨g2,h1,h2⟩:=hs'.endS;refine⟨v,hv,v,g2,rfl,h1,?_⟩;have hkey:=hsn.key
    have key:xs.length=ds.length/\∀ (i:Nat) (x:AV) (d:D) (u:Value),xs[i]?=some x->ds[i]?=some d->ARep w' g' x u->ARep w' g2 (.d d) u:=by
      refine⟨hkey.1,λi x d u hx hd hu=>?_⟩;obtain⟨d0,q1,q2⟩:=hkey.2 i x d hx hd;have:=h2 _ _ _ hu q1;cases this with|d _ _ q=>exact .d _ _ (q2 _ _ _ q)
    cases hrep with
    | tup _ us hl hr=>
      refine .tup _ us (by rw [zQC,<- key.1];exact hl) λi c u hci hu=>?_;simp only [zQP,zQO] at hci;obtain⟨d,hd,rfl⟩:=hci;have hi:i < xs.length:=by rw [key.1];exact (zQQ.1 hd).1
      exact key.2 i xs[i] d u (by simp [hi]) hd (hr i xs[i] u (by simp [hi]) hu)
  have all:∀ (st':St) (g':Gh) (a':Act) (w':World),Sim ⟨P,fn.ntmps,w,0,g,mv⟩ st' g' (Act.mark [] a') w'->EndsT P fn.results.toList ds st'->
      (a'.defers=[]\/∃ D i,a'.defers=[oG D]/\g'.phi i=some D/\st'.hp[i]?=some (.ob (.deferred (some []))))->
      LeavesInM Fence.wide 0 P fn a'.tmps (λe w'=>∃ v g',e=.returned v/\Out ⟨P,0,w,0,g,mv⟩ [] g' w'/\ARep w' g' (.tup (ds.map .d)) v) a'.defers .returning w':=by
    intro st' g' a' w' hs' hE hd;rcases hd with hd|⟨D,i,hd,hp,hb⟩
    · rw [hd];exact fin st' g' a' w' hs' hE
    rw [hd];obtain⟨b,hp',hw⟩:=hs'.hp i _ hb;cases hp.symm.trans hp';refine⟨λe=>(by cases e),.inl ⟨D,_,rfl,run_takeDeferred hw,?_⟩⟩;have hlt:=(hs'.lt i D hp).1;have hs5:=hs'.change (B:=.ob (.deferred none)) hb (λe=>by cases e) hp (w':=w'.putObj D (.deferred none)) World.putObj_size rfl rfl rfl (zQW _) (λb' hb'=>World.putObj_heap_other hb') ⟨D,hp,World.putObj_heap_same hlt⟩;obtain⟨xs,hx,hsn⟩:=hE;exact fin _ g' a' _ hs5 ⟨xs,hx.ob hb,hsn.ob hb⟩
  rintro e a' w' ⟨st',g',hQ,hs',hd⟩
  cases e with
  | normal=>exact all st' g' a' w' hs' hQ hd
  | ret=>exact all st' g' a' w' hs' hQ hd
  | _=>exact hQ.elim
end Go.TL
