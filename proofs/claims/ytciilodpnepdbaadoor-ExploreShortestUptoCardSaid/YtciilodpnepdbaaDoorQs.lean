/- Texts of this proof, joined, without what it does not use. No condition. -/
import Derived.Lib.AppendStr
import Derived.Test.YtciilodpnepdbaaDoorQr

set_option maxHeartbeats 4000000
set_option linter.unusedSimpArgs false
namespace Go.TL
open Go.Sort Go.Proofs
variable {C:Ctx} {st:St} {g:Gh} {a:Act} {w:World} {P:Program}
theorem eL {o:Oper} {ts:Array TypeId} {x y:Operand} (ho:o.op=.call { callee:=.builtin .append,args:=#[x,y],argTypes:=ts }) {v:Value} {w':World} (hr:(Builtin.append_ ts o.type #[a.eval x,a.eval y]).run P w=.ok v w'):
    (execOp a.eval o).run P w=.ok (.value v) w':=by
  simp only [execOp,ho];simp [resolve,invoke,builtin,hr]
theorem uT {o:Oper} {t u e:TypeId} {x y:Operand} (id by' n:Nat) (es ds:List D) (news:List Value) (s:ByteArray) (z:Value) (ho:o.op=.call { callee:=.builtin .append,args:=#[x,y],argTypes:=#[t,u] }) (hu:P.underlying u=some .string) (hl:sel P t=some (e,1,by'))
    (hz:(P.info? e).bind (·.zero)=some z) (hzs:z.cells.size=1) (hvx:ARep w g (.msl id 1 0 n) (a.eval x)) (hblk:BRep w g id (.flat e 1 es)) (hn:n=es.length) (hey:a.eval y=.string s) (hs0:0 < s.size) (hds:ds.length=s.size) (hnews:news=Lib.strCells s) (n4:∀ (i:Nat) (e:D),ds[i]?=some e->e.cells.length=1) (n5:∀ (i:Nat) (e:D) (j:Nat) (c:D),ds[i]?=some e->e.cells[j]?=some c->c.one=true) (n6:∀ (i:Nat) (e:D) (j:Nat) (c:D),ds[i]?=some e->e.cells[j]?=some c->∃ v,news[i * 1+j]?=some v/\DRep w g.X c v)
    (hlen:(es.length+ds.length) * by'<=140737488355328) (hlen':es.length+ds.length<=9223372036854775807):
    ∃ v w',(execOp a.eval o).run P w=.ok (.value v) w'/\
      ((ds = [] /\ v = a.eval x /\ w' = w) \/
       (∃ b cells cells' cap, g.phi id = some b /\ w.heap[b]? = some (.cells cells e (0, 0)) /\ g.psi id = cells.size /\ cells'.size = cells.size /\ v = .slice (some ⟨b, 0, none⟩) (es.length + ds.length) cap /\ es.length + ds.length <= cap /\ cap * 1 <= cells.size /\ w' = w.setRow b cells' /\ RowOf w g.X 1 (es ++ ds) cells') \/
       (∃ cells' cap, v = .slice (some ⟨w.heap.size, 0, none⟩) (es.length + ds.length) cap /\ es.length + ds.length <= cap /\ cap * 1 <= cells'.size /\ w' = w.drew.alloc (.cells cells' e) /\ RowOf w g.X 1 (es ++ ds) cells')) := by
    obtain⟨inf,hun,hi,hsz,hby⟩:=jI hl;obtain⟨i',hi',hzero⟩:=iN hz;cases hi.symm.trans hi';have n1:news.length=ds.length * 1:=by rw [hnews,Lib.strCells_length,hds,Nat.mul_one]
    have n3:∀ u∈news,u.oneCell'=true:=by rw [hnews];exact Lib.strCells_oneCell s
    have hes:∀ (i:Nat) (d:D),(es++ds)[i]?=some d->(i < es.length/\es[i]?=some d)\/(es.length<=i/\ds[i - es.length]?=some d):=by
      intro i d h;rw [List.getElem?_append] at h;split at h
      · exact .inl ⟨‹_›,h⟩
      exact .inr ⟨by omega,h⟩
    have holds:∃ olds:List Value,olds.length=es.length * 1/\(∀ (b:Nat) (cells:Array Value),g.phi id=some b->w.heap[b]?=some (.cells cells e (0,0))->∀ (j:Nat) (u:Value),olds[j]?=some u->cells[j]?=some u)/\
        (∀ (i:Nat) (d:D),es[i]?=some d->d.cells.length=1)/\(∀ (i:Nat) (d:D) (j:Nat) (c:D),es[i]?=some d->d.cells[j]?=some c->c.one=true)/\
        ∀ (i:Nat) (d:D) (j:Nat) (c:D),es[i]?=some d->d.cells[j]?=some c->∃ v,olds[i * 1+j]?=some v/\DRep w g.X c v:=by
      rcases hblk with ⟨he,hn'⟩|⟨b,cells,hp,hw,hpsi,hl',h0,h1,hr⟩
      · subst he;exact⟨[],by simp,λ_ _ _ _ j u hu=>by simp at hu,λi d h=>by simp at h,λi d j c h=>by simp at h,λi d j c h=>by simp at h⟩
      obtain ⟨olds, o1, o2, _, o4⟩ := pM (w := w) (X := g.X) (fun m => cells[m]?) h0 h1 hr;refine⟨olds,o1,λb' cells' hp' hw' j u hu=>?_,h0,h1,o4⟩;cases hp.symm.trans hp';rw [hw] at hw';cases hw';exact o2 j u hu
    obtain⟨olds,o1,o2,o3,o4,o5⟩:=holds
    have hsizes:∀ (i:Nat) (d:D),(es++ds)[i]?=some d->d.cells.length=1:=λi d h=>by
      rcases hes i d h with ⟨_,h⟩|⟨_,h⟩
      · exact o3 i d h
      exact n4 _ d h
    have hones:∀ (i:Nat) (d:D) (j:Nat) (c:D),(es++ds)[i]?=some d->d.cells[j]?=some c->c.one=true:=λi d j c h hc=>by
      rcases hes i d h with ⟨_,h⟩|⟨_,h⟩
      · exact o4 i d j c h hc
      exact n5 _ d j c h hc
    have hlap:(es.length+ds.length) * 1=es.length * 1+ds.length * 1:=Nat.add_mul _ _ _
    have hcells:∀ f:Nat->Option Value,(∀ m,m < es.length * 1->f m=olds[m]?)->(∀ m,m < ds.length * 1->f (es.length * 1+m)=news[m]?)->
        ∀ (i:Nat) (d:D) (j:Nat) (c:D),(es++ds)[i]?=some d->d.cells[j]?=some c->∃ v,f (i * 1+j)=some v/\DRep w g.X c v:=by
      intro f f1 f2 i d j c h hc;have hj:j < 1:=by rw [<- hsizes i d h];exact (zQQ.1 hc).1
      rcases hes i d h with ⟨hlt,h⟩|⟨hge,h⟩
      · obtain⟨v,hv,hd⟩:=o5 i d j c h hc
        exact⟨v,by rw [f1 _ (by rw [<- o1];exact (zQQ.1 hv).1)];exact hv,hd⟩
      obtain⟨v,hv,hd⟩:=n6 _ d j c h hc;refine⟨v,?_,hd⟩;have hsub:i * 1=es.length * 1+(i - es.length) * 1:=by rw [<- Nat.add_mul];congr 1;omega
      rw [hsub,Nat.add_assoc,f2 _ (by rw [<- n1];exact (zQQ.1 hv).1)];exact hv
    have grown:∀ (zs:Array Value) (cap':Nat),es.length+ds.length<=cap'->zs.size=(cap' - (es.length+ds.length)) * 1->
        cap' * 1<=(olds.toArray++news.toArray++zs).size/\RowOf w g.X 1 (es++ds) (olds.toArray++news.toArray++zs):=by
      intro zs cap' hcap hzz
      have htot:(olds.toArray++news.toArray++zs).size=cap' * 1:=by
        simp only [Array.size_append,List.size_toArray,o1,n1,hzz,<- Nat.add_mul]
        congr 1
        omega
      refine⟨Nat.le_of_eq htot.symm,?_,hsizes,hones,λi d j c h hc=>?_⟩
      · rw [htot,zQL];exact Nat.mul_le_mul_right _ hcap
      exact hcells (λm=>(olds.toArray++news.toArray++zs)[m]?) (λm hm=>by rw [lK,if_pos (by omega)]) (λm hm=>by rw [lK,if_neg (by omega),if_pos (by omega)];congr 1;omega) i d j c h hc
    have hzsz:∀ k,(Builtin.zeroCells z.cells k).size=k * 1:=λk=>by rw [size_zeroCells,hzs]
    generalize hex:a.eval x=vx at hvx
    cases hvx with
    | msl0 _ _ _ ad0=>
      have hes0:es=[]:=List.eq_nil_of_length_eq_zero hn.symm;have holds0:olds=[]:=List.eq_nil_of_length_eq_zero (by rw [o1,hes0];simp);have hgr:=grown (Builtin.zeroCells z.cells (grownCap w ds.length 0 e - ds.length)) (grownCap w ds.length 0 e) (by rw [hes0];simpa using grownCap_ge w ds.length 0 e) (by rw [hzsz,hes0];simp);have hcap:es.length+ds.length<=grownCap w ds.length 0 e:=by rw [hes0];simpa using grownCap_ge w ds.length 0 e
      rw [hes0,holds0] at hgr;rw [hes0] at hlen hlen' hcap;simp only [List.length_nil,Nat.zero_add] at hlen hlen' hcap;have he:(#[]:Array Value)++news.toArray++Builtin.zeroCells z.cells (grownCap w ds.length 0 e - ds.length)=news.toArray++Builtin.zeroCells z.cells (grownCap w ds.length 0 e - ds.length):=by simp
      rw [show ([]:List Value).toArray=#[] from rfl,he] at hgr
      have fin:∃ cells' cap,(Value.slice (some ⟨w.heap.size,0,none⟩) ds.length (grownCap w ds.length 0 e))=.slice (some ⟨w.heap.size,0,none⟩) (es.length+ds.length) cap/\es.length+ds.length<=cap/\cap * 1<=cells'.size/\w.drew.alloc (.cells (news.toArray++Builtin.zeroCells z.cells (grownCap w ds.length 0 e - ds.length)) e)=w.drew.alloc (.cells cells' e)/\RowOf w g.X 1 (es++ds) cells':=
        ⟨_,_,by rw [hes0];simp,by rw [hes0];simpa using hcap,hgr.1,rfl,by rw [hes0];exact hgr.2⟩
      cases ad0 with
      | none=>
        have hr:=run_append_nil_string (P:=P) w t u o.type e inf z hun hu hi hzero s hs0 (by omega) (by rw [hby,<- hds];omega);have hnw:s.data.map (λb=>Value.int .u8 b.toNat)=news.toArray:=by rw [hnews];apply Array.ext';simp [Lib.strCells]
        rw [<- hex,<- hey,hnw,<- hds] at hr;exact⟨_,_,eL ho hr,.inr (.inr fin)⟩
      | some b0=>
        have hr := Lib.run_append_grow_string (P := P) w t u o.type e inf z hun hu hi hzero b0 0 0 [] (by simp) (fun j v hv => by simp at hv) s (by omega) (by omega)
          (by rw [hby,Nat.zero_add,<- hds,nextslicecap_zero (by omega)];omega)
        rw [<- hex,<- hey,<- hnews,<- hds] at hr;simp only [Nat.zero_add] at hr;rw [show ([]:List Value).toArray=#[] from rfl,he] at hr;exact⟨_,_,eL ho hr,.inr (.inr fin)⟩
    | msl _ _ _ _ cap0 b hbp hc hpsz=>
      rw [Nat.zero_add] at hpsz;rw [Nat.zero_mul] at hex;rcases hblk with ⟨_,hn'⟩|⟨b',cells,hp',hw,hpsi,hl',h0,h1,hr0⟩
      · rw [hbp] at hn';cases hn'
      cases hbp.symm.trans hp';have hold2:=o2 b cells hbp hw;by_cases hroom:n+ds.length<=cap0
      · have hfit:n * inf.size+news.length<=cells.size:=by
          rw [n1,hsz,<- Nat.add_mul,<- hpsi];exact Nat.le_trans (Nat.mul_le_mul_right _ hroom) hpsz
        have hr:=Lib.run_append_room_string (P:=P) w t u o.type e inf hun hu hi hsz b n cap0 cells hw s (by rw [<- hds];exact hroom) (by rw [<- hds];rw [hsz,n1] at hfit;omega);rw [<- hex,<- hey,<- hnews,<- hds] at hr;have n1':news.length=ds.length:=by rw [n1,Nat.mul_one]
        have hfit':n * 1+news.length<=cells.size:=by rw [hsz] at hfit;exact hfit
        have hget:∀ m,m < n * 1+news.length->(cells.toList.take (n)++news++cells.toList.drop (n+ds.length)).toArray[m]?=if m < n * 1 then cells[m]? else news[m - n * 1]?:=by
          intro m hm;simp only [List.getElem?_toArray,List.getElem?_append,zQL,List.length_take,Array.length_toList,List.getElem?_take,Array.getElem?_toList,hsz];rw [Nat.mul_one] at hm ⊢;have hmin:min n cells.size=n:=by omega
          rw [hmin,if_pos hm];by_cases m1:m < n
          · simp [m1]
          simp [m1]
        refine⟨_,_,eL ho hr,.inr (.inl ⟨b,cells,(cells.toList.take (n)++news++cells.toList.drop (n+ds.length)).toArray,cap0,hbp,hw,hpsi,?_,by rw [hn],by omega,by rw [<- hpsi];exact hpsz,rfl,?_,hsizes,hones,?_⟩)⟩
        · simp only [List.size_toArray,zQL,List.length_take,List.length_drop,Array.length_toList,hsz]
          omega
        · simp only [List.size_toArray,zQL,List.length_take,List.length_drop,Array.length_toList,hsz]
          rw [hlap];rw [hn,n1] at hfit';rw [hn,n1];omega
        exact hcells (fun m => (cells.toList.take (n) ++ news ++ cells.toList.drop (n + ds.length)).toArray[m]?) (fun m hm => by
            show (cells.toList.take (n) ++ news ++ cells.toList.drop (n + ds.length)).toArray[m]? = _;rw [hget m (by rw [hn]; omega), if_pos (by rw [hn]; exact hm)];have hlt : m < olds.length := by rw [o1]; exact hm
            rw [zQR hlt]
            exact hold2 m _ (zQR hlt)) (fun m hm => by
            show (cells.toList.take (n) ++ news ++ cells.toList.drop (n + ds.length)).toArray[_]? = _
            rw [hget _ (by rw [hn, n1]; omega), if_neg (by rw [hn]; omega)]; congr 1; rw [hn]; omega)
      have hr := Lib.run_append_grow_string (P := P) w t u o.type e inf z hun hu hi hzero ⟨b, 0, none⟩ n cap0 olds (by rw [o1, hsz, hn]) (fun j v hv => by
          rw [hO, cell_of_row w b _ cells e (0, 0) hw]; simpa using hold2 j v hv) s (by omega) (by omega)
        (by rw [hby,<- hds];exact growslice_fits (by omega) (by rw [hn];exact hlen))
      rw [<- hex,<- hey,<- hnews,<- hds] at hr;refine⟨_,_,eL ho hr,.inr (.inr ⟨_,_,by rw [hn],by simpa [hn] using grownCap_ge w (es.length+ds.length) cap0 e,?_,rfl,?_⟩)⟩
      · rw [hn];exact (grown _ _ (by simpa using grownCap_ge w (es.length+ds.length) cap0 e) (by rw [hzsz])).1
      rw [hn];exact (grown _ _ (by simpa using grownCap_ge w (es.length+ds.length) cap0 e) (by rw [hzsz])).2
def cW (s:ByteArray):List Int:=s.data.toList.map λb=>(b.toNat:Int)
theorem iM (s:ByteArray):(cW s).length=s.size:=by
  rw [cW,zQC,Array.length_toList];rfl
theorem qHL {o:Oper} {K:St->Prop} {t u e:TypeId} {x y:Operand} (id by' n:Nat) (es:List D) (s:ByteArray) (z:Value) (ho:o.op=.call { callee:=.builtin .append,args:=#[x,y],argTypes:=#[t,u] }) (hd:gG C.n o.dst=true) (hu:C.P.underlying u=some .string) (hl:sel C.P t=some (e,1,by'))
    (hz:(C.P.info? e).bind (·.zero)=some z) (hzs:z.cells.size=1) (hx:st.fr.ev x=.msl id 1 0 n) (hb:st.hp[id]?=some (.flat e 1 es)) (hn:n=es.length) (hmv:id < C.k->C.mv id=true) (hy:st.fr.ev y=.d (.str s)) (hs0:0 < s.size)
    (hlen:(es.length+s.size) * by'<=140737488355328) (hlen':es.length+s.size<=9223372036854775807)
    (hK:K (St.put ⟨(st.purge id).fr,(st.purge id).hp.set id (.flat e 1 (es++(cW s).map (D.int .u8)))⟩ o.dst (.msl id 1 0 (es.length+s.size)))):OpOk C o st K:=
  OpOk.change λg a w hsim=>by
    have hid:=(zQQ.1 hb).1;have hvx:=hsim.ev x;rw [hx] at hvx;have hvy:=hsim.ev y;rw [hy] at hvy
    have hey:a.eval y=.string s:=by
      generalize a.eval y=v at hvy;cases hvy with|d _ _ h=>cases h;rfl
    have hdl:((cW s).map (D.int .u8)).length=s.size:=by rw [zQC,iM]
    have hel:∀ (i:Nat) (d:D),((cW s).map (D.int .u8))[i]?=some d->∃ k:UInt8,s.data.toList[i]?=some k/\d=.int .u8 k.toNat:=by
      intro i d h;simp only [cW,List.map_map,zQP,zQO] at h;obtain⟨k,hk,rfl⟩:=h;exact⟨k,hk,rfl⟩
    obtain⟨v,w',hr,hc⟩:=uT (P:=C.P) (w:=w) (g:=g) id by' n es ((cW s).map (D.int .u8)) (Lib.strCells s) s z ho hu hl hz hzs hvx (hsim.hp id _ hb) hn hey hs0 hdl rfl
      (λi d h=>by obtain⟨k,_,rfl⟩:=hel i d h;rfl)
      (fun i d j c h hc => by
        obtain ⟨k, _, rfl⟩ := hel i d h
        cases j with
        | zero => cases hc; rfl
        | succ j => cases hc)
      (fun i d j c h hc => by
        obtain ⟨k, hk, rfl⟩ := hel i d h
        cases j with
        | zero =>
          cases hc;refine ⟨.int .u8 k.toNat, ?_, .int _ _⟩;rw [Nat.mul_one, Nat.add_zero, Lib.strCells, zQP, hk];rfl
        | succ j => cases hc) (by rw [hdl]; exact hlen) (by rw [hdl]; exact hlen')
    rw [hdl] at hc;have hpurge:=hsim.purge id;have hb':(st.purge id).hp[id]?=some (.flat e 1 es):=qQ id id hb;rcases hc with ⟨hds,_⟩|⟨b,cells,cells',cap,hp0,hw,hpsi,hcs,rfl,hcap,hcapsz,rfl,row⟩|⟨cells',cap,rfl,hcap,hcapsz,rfl,row⟩
    · rw [hds] at hdl;simp only [List.length_nil] at hdl;omega
    · have hX : ∀ b', g.X b' -> b' ≠ b := fun b' hX e => (hsim.lt id b hp0).2.2 (e ▸ hX)
      have hch := hpurge.change (i := id) (b := b) hb' (fun e => by cases e) hp0 (w' := w.setRow b cells') (hZ _ _ _) rfl rfl rfl (zQW _) (fun b' hb' => setRow_other w b b' _ hb')
        (B:=.flat e 1 (es++(cW s).map (D.int .u8))) (.inr ⟨b,cells',hp0,setRow_heap w b cells _ e (0,0) hw,by rw [hpsi,hcs],row.le,row.h0,row.h1,λk d j c hk hc=>?_⟩)
      · refine⟨_,_,hr,_,g,hK,hch.put' hd ?_⟩
        have:=ARep.msl (w:=w.setRow b cells') (g:=g) id 1 0 (es.length+s.size) cap b hp0 hcap (by rw [hpsi,Nat.zero_add];exact hcapsz);simpa using this
      obtain⟨v,hv,hd⟩:=row.rep k d j c hk hc;exact⟨v,hv,hd.mono (λ_ h=>h) λb' hb'=>setRow_other w b b' _ (hX b' hb')⟩
    have hmove := (hsim.drew).move (o := .cells cells' e) (n := cells'.size) (B := .flat e 1 (es ++ (cW s).map (D.int .u8))) hid hmv (.inr ⟨w.heap.size, cells', by simp [Gh.new, upd], heap_alloc_new w.drew _, by simp [Gh.new, upd], row.le, row.h0, row.h1, fun k d j c hk hc => ?_⟩)
    · refine⟨_,_,hr,_,_,hK,hmove.put' hd ?_⟩
      have:=ARep.msl (w:=w.drew.alloc (.cells cells' e)) (g:=g.new id w.heap.size cells'.size) id 1 0 (es.length+s.size) cap w.heap.size (by simp [Gh.new,upd]) hcap (by simp only [Gh.new,upd,if_true,Nat.zero_add];exact hcapsz);simpa using this
    obtain⟨v,hv,hd⟩:=row.rep k d j c hk hc;exact⟨v,hv,hd.mono (λ_ h=>h) λb' hb'=>bB w.drew _ b' (hsim.Xlt b' hb')⟩
section
variable {ops:Array Oper} {l:List Oper} {K:St->Prop} {fr:Fr} {hp:List Blk} {d:Nat} {ty:TypeId} {pos:String} {after:Array Edge} {xs:List Int}
theorem xQ {T:Tab} {t u e by' n id:Nat} {x y:Operand} {z:Value} {fr':Fr} {hp1:List Blk} (s:ByteArray) (hT:TabOk C.P T) (hd:decide (d < C.n)=true) (hu:lk T.str u=some ()) (hl:lk T.sel t=some (e,1,by')) (hz:(C.P.info? e).bind (·.zero)=some z) (hzs:Nat.beq z.cells.size 1=true) (hby:Nat.ble by' 100000=true)
    (hx:fr.ev x=.msl id 1 0 n) (hb:hp[id]?=some (.flat e 1 (xs.map (D.int .u8)))) (hn:n=xs.length) (hmv:id < C.k->C.mv id=true) (hy:fr.ev y=.d (.str s)) (hg:0 < s.size/\(xs++cW s).length<=1000000000) (hfr:Fr.mapRef (purge id) fr=fr') (hhp:hp.map (Blk.mapRef (purge id))=hp1)
    (h:aM C ops l ⟨(d,.msl id 1 0 (xs++cW s).length) :: fr',hp1.set id (.flat e 1 ((xs++cW s).map (D.int .u8)))⟩ K):aM C ops (⟨some d,.call { callee:=.builtin .append,args:=#[x,y],argTypes:=#[t,u] },ty,pos,after,none⟩ :: l) ⟨fr,hp⟩ K:=by
  subst hfr hhp;obtain⟨hs0,hg⟩:=hg;have h1:=Nat.le_of_ble_eq_true hby;have h3:(xs++cW s).length * by'<=1000000000 * 100000:=Nat.mul_le_mul hg h1
  have e1:(xs.map (D.int .u8)).length+s.size=(xs++cW s).length:=by rw [zQC,zQL,iM]
  refine bZ rfl (qHL (st:=⟨fr,hp⟩) id by' n (xs.map (D.int .u8)) s z rfl (by simpa [gG] using hd) (hT.str hu) (hT.sel hl) hz (Nat.eq_of_beq_eq_true hzs) hx hb (by rw [hn,zQC]) hmv hy hs0 (by rw [e1];omega) (by rw [e1];omega) ?_);rw [e1,<- List.map_append];exact h
end
def vU (l:List Int):List Int:=l.reverse
theorem kJ (l:List Int):(vU l).length=l.length:=List.length_reverse
theorem qDV {F:FuncId} (e:TypeId) (mv:Nat->Bool) (xs:List Int) (hcbF:iF P F=true) (hlen:xs.length<=9223372036854775807)
    (hnone:∀ (p:Option Addr) (cap:Nat) (w:World),Calls P F #[.slice p 0 cap] w λe w'=>e=.returned (.tuple #[])/\w'=w)
    (hrev : ∀ (blk off cap : Nat) (zs : List Int) (w : World), Holds (Value.int .i64) w blk off zs.toArray -> zs.length <= 9223372036854775807 ->
      Calls P F #[.slice (some ⟨blk, off, none⟩) zs.length cap] w fun e w' => e = .returned (.tuple #[]) /\ ∃ n, w' = putRow (Value.int .i64) (Sort.ahead w n) blk off zs.reverse.toArray) :
    Ret P F [.flat e 1 (xs.map (D.int .i64))] mv [.msl 0 1 0 xs.length] (.tup []) [.flat e 1 ((vU xs).map (D.int .i64))]:=by
  refine⟨hcbF,λw g vs hout hargs=>?_⟩
  obtain⟨v0,rfl⟩:∃ v0,vs=#[v0]:=by
    have hl:vs.size=1:=by have:=hargs.1;simpa using this.symm
    exact⟨vs[0],by apply Array.ext;simp [hl];intro i h1 h2;match i,h2 with|0,_=>rfl⟩
  have h0:=hargs.2 0 _ _ rfl rfl;generalize hn:xs.length=n at h0
  cases h0 with
  | msl0 _ _ _ ad=>
    have hxs:xs=[]:=List.eq_nil_of_length_eq_zero hn;subst hxs;refine (hnone ad 0 w).mono ?_;rintro e w' ⟨rfl,rfl⟩;exact⟨_,g,rfl,hout,.tup [] #[] rfl λi c v h=>by simp at h⟩
  | msl _ _ _ _ cap b hb hc hpz=>
    subst hn;rw [Nat.zero_mul];obtain⟨hH,hblt,_⟩:=sX hout hb;refine (show Calls P F #[.slice (some ⟨b,0,none⟩) xs.length cap] w _ from hrev b 0 cap xs w hH hlen).mono ?_;rintro e' w' ⟨rfl,m,rfl⟩;refine⟨_,g,rfl,?_,.tup [] #[] rfl λi c v h=>by simp at h⟩;have:=qHK hout hb (vU xs) [] (by rw [List.append_nil,kJ]) m #[];rw [List.append_nil] at this;have hg:∀ W:World,Sort.grow W #[]=W:=λW=>by unfold Sort.grow;simp
    rw [hg] at this;exact this
end Go.TL
