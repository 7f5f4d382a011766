/- Texts of this proof, joined, without what it does not use. No condition. -/
import Derived.Lib.AppendZerosOnto
import Derived.Test.YtdkhkhidekpfoaaQo

set_option linter.unusedVariables false
set_option linter.unusedSimpArgs false
set_option maxHeartbeats 4000000
namespace Go.TL
open Go.Sort Go.Proofs
variable {C:Ctx} {st:St} {g:Gh} {a:Act} {w:World} {P:Program}
theorem cB {o:Oper} {ts:Array TypeId} {x y:Operand} (ho:o.op=.call { callee:=.builtin .append,args:=#[x,y],argTypes:=ts }) {v:Value} {w':World} (hr:(Builtin.append_ ts o.type #[a.eval x,a.eval y]).run P w=.ok v w'):
    (execOp a.eval o).run P w=.ok (.value v) w':=by
  simp only [execOp,ho];simp [resolve,invoke,builtin,hr]
theorem mJ (v0:Value) (k:Nat):Builtin.zeroCells #[v0] k=(List.replicate k v0).toArray:=by
  apply Array.ext
  · simp [Builtin.zeroCells]
  intro i h1 h2;simp [Builtin.zeroCells,Nat.mod_one]
theorem gV (w:World) (t tn ty e:TypeId) (i:TypeInfo) (z v0:Value) (kq kn:IntKind) (ht:P.underlying t=some (.slice e)) (htn:P.underlying tn=some (.int kn)) (hi:P.info? e=some i) (hz:i.zero=some z) (hzc:z.cells=#[v0])
    (b:Addr) (sLen sCap:Nat) (olds:List Value) (hlo:olds.length=sLen * i.size) (holds:∀ j v,olds[j]?=some v->w.cell? (b.add j)=some v) (k:Nat) (h0:0 < k) (hs:0 < i.size) (h48:k * i.bytes<=281474976710656)
    (hg:sCap < sLen+k) (h63:((sLen+k:Nat):Int)<=9223372036854775807) (hfit:Builtin.nextslicecap (sLen+k) sCap * i.bytes<=281474976710656):
    (Builtin.append_ #[t,tn] ty #[.slice (some b) sLen sCap,.int kq k]).run P w=
      .ok (.slice (some ⟨w.heap.size,0,none⟩) (sLen+k) (grownCap w (sLen+k) sCap e))
        (w.drew.alloc (.cells (olds.toArray++(List.replicate k v0).toArray++Builtin.zeroCells z.cells (grownCap w (sLen+k) sCap e - (sLen+k))) e)):=by
  rw [<- mJ,<- hzc];exact Lib.run_append_grow_zeros w t tn ty e i z kq kn ht htn hi hz (some b) sLen sCap olds (run_firstCells_some (P:=P) w.drew i.size sLen b sLen sCap olds hlo (by simpa using holds)) k h0 hs hg h63 h48 hfit
theorem mP (w:World) (t tn ty e:TypeId) (i:TypeInfo) (z v0:Value) (kq kn:IntKind) (ht:P.underlying t=some (.slice e)) (htn:P.underlying tn=some (.int kn)) (hi:P.info? e=some i) (hz:i.zero=some z) (hzc:z.cells=#[v0]) (h1v:v0.oneCell'=true) (hs1:i.size=1)
    (g sLen sCap:Nat) (cur:Array Value) (hg:w.heap[g]?=some (.cells cur e (0,0))) (k:Nat) (h0:0 < k) (h48:k * i.bytes<=281474976710656) (hk:k<=9223372036854775807)
    (hroom:sLen+k<=sCap) (hfit:sLen+k<=cur.size):
    (Builtin.append_ #[t,tn] ty #[.slice (some ⟨g,0,none⟩) sLen sCap,.int kq k]).run P w=
      .ok (.slice (some ⟨g,0,none⟩) (sLen+k) sCap) (w.setRow g (cur.toList.take sLen++List.replicate k v0++cur.toList.drop (sLen+k)).toArray):=by
  have hw:IntKind.i64.wrap (k:Int)=k:=by rw [IntKind.wrap_i64];omega
  have h48i:¬ (281474976710656 < (k:Int) * (i.bytes:Int)):=by
    rw [<- Int.natCast_mul];omega
  have hneg:¬ ((k:Int) < 0):=by omega
  have hk0:k≠0:=by omega
  have hst:=run_storeCells_at P g sLen e (List.replicate k v0) 0 cur w hg (by simpa using hfit) (λv hv=>by rw [List.eq_of_mem_replicate hv];exact h1v);simp only [Nat.add_zero,List.length_replicate] at hst;have hzr:(Builtin.zeroCells z.cells k).toList=List.replicate k v0:=by rw [hzc,mJ]
  simp [Builtin.append_,run_underlying ht,run_underlying htn,sizeOf,typeInfo,zeroValue,hi,hz,hs1,asInt,asIntOf,hw,hneg,hk0,h48i,hroom,Addr.add_lit,hzr,hst]
theorem mQ (w:World) (t tn ty e:TypeId) (i:TypeInfo) (kq kn:IntKind) (ht:P.underlying t=some (.slice e)) (htn:P.underlying tn=some (.int kn)) (hi:P.info? e=some i)
    (b:Option Addr) (sLen sCap:Nat) (hroom:sLen<=sCap):
    (Builtin.append_ #[t,tn] ty #[.slice b sLen sCap,.int kq 0]).run P w=.ok (.slice b sLen sCap) w:=by
  have hw:IntKind.i64.wrap 0=0:=by rw [IntKind.wrap_i64];omega
  cases b with
  | none=>simp [Builtin.append_,run_underlying ht,run_underlying htn,sizeOf,typeInfo,hi,asInt,asIntOf,hw,hroom]
  | some b=>simp [Builtin.append_,run_underlying ht,run_underlying htn,sizeOf,typeInfo,hi,asInt,asIntOf,hw,hroom,storeCells]
theorem qH {o:Oper} {t u e:TypeId} {x y:Operand} (id by' n:Nat) (es ds:List D) (news:List Value) (k:Nat) {kq kn:IntKind} (v0:Value) (z:Value) (ho:o.op=.call { callee:=.builtin .append,args:=#[x,y],argTypes:=#[t,u] }) (hu:P.underlying u=some (.int kn)) (hl:sel P t=some (e,1,by'))
    (hz:(P.info? e).bind (·.zero)=some z) (hzc:z.cells=#[v0]) (h1v:v0.oneCell'=true) (hvx:ARep w g (.msl id 1 0 n) (a.eval x)) (hblk:BRep w g id (.flat e 1 es)) (hn:n=es.length) (hey:a.eval y=.int kq k) (hs0:0 < k) (hds:ds.length=k) (hnews:news=List.replicate k v0) (n4:∀ (i:Nat) (e:D),ds[i]?=some e->e.cells.length=1) (n5:∀ (i:Nat) (e:D) (j:Nat) (c:D),ds[i]?=some e->e.cells[j]?=some c->c.one=true) (n6:∀ (i:Nat) (e:D) (j:Nat) (c:D),ds[i]?=some e->e.cells[j]?=some c->∃ v,news[i * 1+j]?=some v/\DRep w g.X c v)
    (hlen:(es.length+ds.length) * by'<=140737488355328) (hlen':es.length+ds.length<=9223372036854775807):
    ∃ v w',(execOp a.eval o).run P w=.ok (.value v) w'/\
      ((ds = [] /\ v = a.eval x /\ w' = w) \/
       (∃ b cells cells' cap, g.phi id = some b /\ w.heap[b]? = some (.cells cells e (0, 0)) /\ g.psi id = cells.size /\ cells'.size = cells.size /\ v = .slice (some ⟨b, 0, none⟩) (es.length + ds.length) cap /\ es.length + ds.length <= cap /\ cap * 1 <= cells.size /\ w' = w.setRow b cells' /\ RowOf w g.X 1 (es ++ ds) cells') \/
       (∃ cells' cap, v = .slice (some ⟨w.heap.size, 0, none⟩) (es.length + ds.length) cap /\ es.length + ds.length <= cap /\ cap * 1 <= cells'.size /\ w' = w.drew.alloc (.cells cells' e) /\ RowOf w g.X 1 (es ++ ds) cells')) := by
    obtain⟨inf,hun,hi,hsz,hby⟩:=eK hl;obtain⟨i',hi',hzero⟩:=fJ hz;cases hi.symm.trans hi';have hzs:z.cells.size=1:=by rw [hzc];rfl
    have hk48:k * inf.bytes<=281474976710656:=by rw [hby,<- hds];exact Nat.le_trans (Nat.mul_le_mul_right by' (Nat.le_add_left ds.length es.length)) (by omega)
    have n1:news.length=ds.length * 1:=by rw [hnews,List.length_replicate,hds,Nat.mul_one]
    have n3:∀ u∈news,u.oneCell'=true:=by rw [hnews];intro u hu;rw [List.eq_of_mem_replicate hu];exact h1v
    have hes:∀ (i:Nat) (d:D),(es++ds)[i]?=some d->(i < es.length/\es[i]?=some d)\/(es.length<=i/\ds[i - es.length]?=some d):=by
      intro i d h;rw [List.getElem?_append] at h;split at h
      · exact .inl ⟨‹_›,h⟩
      exact .inr ⟨by omega,h⟩
    have holds:∃ olds:List Value,olds.length=es.length * 1/\(∀ (b:Nat) (cells:Array Value),g.phi id=some b->w.heap[b]?=some (.cells cells e (0,0))->∀ (j:Nat) (u:Value),olds[j]?=some u->cells[j]?=some u)/\
        (∀ (i:Nat) (d:D),es[i]?=some d->d.cells.length=1)/\(∀ (i:Nat) (d:D) (j:Nat) (c:D),es[i]?=some d->d.cells[j]?=some c->c.one=true)/\
        ∀ (i:Nat) (d:D) (j:Nat) (c:D),es[i]?=some d->d.cells[j]?=some c->∃ v,olds[i * 1+j]?=some v/\DRep w g.X c v:=by
      rcases hblk with ⟨he,hn'⟩|⟨b,cells,hp,hw,hpsi,hl',h0,h1,hr⟩
      · subst he;exact⟨[],by simp,λ_ _ _ _ j u hu=>by simp at hu,λi d h=>by simp at h,λi d j c h=>by simp at h,λi d j c h=>by simp at h⟩
      obtain ⟨olds, o1, o2, _, o4⟩ := jV (w := w) (X := g.X) (fun m => cells[m]?) h0 h1 hr;refine⟨olds,o1,λb' cells' hp' hw' j u hu=>?_,h0,h1,o4⟩;cases hp.symm.trans hp';rw [hw] at hw';cases hw';exact o2 j u hu
    obtain⟨olds,o1,o2,o3,o4,o5⟩:=holds
    have hsizes:∀ (i:Nat) (d:D),(es++ds)[i]?=some d->d.cells.length=1:=λi d h=>by
      rcases hes i d h with ⟨_,h⟩|⟨_,h⟩
      · exact o3 i d h
      exact n4 _ d h
    have hones:∀ (i:Nat) (d:D) (j:Nat) (c:D),(es++ds)[i]?=some d->d.cells[j]?=some c->c.one=true:=λi d j c h hc=>by
      rcases hes i d h with ⟨_,h⟩|⟨_,h⟩
      · exact o4 i d j c h hc
      exact n5 _ d j c h hc
    have hlap:(es.length+ds.length) * 1=es.length * 1+ds.length * 1:=Nat.add_mul _ _ _
    have hcells:∀ f:Nat->Option Value,(∀ m,m < es.length * 1->f m=olds[m]?)->(∀ m,m < ds.length * 1->f (es.length * 1+m)=news[m]?)->
        ∀ (i:Nat) (d:D) (j:Nat) (c:D),(es++ds)[i]?=some d->d.cells[j]?=some c->∃ v,f (i * 1+j)=some v/\DRep w g.X c v:=by
      intro f f1 f2 i d j c h hc;have hj:j < 1:=by rw [<- hsizes i d h];exact (zQQ.1 hc).1
      rcases hes i d h with ⟨hlt,h⟩|⟨hge,h⟩
      · obtain⟨v,hv,hd⟩:=o5 i d j c h hc
        exact⟨v,by rw [f1 _ (by rw [<- o1];exact (zQQ.1 hv).1)];exact hv,hd⟩
      obtain⟨v,hv,hd⟩:=n6 _ d j c h hc;refine⟨v,?_,hd⟩;have hsub:i * 1=es.length * 1+(i - es.length) * 1:=by rw [<- Nat.add_mul];congr 1;omega
      rw [hsub,Nat.add_assoc,f2 _ (by rw [<- n1];exact (zQQ.1 hv).1)];exact hv
    have grown:∀ (zs:Array Value) (cap':Nat),es.length+ds.length<=cap'->zs.size=(cap' - (es.length+ds.length)) * 1->
        cap' * 1<=(olds.toArray++news.toArray++zs).size/\RowOf w g.X 1 (es++ds) (olds.toArray++news.toArray++zs):=by
      intro zs cap' hcap hzz
      have htot:(olds.toArray++news.toArray++zs).size=cap' * 1:=by
        simp only [Array.size_append,List.size_toArray,o1,n1,hzz,<- Nat.add_mul]
        congr 1
        omega
      refine⟨Nat.le_of_eq htot.symm,?_,hsizes,hones,λi d j c h hc=>?_⟩
      · rw [htot,zQL];exact Nat.mul_le_mul_right _ hcap
      exact hcells (λm=>(olds.toArray++news.toArray++zs)[m]?) (λm hm=>by rw [eO,if_pos (by omega)]) (λm hm=>by rw [eO,if_neg (by omega),if_pos (by omega)];congr 1;omega) i d j c h hc
    have hzsz:∀ k,(Builtin.zeroCells z.cells k).size=k * 1:=λk=>by rw [size_zeroCells,hzs]
    generalize hex:a.eval x=vx at hvx
    cases hvx with
    | msl0 _ _ _ ad0=>
      have hes0:es=[]:=List.eq_nil_of_length_eq_zero hn.symm;have holds0:olds=[]:=List.eq_nil_of_length_eq_zero (by rw [o1,hes0];simp);have hgr:=grown (Builtin.zeroCells z.cells (grownCap w ds.length 0 e - ds.length)) (grownCap w ds.length 0 e) (by rw [hes0];simpa using grownCap_ge w ds.length 0 e) (by rw [hzsz,hes0];simp);have hcap:es.length+ds.length<=grownCap w ds.length 0 e:=by rw [hes0];simpa using grownCap_ge w ds.length 0 e
      rw [hes0,holds0] at hgr;rw [hes0] at hlen hlen' hcap;simp only [List.length_nil,Nat.zero_add] at hlen hlen' hcap;have he:(#[]:Array Value)++news.toArray++Builtin.zeroCells z.cells (grownCap w ds.length 0 e - ds.length)=news.toArray++Builtin.zeroCells z.cells (grownCap w ds.length 0 e - ds.length):=by simp
      rw [show ([]:List Value).toArray=#[] from rfl,he] at hgr
      have fin:∃ cells' cap,(Value.slice (some ⟨w.heap.size,0,none⟩) ds.length (grownCap w ds.length 0 e))=.slice (some ⟨w.heap.size,0,none⟩) (es.length+ds.length) cap/\es.length+ds.length<=cap/\cap * 1<=cells'.size/\w.drew.alloc (.cells (news.toArray++Builtin.zeroCells z.cells (grownCap w ds.length 0 e - ds.length)) e)=w.drew.alloc (.cells cells' e)/\RowOf w g.X 1 (es++ds) cells':=
        ⟨_,_,by rw [hes0];simp,by rw [hes0];simpa using hcap,hgr.1,rfl,by rw [hes0];exact hgr.2⟩
      cases ad0 with
      | none=>
        have hr:=Lib.run_append_nil_zeros (P:=P) w t u o.type e inf z kq kn hun hu hi hzero k hs0 (by omega) (by omega) hk48;have hnw:Builtin.zeroCells z.cells k=news.toArray:=by rw [hnews,hzc];exact mJ v0 k
        rw [<- hex,<- hey,hnw] at hr;simp only [<- hds] at hr;exact⟨_,_,cB ho hr,.inr (.inr fin)⟩
      | some b0=>
        have hr := gV (P := P) w t u o.type e inf z v0 kq kn hun hu hi hzero hzc b0 0 0 [] (by simp) (fun j v hv => by simp at hv) k hs0 (by omega) hk48 (by omega) (by omega)
          (by rw [hby,Nat.zero_add,<- hds,nextslicecap_zero (by omega)];omega)
        rw [<- hex,<- hey,<- hnews] at hr;simp only [<- hds] at hr;simp only [Nat.zero_add] at hr;rw [show ([]:List Value).toArray=#[] from rfl,he] at hr;exact⟨_,_,cB ho hr,.inr (.inr fin)⟩
    | msl _ _ _ _ cap0 b hbp hc hpsz=>
      rw [Nat.zero_add] at hpsz;rw [Nat.zero_mul] at hex;rcases hblk with ⟨_,hn'⟩|⟨b',cells,hp',hw,hpsi,hl',h0,h1,hr0⟩
      · rw [hbp] at hn';cases hn'
      cases hbp.symm.trans hp';have hold2:=o2 b cells hbp hw;by_cases hroom:n+ds.length<=cap0
      · have hfit:n * inf.size+news.length<=cells.size:=by
          rw [n1,hsz,<- Nat.add_mul,<- hpsi];exact Nat.le_trans (Nat.mul_le_mul_right _ hroom) hpsz
        have hr:=mP (P:=P) w t u o.type e inf z v0 kq kn hun hu hi hzero hzc h1v hsz b n cap0 cells hw k hs0 hk48 (by omega) (by rw [<- hds];exact hroom) (by rw [<- hds];rw [hsz,n1] at hfit;omega);rw [<- hex,<- hey,<- hnews] at hr;simp only [<- hds] at hr;have n1':news.length=ds.length:=by rw [n1,Nat.mul_one]
        have hfit':n * 1+news.length<=cells.size:=by rw [hsz] at hfit;exact hfit
        have hget:∀ m,m < n * 1+news.length->(cells.toList.take (n)++news++cells.toList.drop (n+ds.length)).toArray[m]?=if m < n * 1 then cells[m]? else news[m - n * 1]?:=by
          intro m hm;simp only [List.getElem?_toArray,List.getElem?_append,zQL,List.length_take,Array.length_toList,List.getElem?_take,Array.getElem?_toList,hsz];rw [Nat.mul_one] at hm ⊢;have hmin:min n cells.size=n:=by omega
          rw [hmin,if_pos hm];by_cases m1:m < n
          · simp [m1]
          simp [m1]
        refine⟨_,_,cB ho hr,.inr (.inl ⟨b,cells,(cells.toList.take (n)++news++cells.toList.drop (n+ds.length)).toArray,cap0,hbp,hw,hpsi,?_,by rw [hn],by omega,by rw [<- hpsi];exact hpsz,rfl,?_,hsizes,hones,?_⟩)⟩
        · simp only [List.size_toArray,zQL,List.length_take,List.length_drop,Array.length_toList,hsz]
          omega
        · simp only [List.size_toArray,zQL,List.length_take,List.length_drop,Array.length_toList,hsz]
          rw [hlap];rw [hn,n1] at hfit';rw [hn,n1];omega
        exact hcells (fun m => (cells.toList.take (n) ++ news ++ cells.toList.drop (n + ds.length)).toArray[m]?) (fun m hm => by
            show (cells.toList.take (n) ++ news ++ cells.toList.drop (n + ds.length)).toArray[m]? = _;rw [hget m (by rw [hn]; omega), if_pos (by rw [hn]; exact hm)];have hlt : m < olds.length := by rw [o1]; exact hm
            rw [zQR hlt]
            exact hold2 m _ (zQR hlt)) (fun m hm => by
            show (cells.toList.take (n) ++ news ++ cells.toList.drop (n + ds.length)).toArray[_]? = _
            rw [hget _ (by rw [hn, n1]; omega), if_neg (by rw [hn]; omega)]; congr 1; rw [hn]; omega)
      have hr := gV (P := P) w t u o.type e inf z v0 kq kn hun hu hi hzero hzc ⟨b, 0, none⟩ n cap0 olds (by rw [o1, hsz, hn]) (fun j v hv => by
          rw [dU, cell_of_row w b _ cells e (0, 0) hw]; simpa using hold2 j v hv) k hs0 (by omega) hk48 (by omega) (by omega)
        (by rw [hby,<- hds];exact growslice_fits (by omega) (by rw [hn];exact hlen))
      rw [<- hex,<- hey,<- hnews] at hr;simp only [<- hds] at hr;refine⟨_,_,cB ho hr,.inr (.inr ⟨_,_,by rw [hn],by simpa [hn] using grownCap_ge w (es.length+ds.length) cap0 e,?_,rfl,?_⟩)⟩
      · rw [hn];exact (grown _ _ (by simpa using grownCap_ge w (es.length+ds.length) cap0 e) (by rw [hzsz])).1
      rw [hn];exact (grown _ _ (by simpa using grownCap_ge w (es.length+ds.length) cap0 e) (by rw [hzsz])).2
theorem zC {o:Oper} {K:St->Prop} {t u e:TypeId} {x y:Operand} (id by' n:Nat) (es:List D) (k:Nat) {kq kn:IntKind} (d0:D) (v0 z:Value) (ho:o.op=.call { callee:=.builtin .append,args:=#[x,y],argTypes:=#[t,u] }) (hd:fU C.n o.dst=true) (hu:C.P.underlying u=some (.int kn)) (hl:sel C.P t=some (e,1,by'))
    (hz:(C.P.info? e).bind (·.zero)=some z) (hzc:z.cells=#[v0]) (h1v:v0.oneCell'=true) (hd0:d0.cells=[d0]) (hd1:d0.one=true) (hrep:∀ w X,DRep w X d0 v0) (hx:st.fr.ev x=.msl id 1 0 n) (hb:st.hp[id]?=some (.flat e 1 es)) (hn:n=es.length) (hmv:id < C.k->C.mv id=true) (hy:st.fr.ev y=.d (.int kq k))
    (hlen:(es.length+k) * by'<=140737488355328) (hlen':es.length+k<=9223372036854775807)
    (hK:K (St.put ⟨(st.purge id).fr,(st.purge id).hp.set id (.flat e 1 (es++List.replicate k d0))⟩ o.dst (.msl id 1 0 (es.length+k)))):OpOk C o st K:=
  OpOk.change λg a w hsim=>by
    have hid:=(zQQ.1 hb).1;have hvx:=hsim.ev x;rw [hx] at hvx;have hvy:=hsim.ev y;rw [hy] at hvy;have hey:a.eval y=.int kq k:=int_inv hvy;have hdl:(List.replicate k d0).length=k:=List.length_replicate
    have hel:∀ (i:Nat) (d:D),(List.replicate k d0)[i]?=some d->i < k/\d=d0:=by
      intro i d h;rw [List.getElem?_replicate] at h;split at h
      · cases h;exact⟨‹_›,rfl⟩
      cases h
    have hpurge:=hsim.purge id;have hb':(st.purge id).hp[id]?=some (.flat e 1 es):=nB id id hb;rcases Nat.eq_zero_or_pos k with rfl|hs0
    · obtain⟨inf,hun,hi,hsz,hby⟩:=eK hl
      have hexv:∃ b cap',a.eval x=.slice b n cap'/\n<=cap':=by
        generalize a.eval x=vx at *
        cases hvx with
        | msl0=>exact⟨_,_,rfl,zQW _⟩
        | msl _ _ _ _ cap b h1 h2 h3=>exact⟨_,_,rfl,h2⟩
      obtain⟨b,cap',hex,hle⟩:=hexv;have hr:=mQ (P:=C.P) w t u o.type e inf kq kn hun hu hi b n cap' hle;have hey0:a.eval y=.int kq 0:=hey;rw [<- hex,<- hey0] at hr
      have hset:(st.purge id).hp.set id (.flat e 1 es)=(st.purge id).hp:=by
        apply List.ext_getElem?;intro m;rw [List.getElem?_set];split
        · rename_i em;subst em;rw [hb'];simp [(zQQ.1 hb').1]
        rfl
      rw [List.replicate_zero,List.append_nil,hset] at hK;refine⟨_,_,cB ho hr,_,g,hK,Sim.put' ?_ hd (by simpa [hn] using hvx)⟩;exact hpurge
    obtain⟨v,w',hr,hc⟩:=qH (P:=C.P) (w:=w) (g:=g) id by' n es (List.replicate k d0) (List.replicate k v0) k v0 z ho hu hl hz hzc h1v hvx (hsim.hp id _ hb) hn hey hs0 hdl rfl
      (λi d h=>by obtain⟨_,rfl⟩:=hel i d h;rw [hd0];rfl)
      (fun i d j c h hc => by
        obtain ⟨_, rfl⟩ := hel i d h;rw [hd0] at hc
        cases j with
        | zero => cases hc; exact hd1
        | succ j => cases hc)
      (fun i d j c h hc => by
        obtain ⟨hik, rfl⟩ := hel i d h;rw [hd0] at hc
        cases j with
        | zero =>
          cases hc;refine ⟨v0, ?_, hrep _ _⟩;rw [Nat.mul_one, Nat.add_zero, List.getElem?_replicate, if_pos hik]
        | succ j => cases hc) (by rw [hdl]; exact hlen) (by rw [hdl]; exact hlen')
    rw [hdl] at hc;rcases hc with ⟨hds,_⟩|⟨b,cells,cells',cap,hp0,hw,hpsi,hcs,rfl,hcap,hcapsz,rfl,row⟩|⟨cells',cap,rfl,hcap,hcapsz,rfl,row⟩
    · rw [hds] at hdl;simp only [List.length_nil] at hdl;omega
    · have hX : ∀ b', g.X b' -> b' ≠ b := fun b' hX e => (hsim.lt id b hp0).2.2 (e ▸ hX)
      have hch := hpurge.change (i := id) (b := b) hb' (fun e => by cases e) hp0 (w' := w.setRow b cells') (dZ _ _ _) rfl rfl rfl (zQW _) (fun b' hb' => setRow_other w b b' _ hb')
        (B:=.flat e 1 (es++List.replicate k d0)) (.inr ⟨b,cells',hp0,setRow_heap w b cells _ e (0,0) hw,by rw [hpsi,hcs],row.le,row.h0,row.h1,λk d j c hk hc=>?_⟩)
      · refine⟨_,_,hr,_,g,hK,hch.put' hd ?_⟩
        have:=ARep.msl (w:=w.setRow b cells') (g:=g) id 1 0 (es.length+k) cap b hp0 hcap (by rw [hpsi,Nat.zero_add];exact hcapsz);simpa using this
      obtain⟨v,hv,hd⟩:=row.rep k d j c hk hc;exact⟨v,hv,hd.mono (λ_ h=>h) λb' hb'=>setRow_other w b b' _ (hX b' hb')⟩
    have hmove := (hsim.drew).move (o := .cells cells' e) (n := cells'.size) (B := .flat e 1 (es ++ List.replicate k d0)) hid hmv (.inr ⟨w.heap.size, cells', by simp [Gh.new, upd], heap_alloc_new w.drew _, by simp [Gh.new, upd], row.le, row.h0, row.h1, fun k d j c hk hc => ?_⟩)
    · refine⟨_,_,hr,_,_,hK,hmove.put' hd ?_⟩
      have:=ARep.msl (w:=w.drew.alloc (.cells cells' e)) (g:=g.new id w.heap.size cells'.size) id 1 0 (es.length+k) cap w.heap.size (by simp [Gh.new,upd]) hcap (by simp only [Gh.new,upd,if_true,Nat.zero_add];exact hcapsz);simpa using this
    obtain⟨v,hv,hd⟩:=row.rep k d j c hk hc;exact⟨v,hv,hd.mono (λ_ h=>h) λb' hb'=>aS w.drew _ b' (hsim.Xlt b' hb')⟩
section
variable {ops:Array Oper} {l:List Oper} {K:St->Prop} {fr:Fr} {hp:List Blk} {d:Nat} {ty:TypeId} {pos:String} {after:Array Edge} {α:Type} {f:α->D} {xs:List α}
theorem s_appZ {T:Tab} {t u e by' n id:Nat} {kq kn:IntKind} {x y:Operand} {fr':Fr} {hp1:List Blk} (x0:α) {m:Int} {v0 z:Value} (hT:TabOk C.P T) (hd:decide (d < C.n)=true) (hu:C.P.underlying u=some (.int kn)) (hl:lk T.sel t=some (e,1,by')) (hz:(C.P.info? e).bind (·.zero)=some z) (hzc:z.cells=#[v0]) (h1v:v0.oneCell'=true) (hd0:(f x0).cells=[f x0]) (hd1:(f x0).one=true) (hrep:∀ w X,DRep w X (f x0) v0) (hby:Nat.ble by' 100000=true)
    (hx:fr.ev x=.msl id 1 0 n) (hb:hp[id]?=some (.flat e 1 (xs.map f))) (hn:n=xs.length) (hmv:id < C.k->C.mv id=true) (hy:fr.ev y=.d (.int kq m)) (hg:0<=m/\(xs++List.replicate m.toNat x0).length<=1000000000) (hfr:Fr.mapRef (purge id) fr=fr') (hhp:hp.map (Blk.mapRef (purge id))=hp1)
    (h:aH C ops l ⟨(d,.msl id 1 0 (xs++List.replicate m.toNat x0).length) :: fr',hp1.set id (.flat e 1 ((xs++List.replicate m.toNat x0).map f))⟩ K):aH C ops (⟨some d,.call { callee:=.builtin .append,args:=#[x,y],argTypes:=#[t,u] },ty,pos,after,none⟩ :: l) ⟨fr,hp⟩ K:=by
  subst hfr hhp;obtain⟨h0,hg⟩:=hg;have h1:=Nat.le_of_ble_eq_true hby;have h3:(xs++List.replicate m.toNat x0).length * by'<=1000000000 * 100000:=Nat.mul_le_mul hg h1
  have e1:(xs.map f).length+m.toNat=(xs++List.replicate m.toNat x0).length:=by rw [zQC,zQL,List.length_replicate]
  refine bS rfl (zC (st:=⟨fr,hp⟩) id by' n (xs.map f) m.toNat (f x0) v0 z rfl (by simpa [fU] using hd) hu (hT.sel hl) hz hzc h1v hd0 hd1 hrep hx hb (by rw [hn,zQC]) hmv (by rw [hy,Int.toNat_of_nonneg h0]) (by rw [e1];omega) (by rw [e1];omega) ?_);rw [e1,<- List.map_replicate,<- List.map_append];exact h
end
theorem uB (l:List Bool):((l.map D.bool).all λe=>e.cells.all D.mem0)=true:=by
  rw [zQT];intro e he;obtain⟨b,_,rfl⟩:=List.mem_map.1 he;rfl
theorem uJ (ty:Nat) (r:List (List Bool)):∀ m n,n<=m->DLe (.sl 1 (r.map λl=>.own m ty 1 (l.map D.bool))) (.sl 1 (r.map λl=>.own n ty 1 (l.map D.bool))):=λm n h=>sl1_le (λ_=>rfl) (λ_=>⟨rfl,rfl⟩) (λl=>own_le h ty 1 _) r
end Go.TL
set_option maxHeartbeats 8000000
set_option linter.unusedSimpArgs false
set_option linter.unusedVariables false
set_option maxRecDepth 20000
namespace Go.Proofs.Ytdkhkhidekpfoaa
open Go Go.TL Go.Proofs.Try
theorem nG {p0:Int} {r:Ac} (hm:kD p0=some r):RetD TP 32 [.int .i64 p0] (r.enc):=by
 refine .of (mv:=λ_=>false) (aT (bD Q) func32 Q ntmps32 Q Q (λwX gX=>?_));unfold kD at hm;refine WN [0] Q Q (RS (dF 0 Q Q mL Q (gK 0 [none,none,some 3] Q Q (TN (WN [0,2] Q Q (RS (SA TK Q (SX Q Q (bE Q qAB mL Q Q Q Q) (oA 4 [none,none,some 3] Q (SA TK Q (TN (WN [2] Q Q (TR ?_)))))))))))));obtain rfl:=OJ hm;exact EndsS.cellR _ TK Q Q Q Q Q (.d _)
theorem oL:∀ (fu:Nat) {p0:Ac} {p1:Int} {p2:Int} {p3:Int} {r0:Bool} {r1:Int} (hm:dK fu p0 p1 p2 p3=some (r0,r1)),Ret TP 50 [.box 3 [.d (.int .i64 p3)]] (λ_=>false) [.d (.ptr (p0.enc) 0),.d (.int .i64 p1),.d (.int .i64 p2),.mptr 0 0 0 0] (.d (.bool (r0))) [.box 3 [.d (.int .i64 r1)]]:=by
 intro fu
 induction fu with
 | zero=>
  intro p0 p1 p2 p3 r0 r1 hm;unfold dK at hm;cases hm
 | succ fu ih=>
  intro p0 p1 p2 p3 r0 r1 hm;refine fO (bD Q) func50 Q ntmps50 Q Q (λwX gX=>?_);unfold dK at hm;refine WN [0,1,2,3] Q Q (RS (SA TK Q (TN (WN [0,1,2,3] Q Q (TQ ?_)))));refine fK [(17,.d (.bool (((decide ((12:Int) < p2))||(decide (p3=(0:Int)))))))] [17] [0,1,2,3] Q ?_ ?_
  ·refine TG (SA TK Q (SA TK Q (SB TK Q (λq1 hq1=>?_))));cases q1
   ·iterate 5 (refine SA TK Q ?_)
    refine TN (WT ?_);exact⟨[0],Q,(kB Q),bU (aQ (aR (by first|(simp [hq1];done)|(simp only [hq1];simp))) Q) Q⟩
   iterate 5 (refine SA TK Q ?_)
   refine TN (WT ?_);exact⟨[0],Q,(kB Q),bU (aQ (aR (by first|(simp [hq1];done)|(simp only [hq1];simp))) Q) Q⟩
  refine WN [0,1,2,3,17] Q Q (TC _ Q (λh2=>?_) (λh2=>?_))
  ·replace hm:=JA h2 hm;refine RS (SA TK Q (TN (WN [8] Q Q (TR (WR ?_)))));obtain⟨rfl,rfl⟩:=Prod.mk.inj (Option.some.inj hm);exact⟨_,[0],res Q,by decide,(kB Q),Q,Q⟩
  replace hm:=JB h2 hm;refine TS (WT (WN [0,1,2,3] Q Q (RS (SA TK Q (SA TK Q (SA TK Q (GE hm λg3 hm=>SX Q Q (bA Q Q Q Q g3) (SA TK Q (SA TK Q (TN (WN [0,1,2,3] Q Q (cO hm (λ_=>[]) (λ_=>[]) [] [0,1,2,3] Q (λz4 hm hz4=>?_) (λj hm=>?_)))))))))))))
  ·refine RS ?_;iterate 4 (refine SA TK Q ?_)
   refine TN (WN [0,1,2,3,26] Q Q (TB (aG hm (λx5=>([(27,.d (.bool (x5)))])) (λx5=>[]) [27] [0,1,2,3,26] Q (λz6 hm=>?_) (λx5 hm=>?_))))
   ·refine RS (SA TK Q (SA TK Q (TN (WN [0,1,2,3,26,27] Q Q (TC _ Q (λh7=>?_) (λh7=>?_))))))
    ·replace hm:=JT h7 hm;exact TS (WT ⟨_,[0],(SJ hm),Q,(kB Q),Q⟩)
    replace hm:=JF h7 hm;exact TG (SA TK Q (SA TK Q (TN (WT ⟨_,[0],(SJ hm),Q,(kB Q),Q⟩))))
   refine WN [0,1,2,3,26,27] Q Q (TC _ Q (λh8=>?_) (λh8=>?_))
   ·replace hm:=JA h8 hm;refine fK [(8,.d (.bool (((decide (p0.var=(0:Int)))&&(decide ((p0.args.length:Int)=(0:Int)))))))] [8] [] Q ?_ ?_
    ·refine TG ?_;iterate 5 (refine SA TK Q ?_)
     refine SB TK Q (λq9 hq9=>?_);cases q9
     ·iterate 8 (refine SA TK Q ?_)
      refine TN (WT ?_);exact⟨[0],Q,(kB Q),bU (aQ (aR (by first|(simp [hq9];done)|(simp only [hq9];simp))) Q) Q⟩
     iterate 4 (refine SA TK Q ?_)
     refine SX Q Q (bI TK Q Q Q) (SA TK Q (SA TK Q (SA TK Q (TN (WT ?_)))));exact⟨[0],Q,(kB Q),bU (aQ (aR (by first|(simp [hq9];done)|(simp only [hq9];simp))) Q) Q⟩
    refine WN [8] Q Q (TR (WB (IE hm λv10 hm hz=>?_)));rw [hz4 _ hz] at hm;refine WR ?_;obtain⟨rfl,rfl⟩:=Prod.mk.inj (Option.some.inj hm);exact⟨_,[0],res Q,by decide,(kB Q),Q,Q⟩
   replace hm:=JB h8 hm;refine RS (SA TK Q (SA TK Q (TN (WN [0,1,2,3,26,43] Q Q (TC _ Q (λh11=>?_) (λh11=>?_))))))
   ·replace hm:=JT h11 hm;refine fK [(8,.d (.bool (((decide ((0:Int)<=p0.var))&&((decide (p0.var < p1))&&(decide ((p0.args.length:Int)=(0:Int))))))))] [8] [] Q ?_ ?_
    ·refine TG ?_;iterate 5 (refine SA TK Q ?_)
     refine SB TK Q (λq12 hq12=>?_);cases q12
     ·iterate 16 (refine SA TK Q ?_)
      refine TN (WT ?_);exact⟨[0],Q,(kB Q),bU (aQ (aR (by first|(simp [hq12];done)|(simp only [hq12];simp))) Q) Q⟩
     iterate 7 (refine SA TK Q ?_)
     refine SB TK Q (λq13 hq13=>?_);cases q13
     ·iterate 8 (refine SA TK Q ?_)
      refine TN (WT ?_);exact⟨[0],Q,(kB Q),bU (aQ (aR (by first|(simp [hq12,hq13];done)|(simp only [hq12,hq13];simp))) Q) Q⟩
     iterate 4 (refine SA TK Q ?_)
     refine SX Q Q (bI TK Q Q Q) (SA TK Q (SA TK Q (SA TK Q (TN (WT ?_)))));exact⟨[0],Q,(kB Q),bU (aQ (aR (by first|(simp [hq12,hq13];done)|(simp only [hq12,hq13];simp))) Q) Q⟩
    refine WN [8] Q Q (TR (WB (IE hm λv14 hm hz=>?_)));rw [hz4 _ hz] at hm;refine WR ?_;obtain⟨rfl,rfl⟩:=Prod.mk.inj (Option.some.inj hm);exact⟨_,[0],res Q,by decide,(kB Q),Q,Q⟩
   replace hm:=JF h11 hm;refine RS (SA TK Q (SA TK Q (TN (WN [0,1,2,3,26,66] Q Q (TC _ Q (λh15=>?_) (λh15=>?_))))))
   ·replace hm:=JT h15 hm;refine RS ?_;iterate 4 (refine SA TK Q ?_)
    refine SX Q Q (bI TK Q Q Q) (SA TK Q (TN (WN [0,1,2,3,73] Q Q (TC _ Q (λh16=>?_) (λh16=>?_)))))
    ·replace hm:=hO h16 hm;refine RS (SA TK Q (TN (WN [8] Q Q (TR (WB (IE hm λv17 hm hz=>?_))))));rw [hz4 _ hz] at hm;refine WR ?_;obtain⟨rfl,rfl⟩:=Prod.mk.inj (Option.some.inj hm);exact⟨_,[0],res Q,by decide,(kB Q),Q,Q⟩
    replace hm:=hP h16 hm;exact TS (WK (WT ⟨_,[0],(SJ hm),Q,(kB Q),Q⟩))
   replace hm:=JF h15 hm;refine TQ (RS (SA TK Q (SA TK Q (TN (WN [0,1,2,3,26,74] Q Q (TC _ Q (λh18=>?_) (λh18=>?_)))))))
   ·replace hm:=JT h18 hm;exact TS (WT (WN [0,1,2,3,74] Q Q (yS Q true h18 (TS (WK (WT ⟨_,[0],(SJ hm),Q,(kB Q),Q⟩))))))
   replace hm:=JF h18 hm;refine TG (SA TK Q (SA TK Q (TN (WT (WN [0,1,2,3,74] Q Q (TC _ Q (λh19=>?_) (λh19=>?_)))))))
   ·replace hm:=JT h19 hm;exact TS (WK (WT ⟨_,[0],(SJ hm),Q,(kB Q),Q⟩))
   replace hm:=JF h19 hm;refine RS (SA TK Q (TN (WN [8] Q Q (TR (WB (IE hm λv20 hm hz=>?_))))));rw [hz4 _ hz] at hm;refine WR ?_;obtain⟨rfl,rfl⟩:=Prod.mk.inj (Option.some.inj hm);exact⟨_,[0],res Q,by decide,(kB Q),Q,Q⟩
  refine WN [0,1,2,3] Q Q (TQ (RS ?_));iterate 5 (refine SA TK Q ?_)
  refine TN (WN [0,1,2,3,81] Q Q (TC _ Q (λh21=>?_) (λh21=>?_)))
  ·replace hm:=hO h21 hm;refine RS (SA TK Q (TN (WN [8] Q Q (TR (WR ?_)))));obtain⟨rfl,rfl⟩:=Prod.mk.inj (Option.some.inj hm);exact⟨_,[0],res Q,by decide,(kB Q),Q,Q⟩
  replace hm:=hP h21 hm;refine TS (WT (WN [0,1,2,3] Q Q (cO hm (λc22=>[]) (λc22=>([(0,.box 3 [.d (.int .i64 c22)])])) [] [] Q (λz23 hm hz23=>?_) (λc22 hm=>?_))))
  ·refine RS ?_;iterate 4 (refine SA TK Q ?_)
   refine SX Q Q (bI TK Q Q Q) (SA TK Q (TN (WN [0,1,2,3,86,87] Q Q (TB (bT hm (λ(x27,c28)=>([(87,.d (.int .i64 x27))])) (λ(x27,c28)=>([(0,.box 3 [.d (.int .i64 c28)])])) [87] [0,1,2,3,86] [0] Q (kB Q) Q Q Q Q Q (λs z29 hm hz29=>?_))))));obtain⟨x27,c28⟩:=s;refine WN [0,1,2,3,86,87] Q Q (RS (SA TK Q (TN (WN [0,1,2,3,86,87,88] Q Q (TQ (TC _ Q (λh30=>?_) (λh30=>?_)))))))
   ·replace hm:=JT h30 hm;refine TS (WT (WN [0,1,2,3,86,87] Q Q (TQ (TB (RS (SA TK Q (SA TK Q (TN (WN [0,1,2,3,9,86,87] Q Q (RS ?_))))))))));iterate 5 (refine SA TK Q ?_)
    refine VE hm λe31 he31 hm=>SX Q Q (vX TK Q Q Q Q he31 (Ac.Af _)) (SA TK Q (SA TK Q (GE hm λg32 hm=>SX Q Q (bA Q Q Q Q g32) (SA TK Q (BE hm λr33 hr33 hm=>?_)))));obtain⟨r34,r35⟩:=r33;refine cP [0] (λ_=>false) Q Q Q (by decide) Q Q Q Q (ih hr33) Q Q Q ?_;refine SA TK Q (TN (WN [0,1,2,3,86,87,101] Q Q (TC _ Q (λh36=>?_) (λh36=>?_))))
    ·replace hm:=JA h36 hm;refine RS (SA TK Q (TN (WN [8] Q Q (TR (WB (WR (IE hm λv37 hm hz=>?_)))))));rw [hz29 _ hz] at hm;refine WR (WB (IE hm λv38 hm hz=>?_));rw [hz23 _ hz] at hm;refine WR ?_;obtain⟨rfl,rfl⟩:=Prod.mk.inj (Option.some.inj hm);exact⟨_,[0],res Q,by decide,(kB Q),Q,Q⟩
    replace hm:=JB h36 hm;exact TS (WK (WT (WN [0,1,2,3,86,87] Q Q (TG (GE hm λg39 hm=>SX Q Q (bA Q Q Q Q g39) (SA TK Q (TN (WT ⟨_,[0],(SJ hm),Q,(kB Q),Q⟩))))))))
   replace hm:=JF h30 hm;refine aU (WX (IE hm λv40 hm hz=>?_));rw [hz29 _ hz] at hm;exact WX (WH (WT ⟨_,[0],(SJ hm),Q,(kB Q),Q⟩))
  refine WN [] Q Q (RS (SA TK Q (TN (WN [8] Q Q (TR ?_)))));obtain⟨rfl,rfl⟩:=Prod.mk.inj (Option.some.inj hm);exact⟨_,[0],res Q,by decide,(kB Q),Q,Q⟩
theorem qF {p0:Ac} {p1:Int} {p2:Int} {p3:Int} {r0:Bool} {r1:Int} (hm:nM p0 p1 p2 p3=some (r0,r1)):Ret TP 50 [.box 3 [.d (.int .i64 p3)]] (λ_=>false) [.d (.ptr (p0.enc) 0),.d (.int .i64 p1),.d (.int .i64 p2),.mptr 0 0 0 0] (.d (.bool (r0))) [.box 3 [.d (.int .i64 r1)]]:=oL aO hm
theorem qG {p0:Ac} {p1:Int} {r:Bool} (hm:jO p0 p1=some r):RetN TP 33 [p0.enc,.int .i64 p1] (.bool (r)):=by
 refine .unit (aT (bD Q) func33 Q ntmps33 Q Q (λwX gX=>?_)) Q;unfold jO at hm;refine WN [0,1] Q Q (RS (cS 0 Q Q Q (SA TK Q (TN (WN [1,2] Q Q (RS (dF 1 Q Q iU Q (SA TK Q (TN (WN [1,2,5] Q Q (uU 0 Q Q Q Q Q (RS (SA TK Q ?_)))))))))))));refine BE hm λr1 hr1 hm=>?_;obtain⟨r2,r3⟩:=r1;refine cP [1] (λ_=>false) Q Q Q (by decide) Q Q Q Q (qF hr1) Q Q Q ?_;refine SA TK Q (TN (WN [4] Q Q (TR ?_)));obtain rfl:=OJ hm;exact EndsS.one _ Q (.d _) (.refl _)
theorem jR {p0:Int} {r:Int} (hm:iB p0=some r):RetN TP 55 [.int .i64 p0] (.int .i64 r):=by
 refine .unit (aT (bD Q) func55 Q ntmps55 Q Q (λwX gX=>?_)) Q;unfold iB at hm;refine WN [0] Q Q (RS (SA TK Q (TN (WN [0] Q Q (TQ (RS (SA TK Q (SA TK Q (TN (WN [0,4] Q Q (TC _ Q (λh1=>?_) (λh1=>?_))))))))))))
 ·replace hm:=JT h1 hm;refine RS (SA TK Q (GE hm λg2 hm=>SX Q Q (bA Q Q Q Q g2) (SA TK Q (TN (WN [2] Q Q (TR (WR ?_)))))));obtain rfl:=OJ hm;exact EndsS.one _ Q (.d _) (.refl _)
 replace hm:=JF h1 hm;refine TS (WT (WN [0] Q Q (RS (SA TK Q (SA TK Q (TN (WN [2] Q Q (TR ?_))))))));obtain rfl:=OJ hm;exact EndsS.one _ Q (.d _) (.refl _)
theorem nT {p0:Ab} {r:Ab} (hm:gJ p0=some r):RetD TP 49 [p0.enc] (r.enc):=by
 refine .of (mv:=λ_=>false) (aT (bD Q) func49 Q ntmps49 Q Q (λwX gX=>?_));unfold gJ at hm;refine WN [0] Q Q (RS (cS 0 Q Q Q (dF 1 Q Q bN Q (mO (f:=Aa.enc) 1 0 2 51 3 Q Q Q (TN (WN [1,2] Q Q (RS (SA TK Q (SA TK Q (c_N hm (jR ·) Q Q Q Q λr1 hm=>SX Q Q (jX Q fP bN Q Q Q Q) (dF 3 Q Q bN Q (mO (f:=Aa.enc) 3 0 4 51 3 Q Q Q (SA TK Q ?_)))))))))))));refine mO (f:=Aa.enc) 3 0 5 51 3 Q Q Q (TN (WN [1,2,3] Q Q (aG hm (λb2=>[]) (λb2=>([(3,.box 29 [.msl 5 3 0 b2.length,.d (.int .i64 r1)]),(5,.flat 51 3 (b2.map Aa.enc))])) [] [2,3] Q (λz3 hm=>?_) (λb2 hm=>?_))))
 ·refine RS (SA TK Q (SA TK Q (SX Q Q (bI TK Q Q Q) (SA TK Q (TN (WN [2,3,11,12,13] Q Q (TB (bT hm (λ(x7,b8)=>([(13,.d (.int .i64 x7))])) (λ(x7,b8)=>([(3,.box 29 [.msl 5 3 0 b8.length,.d (.int .i64 r1)]),(5,.flat 51 3 (b8.map Aa.enc))])) [13] [2,3,11,12] [0,1,2,3,4,5] Q k0 Q Q Q Q Q (λs z9 hm hz9=>?_)))))))));obtain⟨x7,b8⟩:=s;refine WN [2,3,11,12,13] Q Q (RS (SA TK Q (TN (WN [2,3,11,12,13,14] Q Q (TQ (TC _ Q (λh10=>?_) (λh10=>?_)))))))
  ·replace hm:=JT h10 hm;refine TS (WT (WN [2,3,11,12,13] Q Q (TQ (TB (RS (VE hm λe11 he11 hm=>SX Q Q (dD TK Q Q Q Q he11) (SA TK Q (dF 6 Q Q aY Q (SA TK Q (TN (WN [2,3,5,11,12,13] Q Q (wG ?_))))))))))));refine jT follows  (DA [] TK Q (DA [3] TK Q (DA [] TK Q (DA [6] TK Q (DA [] TK Q (DA [6] TK Q (yC [] hm (jR ·) Q Q Q Q λr12 hm=>DA [] TK Q (DA [6] TK Q (yC [] hm (jR ·) Q Q Q Q λr13 hm=>DX [] Q Q (bE Q rE aY Q Q Q Q) (DX [] Q Q (dW [.tmp 27] TK Q Q aY Q Q Q Q Q) (GE hm λg14 hm=>?_)))))))))));refine d_wr [5,7] _ (.msl 7 3 0 (b8++([(⟨e11.var,r12,r13⟩:Aa)]:List Aa)).length) Q (uK Q) Q (w_appD (f:=Aa.enc) (xs:=b8) ([(⟨e11.var,r12,r13⟩:Aa)]:List Aa) Q Q Q TK Q aY Q Q Q Q Q Q dX g14) (DA [] TK Q ?_);refine DT ?_ (by kernel_rfl);exact SA TK Q (TN (WK (WT (WN [2,3,11,12,13] Q Q (TG (GE hm λg15 hm=>SX Q Q (bA Q Q Q Q g15) (SA TK Q (TN (WT ⟨_,[0,1,2,3,4,7],(SJ hm),Q,k0,Q⟩)))))))))
  replace hm:=JF h10 hm;refine aU (WX (IE hm λv16 hm hz=>?_));rw [hz9 _ hz] at hm;exact WX (WH (WT ⟨_,[0,1,2,3,4,5],(SJ hm),Q,k0,Q⟩))
 refine WN [2,3] Q Q (RS (SA TK Q (SA TK Q (TN (WN [2] Q Q (TR ?_))))));obtain rfl:=OJ hm;exact EndsS.cellR _ TK Q Q Q Q Q (qR (.cons (dY Q) Q (.cons (.d _) Q .nil)))
theorem iC {p0:Bool} {r:Ab} (hm:eM p0=some r):RetD TP 51 [.bool (p0)] (r.enc):=by
 refine .of (mv:=λ_=>false) (aT (bD Q) func51 Q ntmps51 Q Q (λwX gX=>?_));unfold eM at hm;refine WN [0] Q Q (RS (dF 0 Q Q bN Q (gK 0 [some 3,none] Q Q (TN (WN [0,2] Q Q (TQ (RS (SA TK Q (TN (WN [2,3] Q Q (TC _ Q (λh1=>?_) (λh1=>?_))))))))))))
 ·replace hm:=JA h1 hm;refine RS (SX Q Q (bE Q fP bN Q Q Q Q) (oA 4 [some 3,none] Q (SA TK Q (TN (WN [2] Q Q (TR (WR ?_)))))));obtain rfl:=OJ hm;exact EndsS.cellR _ TK Q Q Q Q Q (.d _)
 replace hm:=JB h1 hm;refine TS (WT (WN [2] Q Q (RS (SX Q Q (bE Q fP bN Q Q Q Q) (oA 5 [some 3,none] Q (SA TK Q (TN (WN [2] Q Q (TR ?_)))))))));obtain rfl:=OJ hm;exact EndsS.cellR _ TK Q Q Q Q Q (.d _)
theorem eX {p0:Ab} {p1:Int} {r:Int} (hm:dL p0 p1=some r):RetN TP 58 [p0.enc,.int .i64 p1] (.int .i64 r):=by
 refine .unit (aT (bD Q) func58 Q ntmps58 Q Q (λwX gX=>?_)) Q;unfold dL at hm;refine WN [0,1] Q Q (RS (cS 0 Q Q Q (SA TK Q (TN (WN [1,2] Q Q (TQ (RS (SA TK Q (SA TK Q (TN (WN [1,2,6] Q Q (TC _ Q (λh1=>?_) (λh1=>?_)))))))))))))
 ·replace hm:=JT h1 hm;refine RS (SA TK Q (TN (WN [4] Q Q (TR (WR ?_)))));obtain rfl:=OJ hm;exact EndsS.one _ Q (.d _) (.refl _)
 replace hm:=JF h1 hm;refine TS (WT (WN [1,2] Q Q (RS (SA TK Q (SA TK Q (SA TK Q (GE hm λg2 hm=>SX Q Q (bA Q Q Q Q g2) (VE hm λe3 he3 hm=>SX Q Q (dD TK Q Q Q Q he3) (SA TK Q (SA TK Q (SA TK Q (TN (WN [4] Q Q (TR ?_))))))))))))));obtain rfl:=OJ hm;exact EndsS.one _ Q (.d _) (.refl _)
theorem nV {p0:Ab} {p1:Int} {p2:Int} {r0:Int} {r1:Int} (hm:dM p0 p1 p2=some (r0,r1)):Ret TP 59 [] (λ_=>false) ([p0.enc,.int .i64 p1,.int .i64 p2].map .d) (.tup ([.int .i64 r0,.int .i64 r1].map .d)) []:=by
 refine cY (bD Q) func59 Q ntmps59 Q Q (λwX gX=>?_);unfold dM at hm;refine WN [0,1,2] Q Q (RS (cS 0 Q Q Q (SA TK Q (SA TK Q (TN (WN [1,2,3] Q Q (TQ (RS (SA TK Q (SA TK Q (c_N hm (eX ·) Q Q Q Q λr1 hm=>SA TK Q (SA TK Q (TN (WN [1,3,13] Q Q (TC _ Q (λh2=>?_) (λh2=>?_))))))))))))))))
 ·replace hm:=hO h2 hm;refine RS ?_;iterate 4 (refine SA TK Q ?_)
  refine TN (WN [6,7] Q Q (TR (WR ?_)));obtain⟨rfl,rfl⟩:=Prod.mk.inj (Option.some.inj hm);exact EndsT.two Q (.d _) (.refl _) (.d _) (.refl _)
 replace hm:=hP h2 hm;refine TS (WT (WN [1,3] Q Q (RS (SA TK Q (SA TK Q (SA TK Q (GE hm λg3 hm=>SX Q Q (bA Q Q Q Q g3) (VE hm λe4 he4 hm=>SX Q Q (dD TK Q Q Q Q he4) (SA TK Q (dF 1 Q Q aY Q (SA TK Q (TN (WN [8] Q Q ?_)))))))))))));refine aK follows  ?_;iterate 5 (refine DA [0,1] TK Q ?_)
 refine DT ?_ (by kernel_rfl);refine SA TK Q (TN (WN [6,7] Q Q (TR ?_)));obtain⟨rfl,rfl⟩:=Prod.mk.inj (Option.some.inj hm);exact EndsT.two Q (.d _) (.refl _) (.d _) (.refl _)
theorem iE {p0:Ab} {p1:Int} {p2:Int} {r0:Int} {r1:Int} (hm:dM p0 p1 p2=some (r0,r1)):RetT TP 59 [p0.enc,.int .i64 p1,.int .i64 p2] [.int .i64 r0,.int .i64 r1]:=.of (mv:=λ_=>false) (nV hm)
theorem dS {p0:Ad} {p1:Aa} {r0:Int} {r1:Ad} (hm:bL p0 p1=some (r0,r1)):Ret TP 42 [.box 81 [.d (.sl 3 (p0.a.nodes.map Aa.enc)),.d (.int .i64 p0.a.root),.d (.sl 3 (p0.b.nodes.map Aa.enc)),.d (.int .i64 p0.b.root),.d (.bool (p0.all)),.mmapN 1 p0.nodes.index.length,.msl 2 3 0 p0.nodes.list.length,.mmap 3,.d (.bool (p0.full))],.map 51 3 (aF Aa.enc (D.int .i64) p0.nodes.index),.flat 51 3 (p0.nodes.list.map Aa.enc),.map 84 3 (aF Ae.enc (D.int .i64) p0.done)] (λj=>Nat.beq j 1||Nat.beq j 2) [.mptr 0 0 0 5,.d (p1.enc)] (.d (.int .i64 r0)) [.box 81 [.d (.sl 3 (p0.a.nodes.map Aa.enc)),.d (.int .i64 p0.a.root),.d (.sl 3 (p0.b.nodes.map Aa.enc)),.d (.int .i64 p0.b.root),.d (.bool (p0.all)),.mmapN 1 r1.nodes.index.length,.msl 2 3 0 r1.nodes.list.length,.mmap 3,.d (.bool (p0.full))],.map 51 3 (aF Aa.enc (D.int .i64) r1.nodes.index),.flat 51 3 (r1.nodes.list.map Aa.enc),.map 84 3 (aF Ae.enc (D.int .i64) p0.done)]:=by
 refine fO (bD Q) func42 Q ntmps42 Q Q (λwX gX=>?_);unfold bL at hm;refine sJ 0 5 1 Q Q Q (λhn=>?_) ?_
 ·replace hm:=xD hn hm;refine WN [0,1] Q Q (RS (cS 4 Q Q Q (SA TK Q (TN (WN [0,3] Q Q (TQ (aK follows  ?_)))))));iterate 5 (refine DA [0,1,2,3,4] TK Q ?_)
  refine GE hm λg1 hm=>DX [0,1,2,3,4] Q Q (qO gT hJ (D.int .i64) p1 (0:Int) Q lM iU Q Q Q g1) ?_;iterate 4 (refine DA [0,1,2,3,4] TK Q ?_)
  refine DT ?_ (by kernel_rfl);refine SA TK Q (TN (WN [0,3,5,6] Q Q (RS (SA TK Q (TN (WN [0,3,5,16] Q Q (TC false Q (λh=>by cases h) (λ_=>TS (WT (WN [0,3] Q Q (aG hm (λ_=>[]) (λ_=>([(0,.box 81 [.d (.sl 3 (p0.a.nodes.map Aa.enc)),.d (.int .i64 p0.a.root),.d (.sl 3 (p0.b.nodes.map Aa.enc)),.d (.int .i64 p0.b.root),.d (.bool (p0.all)),.mmap 1,.msl 2 3 0 p0.nodes.list.length,.mmap 3,.d (.bool (p0.full))])])) [] [0,3] Q (λz2 hm=>?_) (λj hm=>?_))))))))))))
  ·refine RS ?_;iterate 4 (refine SA TK Q ?_)
   refine SX Q Q (mX Q Try.underlying61 Q Q) (TN (WN [0,3,22] Q Q ?_));refine TC true Q (λ_=>?_) (λh=>by cases h);exact TG (SA TK Q (lI (kf:=Aa.enc) (f:=(D.int .i64)) 1 51 3 Q Q (λ_=>Q) Q Q (SA TK Q (SA TK Q (SA TK Q (TN (WT ⟨_,[0,1,2,3,4],(SJ hm),Q,(kB Q),Q⟩)))))))
  refine WN [0,3] Q Q (aK follows  ?_);iterate 10 (refine DA [0,1,2,3,4] TK Q ?_)
  refine DT ?_ (by kernel_rfl);refine GE hm λg3 hm=>kQ gT hJ (D.int .i64) lM Q Q Q Q g3 (TN (WN [0,3] Q Q (aK follows  ?_)));iterate 6 (refine DA [0,1,2,3,4] TK Q ?_)
  refine DX [0,1,2,3,4] Q Q (dW [.tmp 42] TK Q Q aY Q Q Q Q Q) ?_;refine mF 0 37 ?_ ?_ Q (by kernel_rfl) (by kernel_rfl) (by kernel_rfl)
  ·refine GE hm λg4 hm=>eG (f:=Aa.enc) ([p1]:List Aa) TK Q Q aY Q Q Q Q Q (λ_=>Q) Q dX g4 Q Q (SA TK Q (SA TK Q (SA TK Q (TN (WN [0] Q Q (RS ?_))))));iterate 5 (refine SA TK Q ?_)
   refine GE hm λg5 hm=>SX Q Q (bA Q Q Q Q g5) (SA TK Q (TN (WN [4] Q Q (jF 0 5 1 (gA ([]:List (Aa×Int)) p1 (p0.nodes.list.length:Int)).length Q Q (TR ?_)))));obtain⟨rfl,rfl⟩:=Prod.mk.inj (Option.some.inj hm);exact⟨_,[0,1,2,3],res Q,by decide,(kB Q),Q,Q⟩
  refine GE hm λg6 hm=>eG (f:=Aa.enc) ([p1]:List Aa) TK Q Q aY Q Q Q Q Q (λ_=>Q) Q dX g6 Q Q ?_;iterate 4 (refine SA TK Q ?_)
  refine TN (WN [0] Q Q (RS ?_));iterate 5 (refine SA TK Q ?_)
  refine GE hm λg7 hm=>SX Q Q (bA Q Q Q Q g7) (SA TK Q (TN (WN [4] Q Q (jF 0 5 1 (gA ([]:List (Aa×Int)) p1 (p0.nodes.list.length:Int)).length Q Q (TR ?_)))));obtain⟨rfl,rfl⟩:=Prod.mk.inj (Option.some.inj hm);exact⟨_,[0,1,2,3],res Q,by decide,(kB Q),Q,Q⟩
 replace hm:=qAC hm;refine WN [0,1] Q Q (RS (cS 4 Q Q Q (SA TK Q (TN (WN [0,3] Q Q (TQ (aK follows  ?_)))))));iterate 5 (refine DA [0,1,2,3,4] TK Q ?_)
 refine GE hm λg8 hm=>DX [0,1,2,3,4] Q Q (pK gT hJ (D.int .i64) _ _ (0:Int) Q lM iU Q Q Q Q g8) ?_;iterate 4 (refine DA [0,1,2,3,4] TK Q ?_)
 refine DT ?_ (by kernel_rfl);refine SA TK Q (TN (WN [0,3,5,6] Q Q (RS (SA TK Q (TN (WN [0,3,5,16] Q Q (TC _ Q (λh9=>?_) (λh9=>?_))))))))
 ·replace hm:=JA h9 hm;refine RS (SA TK Q (SA TK Q (TN (WN [4] Q Q (jF 0 5 1 p0.nodes.index.length Q Q (TR (WR ?_)))))));obtain⟨rfl,rfl⟩:=Prod.mk.inj (Option.some.inj hm);exact⟨_,[0,1,2,3],res Q,by decide,(kB Q),Q,Q⟩
 replace hm:=JB h9 hm;refine TS (WT (WN [0,3] Q Q (aG hm (λ_=>[]) (λ_=>[]) [] [0,3] Q (λz10 hm=>?_) (λj hm=>?_))))
 ·refine RS ?_;iterate 4 (refine SA TK Q ?_)
  exact SX Q Q (mY Q Try.underlying61 Q Q) (TN (WN [0,3,22] Q Q (TC false Q (λh=>by cases h) (λ_=>TS (WT ⟨_,[0,1,2,3,4],(SJ hm),Q,(kB Q),Q⟩)))))
 refine WN [0,3] Q Q (aK follows  ?_);iterate 10 (refine DA [0,1,2,3,4] TK Q ?_)
 refine DT ?_ (by kernel_rfl);refine GE hm λg11 hm=>kQ gT hJ (D.int .i64) lM Q Q Q Q g11 (TN (WN [0,3] Q Q (aK follows  ?_)));iterate 6 (refine DA [0,1,2,3,4] TK Q ?_)
 refine DX [0,1,2,3,4] Q Q (dW [.tmp 42] TK Q Q aY Q Q Q Q Q) ?_;refine mF 0 37 ?_ ?_ Q (by kernel_rfl) (by kernel_rfl) (by kernel_rfl)
 ·refine GE hm λg12 hm=>eG (f:=Aa.enc) ([p1]:List Aa) TK Q Q aY Q Q Q Q Q (λ_=>Q) Q dX g12 Q Q (SA TK Q (SA TK Q (SA TK Q (TN (WN [0] Q Q (RS ?_))))));iterate 5 (refine SA TK Q ?_)
  refine GE hm λg13 hm=>SX Q Q (bA Q Q Q Q g13) (SA TK Q (TN (WN [4] Q Q (jF 0 5 1 (gA p0.nodes.index p1 (p0.nodes.list.length:Int)).length Q Q (TR ?_)))));obtain⟨rfl,rfl⟩:=Prod.mk.inj (Option.some.inj hm);exact⟨_,[0,1,2,3],res Q,by decide,(kB Q),Q,Q⟩
 refine GE hm λg14 hm=>eG (f:=Aa.enc) ([p1]:List Aa) TK Q Q aY Q Q Q Q Q (λ_=>Q) Q dX g14 Q Q ?_;iterate 4 (refine SA TK Q ?_)
 refine TN (WN [0] Q Q (RS ?_));iterate 5 (refine SA TK Q ?_)
 refine GE hm λg15 hm=>SX Q Q (bA Q Q Q Q g15) (SA TK Q (TN (WN [4] Q Q (jF 0 5 1 (gA p0.nodes.index p1 (p0.nodes.list.length:Int)).length Q Q (TR ?_)))));obtain⟨rfl,rfl⟩:=Prod.mk.inj (Option.some.inj hm);exact⟨_,[0,1,2,3],res Q,by decide,(kB Q),Q,Q⟩
theorem iT:∀ (fu:Nat) {p0:Ad} {p1:Ae} {r0:Int} {r1:Ad} (hm:bC fu p0 p1=some (r0,r1)),Ret TP 56 [.box 81 [.d (.sl 3 (p0.a.nodes.map Aa.enc)),.d (.int .i64 p0.a.root),.d (.sl 3 (p0.b.nodes.map Aa.enc)),.d (.int .i64 p0.b.root),.d (.bool (p0.all)),.mmapN 1 p0.nodes.index.length,.msl 2 3 0 p0.nodes.list.length,.mmap 3,.d (.bool (p0.full))],.map 51 3 (aF Aa.enc (D.int .i64) p0.nodes.index),.flat 51 3 (p0.nodes.list.map Aa.enc),.map 84 3 (aF Ae.enc (D.int .i64) p0.done)] (λj=>Nat.beq j 1||Nat.beq j 2) [.mptr 0 0 0 0,.d (p1.enc)] (.d (.int .i64 r0)) [.box 81 [.d (.sl 3 (p0.a.nodes.map Aa.enc)),.d (.int .i64 p0.a.root),.d (.sl 3 (p0.b.nodes.map Aa.enc)),.d (.int .i64 p0.b.root),.d (.bool (p0.all)),.mmapN 1 r1.nodes.index.length,.msl 2 3 0 r1.nodes.list.length,.mmap 3,.d (.bool (r1.full))],.map 51 3 (aF Aa.enc (D.int .i64) r1.nodes.index),.flat 51 3 (r1.nodes.list.map Aa.enc),.map 84 3 (aF Ae.enc (D.int .i64) r1.done)]:=by
 intro fu
 induction fu with
 | zero=>
  intro p0 p1 r0 r1 hm;unfold bC at hm;cases hm
 | succ fu ih=>
  intro p0 p1 r0 r1 hm;refine fO (bD Q) func56 Q ntmps56 Q Q (λwX gX=>?_);unfold bC at hm;refine WN [0,1] Q Q (RS (cS 4 Q Q Q (SA TK Q (TN (WN [0,3] Q Q (TQ (RS ?_)))))));iterate 4 (refine SA TK Q ?_)
  refine TN (WN [0,3,19] Q Q (TC _ Q (λh1=>?_) (λh1=>?_)))
  ·replace hm:=JA h1 hm;refine RS (SA TK Q (TN (WN [4] Q Q (TR (WR ?_)))));obtain⟨rfl,rfl⟩:=Prod.mk.inj (Option.some.inj hm);exact⟨_,[0,1,2,3],res Q,by decide,(kB Q),Q,Q⟩
  replace hm:=JB h1 hm;refine TS (WT (WN [0,3] Q Q (RS (SA TK Q (SA TK Q (TN (WN [0,3,5,6] Q Q (aG hm (λ(decides2,other3)=>([(5,.d (.int .i64 decides2)),(6,.d (.int .i64 other3))])) (λ(decides2,other3)=>[]) [5,6] [0,3] Q (λz4 hm=>?_) (λj hm=>?_)))))))))
  ·refine RS ?_;iterate 5 (refine SA TK Q ?_)
   refine TN (WN [0,3,5,6,24] Q Q (TC _ Q (λh5=>?_) (λh5=>?_)))
   ·replace hm:=JA h5 hm;exact TG (SA TK Q (SA TK Q (TN (WT ⟨_,[0,1,2,3,4],(SJ hm),Q,(kB Q),Q⟩))))
   replace hm:=JB h5 hm;exact TS (WT ⟨_,[0,1,2,3,4],(SJ hm),Q,(kB Q),Q⟩)
  obtain⟨decides2,other3⟩:=j;refine WN [0,3,5,6] Q Q (TQ ?_);refine fK [(34,.d (.bool (((decide (p1.a=decides2))||(decide (p1.b=decides2))))))] [34] [0,3,5,6] Q ?_ ?_
  ·refine TG ?_;iterate 4 (refine SA TK Q ?_)
   refine SB TK Q (λq6 hq6=>?_);cases q6
   ·iterate 5 (refine SA TK Q ?_)
    refine TN (WT ?_);exact⟨[0,1,2,3,4],Q,(kB Q),bU (aQ (aR (by first|(simp [hq6];done)|(simp only [hq6];simp))) Q) Q⟩
   iterate 5 (refine SA TK Q ?_)
   refine TN (WT ?_);exact⟨[0,1,2,3,4],Q,(kB Q),bU (aQ (aR (by first|(simp [hq6];done)|(simp only [hq6];simp))) Q) Q⟩
  refine WN [0,3,5,6,34] Q Q (TC _ Q (λh7=>?_) (λh7=>?_))
  ·replace hm:=JA h7 hm;refine RS (SA TK Q (SA TK Q (TN (WN [4] Q Q (TR (WR ?_))))));obtain⟨rfl,rfl⟩:=Prod.mk.inj (Option.some.inj hm);exact⟨_,[0,1,2,3],res Q,by decide,(kB Q),Q,Q⟩
  replace hm:=JB h7 hm;refine TS (WT (WN [0,3,6] Q Q (TQ (fK [(45,.d (.bool (((decide (p1.a=other3))&&(decide (p1.b=other3))))))] [45] [0,3,6] Q ?_ ?_))))
  ·refine TG ?_;iterate 4 (refine SA TK Q ?_)
   refine SB TK Q (λq8 hq8=>?_);cases q8
   ·iterate 5 (refine SA TK Q ?_)
    refine TN (WT ?_);exact⟨[0,1,2,3,4],Q,(kB Q),bU (aQ (aR (by first|(simp [hq8];done)|(simp only [hq8];simp))) Q) Q⟩
   iterate 5 (refine SA TK Q ?_)
   refine TN (WT ?_);exact⟨[0,1,2,3,4],Q,(kB Q),bU (aQ (aR (by first|(simp [hq8];done)|(simp only [hq8];simp))) Q) Q⟩
  refine WN [0,3,6,45] Q Q (TC _ Q (λh9=>?_) (λh9=>?_))
  ·replace hm:=JA h9 hm;refine RS (SA TK Q (SA TK Q (TN (WN [4] Q Q (TR (WR ?_))))));obtain⟨rfl,rfl⟩:=Prod.mk.inj (Option.some.inj hm);exact⟨_,[0,1,2,3],res Q,by decide,(kB Q),Q,Q⟩
  replace hm:=JB h9 hm;refine TS (WT (WN [0,3] Q Q (TQ (aK follows  ?_))));iterate 5 (refine DA [0,1,2,3,4] TK Q ?_)
  refine GE hm λg10 hm=>DX [0,1,2,3,4] Q Q (pK sX tS (D.int .i64) _ _ (0:Int) Q xF iU Q Q Q Q g10) ?_;iterate 4 (refine DA [0,1,2,3,4] TK Q ?_)
  refine DT ?_ (by kernel_rfl);refine SA TK Q (TN (WN [0,3,7,8] Q Q (RS (SA TK Q (TN (WN [0,3,7,56] Q Q (TC _ Q (λh11=>?_) (λh11=>?_))))))))
  ·replace hm:=JA h11 hm;refine RS (SA TK Q (SA TK Q (TN (WN [4] Q Q (TR (WR ?_))))));obtain⟨rfl,rfl⟩:=Prod.mk.inj (Option.some.inj hm);exact⟨_,[0,1,2,3],res Q,by decide,(kB Q),Q,Q⟩
  replace hm:=JB h11 hm;refine TS (WT (WN [0,3] Q Q (aK follows  ?_)));iterate 6 (refine DA [0,1,2,3,4] TK Q ?_)
  refine yC [0,1,2,3,4] hm (eX ·) Q Q Q Q λr12 hm=>?_;iterate 6 (refine DA [0,1,2,3,4] TK Q ?_)
  refine yC [0,1,2,3,4] hm (eX ·) Q Q Q Q λr13 hm=>DX [0,1,2,3,4] Q Q (rd_min Q Q Q Q) ?_;refine DT ?_ (by kernel_rfl);refine SA TK Q (TN (WN [0,3,9] Q Q (aK follows  ?_)));iterate 7 (refine DA [0,1,2,3,4] TK Q ?_)
  refine BE hm λr14 hr14 hm=>?_;obtain⟨r15,r16⟩:=r14;refine DX [0,1,2,3,4] Q Q (cN Q Q Q (iE hr14)) ?_;iterate 4 (refine DA [0,1,2,3,4] TK Q ?_)
  refine DT ?_ (by kernel_rfl);refine SA TK Q (TN (WN [0,3,9,10,11] Q Q (aK follows  ?_)));iterate 7 (refine DA [0,1,2,3,4] TK Q ?_)
  refine BE hm λr17 hr17 hm=>?_;obtain⟨r18,r19⟩:=r17;refine DX [0,1,2,3,4] Q Q (cN Q Q Q (iE hr17)) ?_;iterate 4 (refine DA [0,1,2,3,4] TK Q ?_)
  refine DT ?_ (by kernel_rfl);refine SA TK Q (TN (WN [0,3,9,10,11,12,13] Q Q (RS (SA TK Q (SA TK Q (SA TK Q (SX Q Q (bE Q wV sP Q Q Q Q) (BE hm λr20 hr20 hm=>?_))))))));obtain⟨r21,r22⟩:=r20;refine cP [0,1,2,3] (λj=>Nat.beq j 1||Nat.beq j 2) Q Q Q (by decide) Q Q Q Q (ih hr20) Q Q Q ?_;refine SA TK Q (TN (WN [0,3,9,11,13,14] Q Q (aG hm (λ(x23,c24,m25,b26,m27)=>([(14,.d (.int .i64 x23))])) (λ(x23,c24,m25,b26,m27)=>([(0,.box 81 [.d (.sl 3 (p0.a.nodes.map Aa.enc)),.d (.int .i64 p0.a.root),.d (.sl 3 (p0.b.nodes.map Aa.enc)),.d (.int .i64 p0.b.root),.d (.bool (p0.all)),.mmapN 1 m25.length,.msl 2 3 0 b26.length,.mmap 3,.d (.bool (c24))]),(1,.map 51 3 (aF Aa.enc (D.int .i64) m25)),(2,.flat 51 3 (b26.map Aa.enc)),(3,.map 84 3 (aF Ae.enc (D.int .i64) m27))])) [14] [0,3] Q (λz28 hm=>?_) (λj hm=>?_))))
  ·refine RS (SA TK Q (SA TK Q (SA TK Q (SX Q Q (bE Q wV sP Q Q Q Q) (BE hm λr29 hr29 hm=>?_)))));obtain⟨r30,r31⟩:=r29;refine cP [0,1,2,3] (λj=>Nat.beq j 1||Nat.beq j 2) Q Q Q (by decide) Q Q Q Q (ih hr29) Q Q Q ?_;refine SA TK Q (TN (WN [0,3,9,14,15] Q Q (RS (SA TK Q (SA TK Q (SA TK Q (TN (WN [0,3,9,14,15,107] Q Q (TC _ Q (λh32=>?_) (λh32=>?_))))))))))
   ·replace hm:=hO h32 hm;refine TG ?_;iterate 6 (refine SA TK Q ?_)
    refine SX Q Q (bE Q rE aY Q Q Q Q) (BE hm λr33 hr33 hm=>?_);obtain⟨r34,r35⟩:=r33;refine cP [0,1,2,3] (λj=>Nat.beq j 1||Nat.beq j 2) Q Q Q (by decide) Q Q Q Q (dS hr33) Q Q Q ?_;exact GE hm λg36 hm=>SX Q Q (bA Q Q Q Q g36) (SA TK Q (TN (WT ⟨_,[0,1,2,3,4],(SJ hm),Q,(kB Q),Q⟩)))
   replace hm:=hP h32 hm;exact TS (WT ⟨_,[0,1,2,3,4],(SJ hm),Q,(kB Q),Q⟩)
  obtain⟨x23,c24,m25,b26,m27⟩:=j;refine WN [0,3,14] Q Q (TQ (RS ?_));iterate 7 (refine SA TK Q ?_)
  refine TN (WN [0,3,14,123] Q Q (TC _ Q (λh37=>?_) (λh37=>?_)))
  ·replace hm:=JT h37 hm;refine TG ?_;iterate 4 (refine SA TK Q ?_)
   refine TN (WT (WN [0,3,14] Q Q (aK follows  ?_)));iterate 6 (refine DA [0,1,2,3,4] TK Q ?_)
   refine DT ?_ (by kernel_rfl);refine GE hm λg38 hm=>kQ sX tS (D.int .i64) xF Q Q Q Q g38 (TN (WN [14] Q Q (RS (SA TK Q (SA TK Q (TN (WN [4] Q Q (TR ?_))))))));obtain⟨rfl,rfl⟩:=Prod.mk.inj (Option.some.inj hm);exact⟨_,[0,1,2,3],res Q,by decide,(kB Q),Q,Q⟩
  replace hm:=JF h37 hm;refine TS (WT (WN [0,3,14] Q Q (aK follows  ?_)));iterate 6 (refine DA [0,1,2,3,4] TK Q ?_)
  refine DT ?_ (by kernel_rfl);refine GE hm λg39 hm=>kQ sX tS (D.int .i64) xF Q Q Q Q g39 (TN (WN [14] Q Q (RS (SA TK Q (SA TK Q (TN (WN [4] Q Q (TR ?_))))))));obtain⟨rfl,rfl⟩:=Prod.mk.inj (Option.some.inj hm);exact⟨_,[0,1,2,3],res Q,by decide,(kB Q),Q,Q⟩
theorem jQ {p0:Ad} {p1:Ae} {r0:Int} {r1:Ad} (hm:fV p0 p1=some (r0,r1)):Ret TP 56 [.box 81 [.d (.sl 3 (p0.a.nodes.map Aa.enc)),.d (.int .i64 p0.a.root),.d (.sl 3 (p0.b.nodes.map Aa.enc)),.d (.int .i64 p0.b.root),.d (.bool (p0.all)),.mmapN 1 p0.nodes.index.length,.msl 2 3 0 p0.nodes.list.length,.mmap 3,.d (.bool (p0.full))],.map 51 3 (aF Aa.enc (D.int .i64) p0.nodes.index),.flat 51 3 (p0.nodes.list.map Aa.enc),.map 84 3 (aF Ae.enc (D.int .i64) p0.done)] (λj=>Nat.beq j 1||Nat.beq j 2) [.mptr 0 0 0 0,.d (p1.enc)] (.d (.int .i64 r0)) [.box 81 [.d (.sl 3 (p0.a.nodes.map Aa.enc)),.d (.int .i64 p0.a.root),.d (.sl 3 (p0.b.nodes.map Aa.enc)),.d (.int .i64 p0.b.root),.d (.bool (p0.all)),.mmapN 1 r1.nodes.index.length,.msl 2 3 0 r1.nodes.list.length,.mmap 3,.d (.bool (r1.full))],.map 51 3 (aF Aa.enc (D.int .i64) r1.nodes.index),.flat 51 3 (r1.nodes.list.map Aa.enc),.map 84 3 (aF Ae.enc (D.int .i64) r1.done)]:=iT aO hm
theorem oO {p0:Ab} {p1:Ab} {p2:Bool} {r0:Ab} {r1:Bool} (hm:iD p0 p1 p2=some (r0,r1)):RetT TP 52 [p0.enc,p1.enc,.bool (p2)] [r0.enc,.bool (r1)]:=by
 refine .of (mv:=λ_=>false) (cY (bD Q) func52 Q ntmps52 Q Q (λwX gX=>?_));unfold iD at hm;refine WN [0,1,2] Q Q (RS (cS 0 Q Q Q (cS 1 Q Q Q (dF 2 Q Q bN Q (gK 2 [some 3,none] Q Q (SA TK Q (TN (WN [2,3,4,6] Q Q (RS (SA TK Q (SA TK Q (SA TK Q (vA 84 3 Q (s_eq 13 (.mmap 3) Q Q (SX Q Q (jX Q plc81 vW Q Q Q Q) ?_)))))))))))))));refine dF 4 Q Q vW Q (uG (kf:=Aa.enc) (f:=(D.int .i64)) 4 5 5 51 3 Q Q Q (mO (f:=Aa.enc) 4 6 6 51 3 Q Q Q (uG (kf:=Ae.enc) (f:=(D.int .i64)) 4 7 7 84 3 Q Q Q (gK 4 [some 3,none,some 3,none,none,none,none,none,none] Q Q (SA TK Q (uG (kf:=Aa.enc) (f:=(D.int .i64)) 4 5 8 51 3 Q Q Q (mO (f:=Aa.enc) 4 6 9 51 3 Q Q Q (TN (WN [3,4,6,8] Q Q (RS ?_))))))))));iterate 4 (refine SA TK Q ?_)
 refine SX Q Q (bE Q wV sP Q Q Q Q) (BE hm λr1 hr1 hm=>?_);obtain⟨r2,r3⟩:=r1;refine cP [4,8,9,3] (λj=>Nat.beq j 1||Nat.beq j 2) Q Q Q (by decide) Q Q Q Q (jQ hr1) Q Q Q ?_;refine SA TK Q (TN (WN [6,8,9] Q Q (TQ (RS (SA TK Q (SA TK Q (TN (WN [6,8,9,22] Q Q (TC _ Q (λh4=>?_) (λh4=>?_))))))))))
 ·replace hm:=JA h4 hm;refine RS (SX Q Q (bE Q fP bN Q Q Q Q) (oA 23 [some 3,none] Q (SA TK Q (SA TK Q (TN (WN [6,7] Q Q (TR (WR ?_))))))));obtain⟨rfl,rfl⟩:=Prod.mk.inj (Option.some.inj hm);exact⟨_,.mk _ (.cons (.agg (TK.lay Q) Q Q Q Q) (.cons (.tmp 7) .nil)) Q,(.cons (.d _) (.refl _) (.cons (.d _) (.refl _) .nil))⟩
 replace hm:=JB h4 hm;refine TS (WT (WN [6,8,9] Q Q (RS ?_)));iterate 4 (refine SA TK Q ?_)
 refine SX Q Q (jX Q fP bN Q Q Q Q) (SA TK Q (SA TK Q (TN (WN [6,7] Q Q (TR ?_)))));obtain⟨rfl,rfl⟩:=Prod.mk.inj (Option.some.inj hm);exact⟨_,.mk _ (.cons (.agg (TK.lay Q) Q Q Q Q) (.cons (.tmp 7) .nil)) Q,(.cons (qR (.cons (dY Q) Q (.cons (.d _) Q .nil))) (.refl _) (.cons (.d _) (.refl _) .nil))⟩
theorem nU:∀ (fu:Nat) {p0:Ac} {r0:Ab} {r1:Bool} (hm:cH fu p0=some (r0,r1)),RetT TP 34 [p0.enc] [r0.enc,.bool (r1)]:=by
 intro fu
 induction fu with
 | zero=>
  intro p0 r0 r1 hm;unfold cH at hm;cases hm
 | succ fu ih=>
  intro p0 r0 r1 hm;refine .of (mv:=λ_=>false) (cY (bD Q) func34 Q ntmps34 Q Q (λwX gX=>?_));unfold cH at hm;refine WN [0] Q Q (RS (cS 0 Q Q Q (dF 1 Q Q bN Q (gK 1 [some 3,none] Q Q (SA TK Q (TN (WN [1,2] Q Q (cO hm (λ_=>[]) (λ_=>[]) [] [2] Q (λz1 hm hz1=>?_) (λj hm=>?_)))))))))
  ·refine RS (SA TK Q (SA TK Q (TN (WN [1,2,13] Q Q (TB (RS (SA TK Q (SA TK Q (TN (WN [1,2,13,14] Q Q (TC _ Q (λh2=>?_) (λh2=>?_))))))))))))
   ·replace hm:=JT h2 hm;refine RS (SX Q Q (bE Q fP bN Q Q Q Q) (oA 16 [some 3,none] Q (SA TK Q (SA TK Q (TN (WN [2,3] Q Q (TR (WB (IE hm λv3 hm hz=>?_)))))))));rw [hz1 _ hz] at hm;refine WR ?_;obtain⟨rfl,rfl⟩:=Prod.mk.inj (Option.some.inj hm);exact⟨_,.mk _ (.cons (.agg (TK.lay Q) Q Q Q Q) (.cons (.tmp 3) .nil)) Q,(.cons (.d _) (.refl _) (.cons (.d _) (.refl _) .nil))⟩
   replace hm:=JF h2 hm;refine RS (SA TK Q (SA TK Q (TN (WN [1,2,13,17] Q Q (TC _ Q (λh4=>?_) (λh4=>?_))))))
   ·replace hm:=JT h4 hm;refine RS (SA TK Q (SA TK Q (SX Q Q (bE Q rE aY Q Q Q Q) (SX Q Q (dW [.tmp 21] TK Q Q aY Q Q Q Q Q) (SX Q Q (bE Q fP bN Q Q Q Q) (SA TK Q (SA TK Q (TN (WN [2,3] Q Q (TR (WB (IE hm λv5 hm hz=>?_))))))))))));rw [hz1 _ hz] at hm;refine WR ?_;obtain⟨rfl,rfl⟩:=Prod.mk.inj (Option.some.inj hm);exact⟨_,.mk _ (.cons (.agg (TK.lay Q) Q Q Q Q) (.cons (.tmp 3) .nil)) Q,(.cons (.d _) (.refl _) (.cons (.d _) (.refl _) .nil))⟩
   replace hm:=JF h4 hm;refine RS (SA TK Q (SA TK Q (TN (WN [1,2,13,24] Q Q (TC _ Q (λh6=>?_) (λh6=>?_))))))
   ·replace hm:=JT h6 hm;refine RS (SA TK Q (SA TK Q (VE hm λe7 he7 hm=>SX Q Q (vX TK Q Q Q Q he7 (Ac.Af _)) (SA TK Q (BE hm λr8 hr8 hm=>?_)))));obtain⟨r9,r10⟩:=r8;refine SX Q Q (cN Q Q Q (ih hr8)) (SA TK Q (SA TK Q (SA TK Q (dF 2 Q Q bN Q (gK 2 [some 3,none] Q Q (SA TK Q (SA TK Q (TN (WN [2,4,5] Q Q (RS (SA TK Q (c_D hm (nT ·) Q Q Q Q λr11 hm=>SA TK Q (SA TK Q (SA TK Q (TN (WN [2,3] Q Q (TR ?_)))))))))))))))));refine WB (IE hm λv12 hm hz=>?_);rw [hz1 _ hz] at hm;refine WR ?_;obtain⟨rfl,rfl⟩:=Prod.mk.inj (Option.some.inj hm);exact⟨_,.mk _ (.cons (.agg (TK.lay Q) Q Q Q Q) (.cons (.tmp 3) .nil)) Q,(.cons (.d _) (.refl _) (.cons (.d _) (.refl _) .nil))⟩
   replace hm:=JF h6 hm;refine aG hm (λx13=>([(37,.d (.bool (x13)))])) (λx13=>[]) [37] [1,2] Q (λz14 hm=>?_) (λx13 hm=>?_)
   ·refine RS (SA TK Q (SA TK Q (TN (WN [1,2,13,37] Q Q (TC _ Q (λh15=>?_) (λh15=>?_))))))
    ·replace hm:=JT h15 hm;exact TS (WT ⟨_,[0,1],(SJ hm),Q,k0,Q⟩)
    replace hm:=JF h15 hm;exact TG (SA TK Q (SA TK Q (TN (WT ⟨_,[0,1],(SJ hm),Q,k0,Q⟩))))
   refine WN [1,2,37] Q Q (TC _ Q (λh16=>?_) (λh16=>?_))
   ·replace hm:=JA h16 hm;refine RS ?_;iterate 4 (refine SA TK Q ?_)
    refine TN (WN [1,2,6] Q Q (RS (SA TK Q (c_D hm (iC ·) Q Q Q Q λr17 hm=>dF 2 Q Q bN Q (gK 2 [some 3,none] Q Q (SA TK Q (TN (WN [1,2,6,7] Q Q (cO hm (λ(c18,c19)=>[]) (λ(c18,c19)=>([(2,.box 29 [.d (.sl 3 (c18.map Aa.enc)),.d (.int .i64 c19)])])) [] [2,7] Q (λz20 hm hz20=>?_) (λj hm=>?_))))))))))
    ·refine RS (SA TK Q (SA TK Q (SX Q Q (bI TK Q Q Q) (SA TK Q (TN (WN [2,6,7,46,47,48] Q Q (TB (bT hm (λ(x25,c26,c27)=>([(48,.d (.int .i64 x25))])) (λ(x25,c26,c27)=>([(2,.box 29 [.d (.sl 3 (c26.map Aa.enc)),.d (.int .i64 c27)])])) [48] [2,6,7,46,47] [0,1,2] Q k0 Q Q Q Q Q (λs z28 hm hz28=>?_)))))))));obtain⟨x25,c26,c27⟩:=s;refine WN [2,6,7,46,47,48] Q Q (RS (SA TK Q (TN (WN [2,6,7,46,47,48,49] Q Q (TQ (TC _ Q (λh29=>?_) (λh29=>?_)))))))
     ·replace hm:=JT h29 hm;refine TS (WT (WN [2,6,7,46,47,48] Q Q (TQ (TB (RS (VE hm λe30 he30 hm=>SX Q Q (vX TK Q Q Q Q he30 (Ac.Af _)) (SA TK Q (dF 3 Q Q mL Q (gK 3 [none,none,some 3] Q Q (SA TK Q (TN (WN [2,6,7,9,46,47,48] Q Q ?_))))))))))));refine RS (SA TK Q (BE hm λr31 hr31 hm=>?_));obtain⟨r32,r33⟩:=r31;refine SX Q Q (cN Q Q Q (ih hr31)) (SA TK Q (SA TK Q (SA TK Q (dF 4 Q Q bN Q (gK 4 [some 3,none] Q Q (SA TK Q (SA TK Q (TN (WN [2,6,7,10,11,46,47,48] Q Q (TQ (RS (SA TK Q (SA TK Q (TN (WN [2,6,7,10,46,47,48,58] Q Q (TC _ Q (λh34=>?_) (λh34=>?_)))))))))))))))))
      ·replace hm:=JA h34 hm;refine RS (SX Q Q (bE Q fP bN Q Q Q Q) (oA 59 [some 3,none] Q (SA TK Q (SA TK Q (TN (WN [2,3] Q Q (TR (WR (WB (WR (IE hm λv35 hm hz=>?_)))))))))));rw [hz28 _ hz] at hm;refine WR (WB (IE hm λv36 hm hz=>?_));rw [hz20 _ hz] at hm;refine WR (WB (IE hm λv37 hm hz=>?_));rw [hz1 _ hz] at hm;refine WR ?_;obtain⟨rfl,rfl⟩:=Prod.mk.inj (Option.some.inj hm);exact⟨_,.mk _ (.cons (.agg (TK.lay Q) Q Q Q Q) (.cons (.tmp 3) .nil)) Q,(.cons (.d _) (.refl _) (.cons (.d _) (.refl _) .nil))⟩
      replace hm:=JB h34 hm;refine TS (WT (WN [2,6,7,10,46,47,48] Q Q (RS (SA TK Q (SA TK Q (SA TK Q (BE hm λr38 hr38 hm=>?_)))))));obtain⟨r39,r40⟩:=r38;refine SX Q Q (cN Q Q Q (oO hr38)) ?_;iterate 5 (refine SA TK Q ?_)
      refine TN (WN [2,6,7,11,46,47,48] Q Q (RS (SA TK Q (SA TK Q (TN (WN [2,6,7,46,47,48,68] Q Q (TC _ Q (λh41=>?_) (λh41=>?_))))))))
      ·replace hm:=JA h41 hm;refine RS (SX Q Q (bE Q fP bN Q Q Q Q) (oA 69 [some 3,none] Q (SA TK Q (SA TK Q (TN (WN [2,3] Q Q (TR (WB (WR (IE hm λv42 hm hz=>?_))))))))));rw [hz28 _ hz] at hm;refine WR (WB (IE hm λv43 hm hz=>?_));rw [hz20 _ hz] at hm;refine WR (WB (IE hm λv44 hm hz=>?_));rw [hz1 _ hz] at hm;refine WR ?_;obtain⟨rfl,rfl⟩:=Prod.mk.inj (Option.some.inj hm);exact⟨_,.mk _ (.cons (.agg (TK.lay Q) Q Q Q Q) (.cons (.tmp 3) .nil)) Q,(.cons (.d _) (.refl _) (.cons (.d _) (.refl _) .nil))⟩
      replace hm:=JB h41 hm;exact TS (WK (WT (WN [2,6,7,46,47,48] Q Q (TG (GE hm λg45 hm=>SX Q Q (bA Q Q Q Q g45) (SA TK Q (TN (WT ⟨_,[0,1,2],(SJ hm),Q,k0,Q⟩))))))))
     replace hm:=JF h29 hm;refine aU (WX (IE hm λv46 hm hz=>?_));rw [hz28 _ hz] at hm;exact WX (WH (WT ⟨_,[0,1,2],(SJ hm),Q,k0,Q⟩))
    obtain⟨c18,c19⟩:=j;refine WN [2,7] Q Q (RS (SA TK Q (SA TK Q (SA TK Q (TN (WN [2,3] Q Q (TR (WB (IE hm λv47 hm hz=>?_)))))))));rw [hz1 _ hz] at hm;refine WR ?_;obtain⟨rfl,rfl⟩:=Prod.mk.inj (Option.some.inj hm);exact⟨_,.mk _ (.cons (.agg (TK.lay Q) Q Q Q Q) (.cons (.tmp 3) .nil)) Q,(.cons (.d _) (.refl _) (.cons (.d _) (.refl _) .nil))⟩
   replace hm:=JB h16 hm;exact TS (WK (WT ⟨_,[0,1],(SJ hm),Q,k0,Q⟩))
  refine WN [2] Q Q (RS (c_D hm (iC ·) Q Q Q Q λr48 hm=>SA TK Q (SA TK Q (TN (WN [2,3] Q Q (TR ?_))))));obtain⟨rfl,rfl⟩:=Prod.mk.inj (Option.some.inj hm);exact⟨_,.mk _ (.cons (.agg (TK.lay Q) Q Q Q Q) (.cons (.tmp 3) .nil)) Q,(.cons (.d _) (.refl _) (.cons (.d _) (.refl _) .nil))⟩
theorem oN {p0:Ac} {r0:Ab} {r1:Bool} (hm:lP p0=some (r0,r1)):RetT TP 34 [p0.enc] [r0.enc,.bool (r1)]:=nU aO hm
theorem yF {p0:Ac} {p1:Int} {r0:Ab} {r1:Int} (hm:uC p0 p1=some (r0,r1)):RetT TP 11 [p0.enc,.int .i64 p1] [r0.enc,.int .i64 r1]:=by
 refine .of (mv:=λ_=>false) (cY (bD Q) func11 Q ntmps11 Q Q (λwX gX=>?_));unfold uC at hm;refine WN [0,1] Q Q (RS (cS 0 Q Q Q (dF 1 Q Q bN Q (gK 1 [some 3,none] Q Q (SA TK Q (TN (WN [1,2,4] Q Q (TQ (RS (SA TK Q (SA TK Q (TN (WN [1,2,4,9] Q Q (TC _ Q (λh1=>?_) (λh1=>?_)))))))))))))))
 ·replace hm:=JT h1 hm;refine RS (SX Q Q (bE Q fP bN Q Q Q Q) (oA 10 [some 3,none] Q (SA TK Q (SA TK Q (TN (WN [4,5] Q Q (TR (WR ?_))))))));obtain⟨rfl,rfl⟩:=Prod.mk.inj (Option.some.inj hm);exact⟨_,.mk _ (.cons (.agg (TK.lay Q) Q Q Q Q) (.cons (.tmp 5) .nil)) Q,(.cons (.d _) (.refl _) (.cons (.d _) (.refl _) .nil))⟩
 replace hm:=JF h1 hm;refine TS (WT (WN [1,2,4] Q Q (TQ (aG hm (λx2=>([(18,.d (.bool (x2)))])) (λx2=>[]) [18] [2,4] Q (λz3 hm=>?_) (λx2 hm=>?_)))))
 ·refine TG (SA TK Q (SA TK Q (SB TK Q (λq4 hq4=>?_))));cases q4
  ·replace hm:=JF hq4 hm;exact SA TK Q (SA TK Q (c_N hm (qG ·) Q Q Q Q λr5 hm=>SA TK Q (SA TK Q (TN (WT ⟨_,[0,1],(SJ hm),Q,k0,Q⟩)))))
  replace hm:=JT hq4 hm;iterate 5 (refine SA TK Q ?_)
  exact TN (WT ⟨_,[0,1],(SJ hm),Q,k0,Q⟩)
 refine WN [2,4,18] Q Q (TC _ Q (λh6=>?_) (λh6=>?_))
 ·replace hm:=JA h6 hm;refine RS (SX Q Q (bE Q fP bN Q Q Q Q) (oA 19 [some 3,none] Q (SA TK Q (SA TK Q (TN (WN [4,5] Q Q (TR (WR ?_))))))));obtain⟨rfl,rfl⟩:=Prod.mk.inj (Option.some.inj hm);exact⟨_,.mk _ (.cons (.agg (TK.lay Q) Q Q Q Q) (.cons (.tmp 5) .nil)) Q,(.cons (.d _) (.refl _) (.cons (.d _) (.refl _) .nil))⟩
 replace hm:=JB h6 hm;refine TS (WT (WN [2,4] Q Q (RS (SA TK Q (BE hm λr7 hr7 hm=>?_)))));obtain⟨r8,r9⟩:=r7;refine SX Q Q (cN Q Q Q (oN hr7)) (SA TK Q (SA TK Q (SA TK Q (dF 2 Q Q bN Q (gK 2 [some 3,none] Q Q (SA TK Q (SA TK Q (TN (WN [4,6,7] Q Q (TQ (RS (SA TK Q (SA TK Q (TN (WN [4,6,26] Q Q (TC _ Q (λh10=>?_) (λh10=>?_)))))))))))))))))
 ·replace hm:=JA h10 hm;refine RS (SX Q Q (bE Q fP bN Q Q Q Q) (oA 27 [some 3,none] Q (SA TK Q (SA TK Q (TN (WN [4,5] Q Q (TR (WR ?_))))))));obtain⟨rfl,rfl⟩:=Prod.mk.inj (Option.some.inj hm);exact⟨_,.mk _ (.cons (.agg (TK.lay Q) Q Q Q Q) (.cons (.tmp 5) .nil)) Q,(.cons (.d _) (.refl _) (.cons (.d _) (.refl _) .nil))⟩
 replace hm:=JB h10 hm;refine TS (WT (WN [4,6] Q Q (RS (SA TK Q (SA TK Q (SA TK Q (TN (WN [4,5] Q Q (TR ?_)))))))));obtain⟨rfl,rfl⟩:=Prod.mk.inj (Option.some.inj hm);exact⟨_,.mk _ (.cons (.agg (TK.lay Q) Q Q Q Q) (.cons (.tmp 5) .nil)) Q,(.cons (.d _) (.refl _) (.cons (.d _) (.refl _) .nil))⟩
theorem lQ {p0:Ab} {p1:Int} {p2:Int} {r:Bool} (hm:dB p0 p1 p2=some r):RetN TP 41 [p0.enc,.int .i64 p1,.int .i64 p2] (.bool (r)):=by
 refine .unit (aT (bD Q) func41 Q ntmps41 Q Q (λwX gX=>?_)) Q;unfold dB at hm;refine WN [0,1,2] Q Q (RS (cS 0 Q Q Q (SA TK Q (TN (WN [1,2,3] Q Q (TQ ?_))))));refine fK [(12,.d (.bool (((decide (p2=(0:Int)))||(decide (p2=(1:Int)))))))] [12] [1,2,3] Q ?_ ?_
 ·refine TG (SA TK Q (SA TK Q (SB TK Q (λq1 hq1=>?_))));cases q1
  ·refine SA TK Q (SA TK Q (SA TK Q (TN (WT ?_))));exact⟨[0],Q,k0,bU (aQ (aR (by first|(simp [hq1];done)|(simp only [hq1];simp))) Q) Q⟩
  refine SA TK Q (SA TK Q (SA TK Q (TN (WT ?_))));exact⟨[0],Q,k0,bU (aQ (aR (by first|(simp [hq1];done)|(simp only [hq1];simp))) Q) Q⟩
 refine WN [1,2,3,12] Q Q (TC _ Q (λh2=>?_) (λh2=>?_))
 ·replace hm:=JA h2 hm;refine RS (SA TK Q (TN (WN [6] Q Q (TR (WR ?_)))));obtain rfl:=OJ hm;exact EndsS.one _ Q (.d _) (.refl _)
 replace hm:=JB h2 hm;refine TS (WT (WN [1,2,3] Q Q (aG hm (λx3=>([(6,.d (.bool (x3)))])) (λx3=>[]) [6] [] Q (λz4 hm=>?_) (λx3 hm=>?_))))
 ·refine jT follows  ?_;iterate 2 (refine DA [0] TK Q ?_)
  refine d_b [0] TK Q (λq5 hq5=>?_);cases q5
  ·replace hm:=JF hq5 hm;iterate 21 (refine DA [0] TK Q ?_)
   refine DT ?_ (by kernel_rfl);exact SA TK Q (TN (WT ⟨_,[0],(SJ hm),Q,k0,Q⟩))
  replace hm:=JT hq5 hm;iterate 2 (refine DA [0] TK Q ?_)
  refine GE hm λg6 hm=>DX [0] Q Q (bA Q Q Q Q g6) ?_;iterate 2 (refine DA [0] TK Q ?_)
  refine d_b [0] TK Q (λq7 hq7=>?_);cases q7
  ·replace hm:=JF hq7 hm;iterate 15 (refine DA [0] TK Q ?_)
   refine DT ?_ (by kernel_rfl);exact SA TK Q (TN (WT ⟨_,[0],(SJ hm),Q,k0,Q⟩))
  replace hm:=JT hq7 hm;iterate 3 (refine DA [0] TK Q ?_)
  refine GE hm λg8 hm=>DX [0] Q Q (bA Q Q Q Q g8) (VE hm λe9 he9 hm=>DX [0] Q Q (dD TK Q Q Q Q he9) ?_);iterate 5 (refine DA [0] TK Q ?_)
  refine VE hm λe10 he10 hm=>DX [0] Q Q (dD TK Q Q Q Q he10) ?_;iterate 4 (refine DA [0] TK Q ?_)
  refine DT ?_ (by kernel_rfl);exact SA TK Q (TN (WT ⟨_,[0],(SJ hm),Q,k0,Q⟩))
 refine WN [6] Q Q (TR ?_);obtain rfl:=OJ hm;exact EndsS.one _ Q (.d _) (.refl _)
theorem kJ:∀ (fu:Nat) {p0:Int} {p1:(List Bool)} {p2:Ab} {p4:Int} {r0:Bool} {r1:(List Bool)} {r2:Int} (hm:aZ fu p0 p1 p2 p4=some (r0,r1,r2)),Ret TP 54 [.box 36 [.msl 1 1 0 p1.length],.flat 4 1 (p1.map D.bool),.box 3 [.d (.int .i64 p4)],.box 78 [.fnc 54 [.mptr 0 0 0 0,.d (.ptr (p2.enc) 0),.mptr 3 0 0 0,.mptr 2 0 0 0]]] (λ_=>false) [.d (.int .i64 p0),.mptr 0 0 0 0,.d (.ptr (p2.enc) 0),.mptr 3 0 0 0,.mptr 2 0 0 0] (.d (.bool (r0))) [.box 36 [.msl 1 1 0 r1.length],.flat 4 1 (r1.map D.bool),.box 3 [.d (.int .i64 r2)],.box 78 [.fnc 54 [.mptr 0 0 0 0,.d (.ptr (p2.enc) 0),.mptr 3 0 0 0,.mptr 2 0 0 0]]]:=by
 intro fu
 induction fu with
 | zero=>
  intro p0 p1 p2 p4 r0 r1 r2 hm;unfold aZ at hm;cases hm
 | succ fu ih=>
  intro p0 p1 p2 p4 r0 r1 r2 hm;refine fO (bD Q) func54 Q ntmps54 Q Q (λwX gX=>?_);unfold aZ at hm;refine WN [0,1,2,3,4] Q Q (RS (SA TK Q (TN (WN [0,1,2,3,4] Q Q (TQ (aG hm (λx1=>([(15,.d (.bool (x1)))])) (λx1=>[]) [15] [0,1,2,3,4] Q (λz2 hm=>?_) (λx1 hm=>?_)))))))
  ·refine TG (SA TK Q (SA TK Q (SB TK Q (λq3 hq3=>?_))));cases q3
   ·replace hm:=JF hq3 hm;exact SA TK Q (SA TK Q (VE hm λe4 he4 hm=>SX Q Q (lF TK Q Q Q Q he4 Q) (SX Q Q (oQ TK Q Q Q Q he4.2 Q) (SA TK Q (TN (WT ⟨_,[0,1,2,3],(SJ hm),Q,(kB Q),Q⟩))))))
   replace hm:=JT hq3 hm;iterate 5 (refine SA TK Q ?_)
   exact TN (WT ⟨_,[0,1,2,3],(SJ hm),Q,(kB Q),Q⟩)
  refine WN [0,1,2,3,4,15] Q Q (TC _ Q (λh5=>?_) (λh5=>?_))
  ·replace hm:=JA h5 hm;refine RS (SA TK Q (TN (WN [6] Q Q (TR (WR ?_)))));obtain⟨rfl,hmj0⟩:=Prod.mk.inj (Option.some.inj hm);obtain⟨rfl,rfl⟩:=Prod.mk.inj (hmj0);exact⟨_,[0,1,2,3],res Q,by decide,(kB Q),Q,Q⟩
  replace hm:=JB h5 hm;refine TS (WT (WN [0,1,2,3,4] Q Q (RS (SA TK Q (SA TK Q (VE hm λe6 he6 hm=>SX Q Q (lF TK Q Q Q Q he6 Q) (zZ (x':=true) TK Q Q Q Q Q he6.2 Q Q Q (wM 16 (p1.set p0.toNat true).length Q List.length_set.symm ?_))))))));refine s_eqB 0 [.msl 1 1 0 (p1.set p0.toNat true).length] Q (by simp only [List.length_set]<;>rfl) ?_;refine TN (WN [0,2,3,4] Q Q (RS (SA TK Q (SA TK Q (SA TK Q (GE hm λg7 hm=>SX Q Q (bA Q Q Q Q g7) (VE hm λe8 he8 hm=>SX Q Q (dD TK Q Q Q Q he8) (SA TK Q (dF 4 Q Q aY Q (SA TK Q (TN (WN [0,3,4,7] Q Q (TQ (aG hm (λ(x9,b10,c11)=>([(41,.d (.bool (x9)))])) (λ(x9,b10,c11)=>([(0,.box 36 [.msl 1 1 0 b10.length]),(1,.flat 4 1 (b10.map D.bool)),(2,.box 3 [.d (.int .i64 c11)])])) [41] [4] Q (λz12 hm=>?_) (λj hm=>?_)))))))))))))))
  ·refine TG (SA TK Q (SA TK Q (SA TK Q (BE hm λr13 hr13 hm=>?_))));obtain⟨r14,r15,r16⟩:=r13;refine cP [0,1,2,3] (λ_=>false) Q Q Q (by decide) Q Q Q Q (ih hr13) Q Q Q ?_;refine SA TK Q (SB TK Q (λq17 hq17=>?_));cases q17
   ·replace hm:=JB hq17 hm;refine SA TK Q (SA TK Q (SA TK Q (BE hm λr18 hr18 hm=>?_)));obtain⟨r19,r20,r21⟩:=r18;refine s_on Q ?_;refine cP [0,1,2,3] (λ_=>false) Q Q Q (by decide) Q Q Q Q (ih hr18) Q Q Q ?_;refine SA TK Q (SA TK Q (SB TK Q (λq22 hq22=>?_)));cases q22
    ·replace hm:=JB hq22 hm;iterate 4 (refine SA TK Q ?_)
     exact TN (WT ⟨_,[0,1,2,3,4],(SJ hm),Q,(kB Q),Q⟩)
    replace hm:=JA hq22 hm;iterate 4 (refine SA TK Q ?_)
    exact TN (WT ⟨_,[0,1,2,3,4],(SJ hm),Q,(kB Q),Q⟩)
   replace hm:=JA hq17 hm;iterate 11 (refine SA TK Q ?_)
   exact TN (WT ⟨_,[0,1,2,3,4],(SJ hm),Q,(kB Q),Q⟩)
  obtain⟨x9,b10,c11⟩:=j;refine WN [4,41] Q Q (TC _ Q (λh23=>?_) (λh23=>?_))
  ·replace hm:=JA h23 hm;refine RS (SA TK Q (TN (WN [6] Q Q (TR (WR ?_)))));obtain⟨rfl,hmj0⟩:=Prod.mk.inj (Option.some.inj hm);obtain⟨rfl,rfl⟩:=Prod.mk.inj (hmj0);exact⟨_,[0,1,2,3],res Q,by decide,(kB Q),Q,Q⟩
  replace hm:=JB h23 hm;refine TS (WT (WN [4] Q Q (RS (SA TK Q (GE hm λg24 hm=>SX Q Q (bA Q Q Q Q g24) (SA TK Q (TN (WN [] Q Q (RS (SA TK Q (TN (WN [6] Q Q ?_))))))))))));refine TR ?_;obtain⟨rfl,hmj0⟩:=Prod.mk.inj (Option.some.inj hm);obtain⟨rfl,rfl⟩:=Prod.mk.inj (hmj0);exact⟨_,[0,1,2,3],res Q,by decide,(kB Q),Q,Q⟩
theorem lD {p0:Int} {p1:(List Bool)} {p2:Ab} {p4:Int} {r0:Bool} {r1:(List Bool)} {r2:Int} (hm:eY p0 p1 p2 p4=some (r0,r1,r2)):Ret TP 54 [.box 36 [.msl 1 1 0 p1.length],.flat 4 1 (p1.map D.bool),.box 3 [.d (.int .i64 p4)],.box 78 [.fnc 54 [.mptr 0 0 0 0,.d (.ptr (p2.enc) 0),.mptr 3 0 0 0,.mptr 2 0 0 0]]] (λ_=>false) [.d (.int .i64 p0),.mptr 0 0 0 0,.d (.ptr (p2.enc) 0),.mptr 3 0 0 0,.mptr 2 0 0 0] (.d (.bool (r0))) [.box 36 [.msl 1 1 0 r1.length],.flat 4 1 (r1.map D.bool),.box 3 [.d (.int .i64 r2)],.box 78 [.fnc 54 [.mptr 0 0 0 0,.d (.ptr (p2.enc) 0),.mptr 3 0 0 0,.mptr 2 0 0 0]]]:=kJ aO hm
theorem oM {p0:Ab} {r:Bool} (hm:eE p0=some r):RetN TP 43 [p0.enc] (.bool (r)):=by
 refine .unit (aT (bD Q) func43 Q ntmps43 Q Q (λwX gX=>?_)) Q;unfold eE at hm;refine WN [0] Q Q (RS (cS 0 Q Q Q (SA TK Q (TN (WN [1] Q Q (RS (SA TK Q (SA TK Q (SX Q Q (bI TK Q Q Q) (GE hm λg1 hm=>SX Q Q (bA Q Q Q Q g1) (GE hm λg2 hm=>qAA (f:=D.bool) (x:=false) 1 TK Q Q Q mK Q Q Q Q Q g2 Q (dF 2 Q Q fY Q ?_))))))))))));refine mO (f:=D.bool) 2 0 3 4 1 Q Q Q (SA TK Q (TN (WN [1,3] Q Q (RS (dF 4 Q Q iU Q (SA TK Q (TN (WN [1,3,4] Q Q (RS (dF 5 Q Q zero78 Q (TN (WN [1,3,4,5] Q Q (uU 0 Q Q Q Q Q ?_)))))))))))));refine RS (SX Q Q (qY Q) (SA TK Q (TN (WN [1,4,5] Q Q (aG hm (λ(x3,b4,c5)=>([(2,.d (.bool (x3)))])) (λ(x3,b4,c5)=>([(1,.flat 4 1 (b4.map D.bool)),(2,.box 36 [.msl 1 1 0 b4.length]),(4,.box 3 [.d (.int .i64 c5)])])) [2] [] Q (λz6 hm=>?_) (λj hm=>?_))))))
 ·refine TG (SA TK Q (SA TK Q (SA TK Q (BE hm λr7 hr7 hm=>?_))));obtain⟨r8,r9,r10⟩:=r7;refine cP [2,1,4,5] (λ_=>false) Q Q Q (by decide) Q Q Q Q (lD hr7) Q Q Q ?_;refine SB TK Q (λq11 hq11=>?_);cases q11
  ·replace hm:=JB hq11 hm;iterate 8 (refine SA TK Q ?_)
   exact TN (WT ⟨_,[0,1,2,3,4,5],(SJ hm),Q,k0,Q⟩)
  replace hm:=JA hq11 hm;exact SA TK Q (SA TK Q (SA TK Q (SX Q Q (bI TK Q Q Q) (GE hm λg12 hm=>SX Q Q (bA Q Q Q Q g12) (SA TK Q (SA TK Q (SA TK Q (TN (WT ⟨_,[0,1,2,3,4,5],(SJ hm),Q,k0,Q⟩)))))))))
 obtain⟨x3,b4,c5⟩:=j;refine WN [2] Q Q (TR ?_);obtain rfl:=OJ hm;exact EndsS.one _ Q (.d _) (.refl _)
theorem dN {p0:Node'} {p1:Aa} {r0:Int} {r1:Node'} (hm:aN p0 p1=some (r0,r1)):Ret TP 42 [.box 63 [.mmapN 1 p0.index.length,.msl 2 3 0 p0.list.length],.map 51 3 (aF Aa.enc (D.int .i64) p0.index),.flat 51 3 (p0.list.map Aa.enc)] (λj=>Nat.beq j 1||Nat.beq j 2) [.mptr 0 0 0 0,.d (p1.enc)] (.d (.int .i64 r0)) [.box 63 [.mmapN 1 r1.index.length,.msl 2 3 0 r1.list.length],.map 51 3 (aF Aa.enc (D.int .i64) r1.index),.flat 51 3 (r1.list.map Aa.enc)]:=by
 refine fO (bD Q) func42 Q ntmps42 Q Q (λwX gX=>?_);unfold aN at hm;refine sJ 0 0 1 Q Q Q (λhn=>?_) ?_
 ·replace hm:=xD hn hm;refine WN [0,1] Q Q (RS (cS 3 Q Q Q (SA TK Q (TN (WN [0,3] Q Q (TQ (aK follows  ?_)))))));iterate 5 (refine DA [0,1,2,3] TK Q ?_)
  refine GE hm λg1 hm=>DX [0,1,2,3] Q Q (qO gT hJ (D.int .i64) p1 (0:Int) Q lM iU Q Q Q g1) ?_;iterate 4 (refine DA [0,1,2,3] TK Q ?_)
  refine DT ?_ (by kernel_rfl);refine SA TK Q (TN (WN [0,3,5,6] Q Q (RS (SA TK Q (TN (WN [0,3,5,16] Q Q (TC false Q (λh=>by cases h) (λ_=>TS (WT (WN [0,3] Q Q (aG hm (λ_=>[]) (λ_=>([(0,.box 63 [.mmap 1,.msl 2 3 0 p0.list.length])])) [] [0,3] Q (λz2 hm=>?_) (λj hm=>?_))))))))))))
  ·refine RS ?_;iterate 4 (refine SA TK Q ?_)
   refine SX Q Q (mX Q Try.underlying61 Q Q) (TN (WN [0,3,22] Q Q ?_));refine TC true Q (λ_=>?_) (λh=>by cases h);exact TG (SA TK Q (lI (kf:=Aa.enc) (f:=(D.int .i64)) 1 51 3 Q Q (λ_=>Q) Q Q (SA TK Q (SA TK Q (SA TK Q (TN (WT ⟨_,[0,1,2,3],(SJ hm),Q,(kB Q),Q⟩)))))))
  refine WN [0,3] Q Q (aK follows  ?_);iterate 10 (refine DA [0,1,2,3] TK Q ?_)
  refine DT ?_ (by kernel_rfl);refine GE hm λg3 hm=>kQ gT hJ (D.int .i64) lM Q Q Q Q g3 (TN (WN [0,3] Q Q (aK follows  ?_)));iterate 6 (refine DA [0,1,2,3] TK Q ?_)
  refine DX [0,1,2,3] Q Q (dW [.tmp 42] TK Q Q aY Q Q Q Q Q) ?_;refine mF 0 37 ?_ ?_ Q (by kernel_rfl) (by kernel_rfl) (by kernel_rfl)
  ·refine GE hm λg4 hm=>eG (f:=Aa.enc) ([p1]:List Aa) TK Q Q aY Q Q Q Q Q (λ_=>Q) Q dX g4 Q Q (SA TK Q (SA TK Q (SA TK Q (TN (WN [0] Q Q (RS ?_))))));iterate 5 (refine SA TK Q ?_)
   refine GE hm λg5 hm=>SX Q Q (bA Q Q Q Q g5) (SA TK Q (TN (WN [4] Q Q (jF 0 0 1 (gA ([]:List (Aa×Int)) p1 (p0.list.length:Int)).length Q Q (TR ?_)))));obtain⟨rfl,rfl⟩:=Prod.mk.inj (Option.some.inj hm);exact⟨_,[0,1,2],res Q,by decide,(kB Q),Q,Q⟩
  refine GE hm λg6 hm=>eG (f:=Aa.enc) ([p1]:List Aa) TK Q Q aY Q Q Q Q Q (λ_=>Q) Q dX g6 Q Q ?_;iterate 4 (refine SA TK Q ?_)
  refine TN (WN [0] Q Q (RS ?_));iterate 5 (refine SA TK Q ?_)
  refine GE hm λg7 hm=>SX Q Q (bA Q Q Q Q g7) (SA TK Q (TN (WN [4] Q Q (jF 0 0 1 (gA ([]:List (Aa×Int)) p1 (p0.list.length:Int)).length Q Q (TR ?_)))));obtain⟨rfl,rfl⟩:=Prod.mk.inj (Option.some.inj hm);exact⟨_,[0,1,2],res Q,by decide,(kB Q),Q,Q⟩
 replace hm:=qAC hm;refine WN [0,1] Q Q (RS (cS 3 Q Q Q (SA TK Q (TN (WN [0,3] Q Q (TQ (aK follows  ?_)))))));iterate 5 (refine DA [0,1,2,3] TK Q ?_)
 refine GE hm λg8 hm=>DX [0,1,2,3] Q Q (pK gT hJ (D.int .i64) _ _ (0:Int) Q lM iU Q Q Q Q g8) ?_;iterate 4 (refine DA [0,1,2,3] TK Q ?_)
 refine DT ?_ (by kernel_rfl);refine SA TK Q (TN (WN [0,3,5,6] Q Q (RS (SA TK Q (TN (WN [0,3,5,16] Q Q (TC _ Q (λh9=>?_) (λh9=>?_))))))))
 ·replace hm:=JA h9 hm;refine RS (SA TK Q (SA TK Q (TN (WN [4] Q Q (jF 0 0 1 p0.index.length Q Q (TR (WR ?_)))))));obtain⟨rfl,rfl⟩:=Prod.mk.inj (Option.some.inj hm);exact⟨_,[0,1,2],res Q,by decide,(kB Q),Q,Q⟩
 replace hm:=JB h9 hm;refine TS (WT (WN [0,3] Q Q (aG hm (λ_=>[]) (λ_=>[]) [] [0,3] Q (λz10 hm=>?_) (λj hm=>?_))))
 ·refine RS ?_;iterate 4 (refine SA TK Q ?_)
  exact SX Q Q (mY Q Try.underlying61 Q Q) (TN (WN [0,3,22] Q Q (TC false Q (λh=>by cases h) (λ_=>TS (WT ⟨_,[0,1,2,3],(SJ hm),Q,(kB Q),Q⟩)))))
 refine WN [0,3] Q Q (aK follows  ?_);iterate 10 (refine DA [0,1,2,3] TK Q ?_)
 refine DT ?_ (by kernel_rfl);refine GE hm λg11 hm=>kQ gT hJ (D.int .i64) lM Q Q Q Q g11 (TN (WN [0,3] Q Q (aK follows  ?_)));iterate 6 (refine DA [0,1,2,3] TK Q ?_)
 refine DX [0,1,2,3] Q Q (dW [.tmp 42] TK Q Q aY Q Q Q Q Q) ?_;refine mF 0 37 ?_ ?_ Q (by kernel_rfl) (by kernel_rfl) (by kernel_rfl)
 ·refine GE hm λg12 hm=>eG (f:=Aa.enc) ([p1]:List Aa) TK Q Q aY Q Q Q Q Q (λ_=>Q) Q dX g12 Q Q (SA TK Q (SA TK Q (SA TK Q (TN (WN [0] Q Q (RS ?_))))));iterate 5 (refine SA TK Q ?_)
  refine GE hm λg13 hm=>SX Q Q (bA Q Q Q Q g13) (SA TK Q (TN (WN [4] Q Q (jF 0 0 1 (gA p0.index p1 (p0.list.length:Int)).length Q Q (TR ?_)))));obtain⟨rfl,rfl⟩:=Prod.mk.inj (Option.some.inj hm);exact⟨_,[0,1,2],res Q,by decide,(kB Q),Q,Q⟩
 refine GE hm λg14 hm=>eG (f:=Aa.enc) ([p1]:List Aa) TK Q Q aY Q Q Q Q Q (λ_=>Q) Q dX g14 Q Q ?_;iterate 4 (refine SA TK Q ?_)
 refine TN (WN [0] Q Q (RS ?_));iterate 5 (refine SA TK Q ?_)
 refine GE hm λg15 hm=>SX Q Q (bA Q Q Q Q g15) (SA TK Q (TN (WN [4] Q Q (jF 0 0 1 (gA p0.index p1 (p0.list.length:Int)).length Q Q (TR ?_)))));obtain⟨rfl,rfl⟩:=Prod.mk.inj (Option.some.inj hm);exact⟨_,[0,1,2],res Q,by decide,(kB Q),Q,Q⟩
theorem iF {p0:Ab} {r:Bool} (hm:dT p0=some r):RetN TP 19 [p0.enc] (.bool (r)):=by
 refine .unit (aT (bD Q) func19 Q ntmps19 Q Q (λwX gX=>?_)) Q;unfold dT at hm;refine WN [0] Q Q (RS (cS 0 Q Q Q (SA TK Q (TN (WN [1] Q Q (TQ (RS (SA TK Q (SA TK Q (SX Q Q (bI TK Q Q Q) (SA TK Q (TN (WN [1,9] Q Q (TC _ Q (λh1=>?_) (λh1=>?_)))))))))))))))
 ·replace hm:=JT h1 hm;refine RS (SA TK Q (TN (WN [2] Q Q (TR (WR ?_)))));obtain rfl:=OJ hm;exact EndsS.one _ Q (.d _) (.refl _)
 replace hm:=JF h1 hm;refine TS (WT (WN [1] Q Q (RS (dF 1 Q Q zero63 Q (uG (kf:=Aa.enc) (f:=(D.int .i64)) 1 0 2 51 3 Q Q Q (mO (f:=Aa.enc) 1 1 3 51 3 Q Q Q (TN (WN [1,3] Q Q (cO hm (λ(m2,b3)=>[]) (λ(m2,b3)=>([(1,.box 63 [.mmapN 2 m2.length,.msl 3 3 0 b3.length]),(2,.map 51 3 (aF Aa.enc (D.int .i64) m2)),(3,.flat 51 3 (b3.map Aa.enc))])) [] [1] Q (λz4 hm hz4=>?_) (λj hm=>?_))))))))))
 ·refine RS (SA TK Q (SA TK Q (SX Q Q (bI TK Q Q Q) (SA TK Q (TN (WN [1,3,11,12,13] Q Q (TB (bT hm (λ(x9,b10,b11)=>([(13,.d (.int .i64 x9))])) (λ(x9,b10,b11)=>([(1,.box 63 [.mmapN 2 b10.length,.msl 3 3 0 b11.length]),(2,.map 51 3 (aF Aa.enc (D.int .i64) b10)),(3,.flat 51 3 (b11.map Aa.enc))])) [13] [1,3,11,12] [0,1,2,3] Q k0 Q Q Q Q Q (λs z12 hm hz12=>?_)))))))));obtain⟨x9,b10,b11⟩:=s;refine WN [1,3,11,12,13] Q Q (RS (SA TK Q (TN (WN [1,3,11,12,13,14] Q Q (TQ (TC _ Q (λh13=>?_) (λh13=>?_)))))))
  ·replace hm:=JT h13 hm;refine TS (WT (WN [1,3,11,12,13] Q Q (TQ (TB (RS (SA TK Q (VE hm λe14 he14 hm=>SX Q Q (dD TK Q Q Q Q he14) (SA TK Q (dF 4 Q Q aY Q (SA TK Q (SA TK Q (TN (WN [1,3,4,5,11,12,13] Q Q ?_)))))))))))));refine TQ (aG hm (λx15=>([(48,.d (.bool (x15)))])) (λx15=>[]) [48] [1,3,4,5,11,12,13] Q (λz16 hm=>?_) (λx15 hm=>?_))
   ·refine TG (SA TK Q (SA TK Q (SA TK Q (SB TK Q (λq17 hq17=>?_)))));cases q17
    ·replace hm:=JF hq17 hm;iterate 4 (refine SA TK Q ?_)
     refine SB TK Q (λq18 hq18=>?_);cases q18
     ·replace hm:=JF hq18 hm;iterate 6 (refine SA TK Q ?_)
      refine SB TK Q (λq19 hq19=>?_);cases q19
      ·replace hm:=JF hq19 hm;iterate 4 (refine SA TK Q ?_)
       refine c_N hm (lQ ·) Q Q Q Q λr20 hm=>SA TK Q (SA TK Q (SB TK Q (λq21 hq21=>?_)));cases q21
       ·replace hm:=JB hq21 hm;iterate 4 (refine SA TK Q ?_)
        exact c_N hm (lQ ·) Q Q Q Q λr22 hm=>SA TK Q (SA TK Q (TN (WT ⟨_,[0,1,2,3,4],(SJ hm),Q,k0,Q⟩)))
       replace hm:=JA hq21 hm;iterate 7 (refine SA TK Q ?_)
       exact TN (WT ⟨_,[0,1,2,3,4],(SJ hm),Q,k0,Q⟩)
      replace hm:=JT hq19 hm;iterate 15 (refine SA TK Q ?_)
      exact TN (WT ⟨_,[0,1,2,3,4],(SJ hm),Q,k0,Q⟩)
     replace hm:=JT hq18 hm;iterate 22 (refine SA TK Q ?_)
     exact TN (WT ⟨_,[0,1,2,3,4],(SJ hm),Q,k0,Q⟩)
    replace hm:=JT hq17 hm;iterate 27 (refine SA TK Q ?_)
    exact TN (WT ⟨_,[0,1,2,3,4],(SJ hm),Q,k0,Q⟩)
   refine WN [1,3,4,5,11,12,13,48] Q Q (TC _ Q (λh23=>?_) (λh23=>?_))
   ·replace hm:=JA h23 hm;refine RS (SA TK Q (TN (WN [2] Q Q (TR (WR (WB (WR (IE hm λv24 hm hz=>?_))))))));rw [hz12 _ hz] at hm;refine WR (WB (IE hm λv25 hm hz=>?_));rw [hz4 _ hz] at hm;refine WR ?_;obtain rfl:=OJ hm;exact EndsS.one _ Q (.d _) (.refl _)
   replace hm:=JB h23 hm;refine TS (WT (WN [1,3,4,5,11,12,13] Q Q (RS (SA TK Q (BE hm λr26 hr26 hm=>?_)))));obtain⟨r27,r28⟩:=r26;refine cP [1,2,3] (λj=>Nat.beq j 1||Nat.beq j 2) Q Q Q (by decide) Q Q Q Q (dN hr26) Q Q Q ?_;refine SA TK Q (SA TK Q (TN (WN [1,3,11,12,13,52] Q Q (TC _ Q (λh29=>?_) (λh29=>?_)))))
   ·replace hm:=hO h29 hm;refine RS (SA TK Q (TN (WN [2] Q Q (TR (WB (WR (IE hm λv30 hm hz=>?_)))))));rw [hz12 _ hz] at hm;refine WR (WB (IE hm λv31 hm hz=>?_));rw [hz4 _ hz] at hm;refine WR ?_;obtain rfl:=OJ hm;exact EndsS.one _ Q (.d _) (.refl _)
   replace hm:=hP h29 hm;exact TS (WK (WT (WN [1,3,11,12,13] Q Q (TG (GE hm λg32 hm=>SX Q Q (bA Q Q Q Q g32) (SA TK Q (TN (WT ⟨_,[0,1,2,3],(SJ hm),Q,k0,Q⟩))))))))
  replace hm:=JF h13 hm;refine aU (WX (IE hm λv33 hm hz=>?_));rw [hz12 _ hz] at hm;exact WX (WH (WT ⟨_,[0,1,2,3],(SJ hm),Q,k0,Q⟩))
 obtain⟨m2,b3⟩:=j;refine WN [1] Q Q (TQ (RS (SA TK Q (SA TK Q (SX Q Q (bI TK Q Q Q) (SA TK Q (TN (WN [1,57] Q Q (TC _ Q (λh34=>?_) (λh34=>?_))))))))))
 ·replace hm:=JT h34 hm;refine fK [(2,.d (.bool (((decide (p0.root=(0:Int)))||(decide (p0.root=(1:Int)))))))] [2] [] Q ?_ ?_
  ·refine TG (SA TK Q (SA TK Q (SA TK Q (SB TK Q (λq35 hq35=>?_)))));cases q35
   ·iterate 5 (refine SA TK Q ?_)
    refine TN (WT ?_);exact⟨[0,1,2,3],Q,k0,bU (aQ (aR (by first|(simp [hq35];done)|(simp only [hq35];simp))) Q) Q⟩
   iterate 5 (refine SA TK Q ?_)
   refine TN (WT ?_);exact⟨[0,1,2,3],Q,k0,bU (aQ (aR (by first|(simp [hq35];done)|(simp only [hq35];simp))) Q) Q⟩
  refine WN [2] Q Q (TR (WR ?_));obtain rfl:=OJ hm;exact EndsS.one _ Q (.d _) (.refl _)
 replace hm:=JF h34 hm;refine TS (WT (WN [1] Q Q (aG hm (λx36=>([(2,.d (.bool (x36)))])) (λx36=>[]) [2] [] Q (λz37 hm=>?_) (λx36 hm=>?_))))
 ·refine TG ?_;iterate 4 (refine SA TK Q ?_)
  refine SX Q Q (bI TK Q Q Q) (GE hm λg38 hm=>SX Q Q (bA Q Q Q Q g38) (SA TK Q (SB TK Q (λq39 hq39=>?_))));cases q39
  ·replace hm:=JF hq39 hm;iterate 4 (refine SA TK Q ?_)
   exact TN (WT ⟨_,[0,1,2,3],(SJ hm),Q,k0,Q⟩)
  replace hm:=JT hq39 hm;exact SA TK Q (c_N hm (oM ·) Q Q Q Q λr40 hm=>SA TK Q (SA TK Q (TN (WT ⟨_,[0,1,2,3],(SJ hm),Q,k0,Q⟩))))
 refine WN [2] Q Q (TR ?_);obtain rfl:=OJ hm;exact EndsS.one _ Q (.d _) (.refl _)
theorem lR {p0:Ab} {p1:Int} {r:Bool} (hm:eP p0 p1=some r):RetN TP 38 [p0.enc,.int .i64 p1] (.bool (r)):=by
 refine .unit (aT (bD Q) func38 Q ntmps38 Q Q (λwX gX=>?_)) Q;unfold eP at hm;refine WN [0,1] Q Q (RS (cS 0 Q Q Q (SA TK Q (TN (WN [1,2] Q Q (cO hm (λ_=>[]) (λ_=>[]) [] [] Q (λz1 hm hz1=>?_) (λj hm=>?_)))))))
 ·refine RS (SA TK Q (SA TK Q (SX Q Q (bI TK Q Q Q) (SA TK Q (TN (WN [1,8,9,10] Q Q (TB (bT hm (λx3=>([(10,.d (.int .i64 x3))])) (λx3=>[]) [10] [1,8,9] [0] Q k0 Q Q Q Q Q (λx3 z4 hm hz4=>WN [1,8,9,10] Q Q (RS (SA TK Q (TN (WN [1,8,9,10,11] Q Q (TQ (TC _ Q (λh5=>?_) (λh5=>?_))))))))))))))))
  ·replace hm:=JT h5 hm;refine TS (WT (WN [1,8,9,10] Q Q (TQ (TB (RS (VE hm λe6 he6 hm=>SX Q Q (dD TK Q Q Q Q he6) (SA TK Q (dF 1 Q Q aY Q (SA TK Q (TN (WN [1,6,8,9,10] Q Q (RS ?_))))))))))));iterate 4 (refine SA TK Q ?_)
   refine TN (WN [1,8,9,10,17] Q Q (TC _ Q (λh7=>?_) (λh7=>?_)))
   ·replace hm:=JT h7 hm;refine RS (SA TK Q (TN (WN [4] Q Q (TR (WB (WR (IE hm λv8 hm hz=>?_)))))));rw [hz4 _ hz] at hm;refine WR (WB (IE hm λv9 hm hz=>?_));rw [hz1 _ hz] at hm;refine WR ?_;obtain rfl:=OJ hm;exact EndsS.one _ Q (.d _) (.refl _)
   replace hm:=JF h7 hm;exact TS (WK (WT (WN [1,8,9,10] Q Q (TG (GE hm λg10 hm=>SX Q Q (bA Q Q Q Q g10) (SA TK Q (TN (WT ⟨_,[0],(SJ hm),Q,k0,Q⟩))))))))
  replace hm:=JF h5 hm;refine aU (WX (IE hm λv11 hm hz=>?_));rw [hz4 _ hz] at hm;exact WX (WH (WT ⟨_,[0],(SJ hm),Q,k0,Q⟩))
 refine WN [] Q Q (RS (SA TK Q (TN (WN [4] Q Q (TR ?_)))));obtain rfl:=OJ hm;exact EndsS.one _ Q (.d _) (.refl _)
theorem eZ {p0:Int} {p1:Int} {p2:Ab} {r:Int} (hm:cE p0 p1 p2=some r):RetN TP 40 [.int .i64 p0,.ptr (.agg [.int .i64 p1]) 0,.ptr (p2.enc) 0] (.int .i64 r):=by
 refine .unit (aT (bD Q) func40 Q ntmps40 Q Q (λwX gX=>?_)) Q;unfold cE at hm;refine WN [0,1,2] Q Q (RS (SA TK Q (TN (WN [0,1,2] Q Q (TQ (RS (SA TK Q (SA TK Q (TN (WN [0,1,2,6] Q Q (TC _ Q (λh1=>?_) (λh1=>?_))))))))))))
 ·replace hm:=JT h1 hm;refine RS (SA TK Q (SA TK Q (TN (WN [4] Q Q (TR (WR ?_))))));obtain rfl:=OJ hm;exact EndsS.one _ Q (.d _) (.refl _)
 replace hm:=JF h1 hm;refine TS (WT (WN [0,2] Q Q (RS (SA TK Q (SA TK Q (SA TK Q (GE hm λg2 hm=>SX Q Q (bA Q Q Q Q g2) (VE hm λe3 he3 hm=>SX Q Q (dD TK Q Q Q Q he3) (SA TK Q (SA TK Q (SA TK Q (TN (WN [4] Q Q (TR ?_))))))))))))));obtain rfl:=OJ hm;exact EndsS.one _ Q (.d _) (.refl _)
theorem sL {p0:Ab} {p1:Int} {r0:Int} {r1:Int} (hm:cD p0 p1=some (r0,r1)):Ret TP 17 [] (λ_=>false) ([p0.enc,.int .i64 p1].map .d) (.tup ([.int .u64 r0,.int .i64 r1].map .d)) []:=by
 refine cY (bD Q) func17 Q ntmps17 Q Q (λwX gX=>?_);unfold cD at hm;refine WN [0,1] Q Q (RS (cS 0 Q Q Q (cS 1 Q Q Q (SA TK Q (SA TK Q (TN (WN [2,3] Q Q (TQ ?_))))))));refine fK [(17,.d (.bool (((decide (p1 < (0:Int)))||(decide ((62:Int) < p1))))))] [17] [2,3] Q ?_ ?_
 ·refine TG (SA TK Q (SA TK Q (SB TK Q (λq1 hq1=>?_))));cases q1
  ·refine SA TK Q (SA TK Q (SA TK Q (TN (WT ?_))));exact⟨[0,1],Q,k0,bU (aQ (aR (by first|(simp [hq1];done)|(simp only [hq1];simp))) Q) Q⟩
  refine SA TK Q (SA TK Q (SA TK Q (TN (WT ?_))));exact⟨[0,1],Q,k0,bU (aQ (aR (by first|(simp [hq1];done)|(simp only [hq1];simp))) Q) Q⟩
 refine WN [2,3,17] Q Q (TC _ Q (λh2=>?_) (λh2=>?_))
 ·replace hm:=JA h2 hm;refine RS (SA TK Q (SA TK Q (TN (WN [4,5] Q Q (TR (WR ?_))))));obtain⟨rfl,rfl⟩:=Prod.mk.inj (Option.some.inj hm);exact EndsT.two Q (.d _) (.refl _) (.d _) (.refl _)
 replace hm:=JB h2 hm;refine TS (WT (WN [2,3] Q Q (TQ (aG hm (λx3=>([(26,.d (.bool (x3)))])) (λx3=>[]) [26] [2,3] Q (λz4 hm=>?_) (λx3 hm=>?_)))))
 ·refine TG (SA TK Q (c_N hm (iF ·) Q Q Q Q λr5 hm=>SA TK Q (SB TK Q (λq6 hq6=>?_))));cases q6
  ·replace hm:=JB hq6 hm;exact SA TK Q (SA TK Q (c_N hm (lR ·) Q Q Q Q λr7 hm=>SA TK Q (SA TK Q (TN (WT ⟨_,[0,1],(SJ hm),Q,k0,Q⟩)))))
  replace hm:=JA hq6 hm;iterate 5 (refine SA TK Q ?_)
  exact TN (WT ⟨_,[0,1],(SJ hm),Q,k0,Q⟩)
 refine WN [2,3,26] Q Q (TC _ Q (λh8=>?_) (λh8=>?_))
 ·replace hm:=JA h8 hm;refine RS (SA TK Q (SA TK Q (TN (WN [4,5] Q Q (TR (WR ?_))))));obtain⟨rfl,rfl⟩:=Prod.mk.inj (Option.some.inj hm);exact EndsT.two Q (.d _) (.refl _) (.d _) (.refl _)
 replace hm:=JB h8 hm;refine TS (WT (WN [2,3] Q Q (RS (s_litO (f:=(D.int .u64)) 2 [.const (Value.int IntKind.u64 0),.const (Value.int IntKind.u64 1)] ([(0:Int),(1:Int)]:List Int) TK Q Q Q sQ Q Q Q Q Q (SA TK Q (TN (WN [2,3,6] Q Q (uU 1 Q Q Q Q Q (uU 0 Q Q Q Q Q (RS (SA TK Q (SA TK Q (TN (WN [2,6,7] Q Q (aG hm (λb9=>([(6,.msl 2 1 0 b9.length)])) (λb9=>([(2,.flat 39 1 (b9.map (D.int .u64)))])) [6] [2,7] Q (λz10 hm=>?_) (λb9 hm=>?_))))))))))))))))
 ·refine RS (SA TK Q (SA TK Q (SX Q Q (bI TK Q Q Q) (SA TK Q (TN (WN [2,6,7,30,31,32] Q Q (TB (bT hm (λ(x14,b15)=>([(6,.msl 2 1 0 b15.length),(32,.d (.int .i64 x14))])) (λ(x14,b15)=>([(2,.flat 39 1 (b15.map (D.int .u64)))])) [6,32] [2,7,30,31] [0,1,2] Q k0 Q Q Q Q Q (λs z16 hm hz16=>?_)))))))));obtain⟨x14,b15⟩:=s;refine WN [2,6,7,30,31,32] Q Q (RS (SA TK Q (TN (WN [2,6,7,30,31,32,33] Q Q (TQ (TC _ Q (λh17=>?_) (λh17=>?_)))))))
  ·replace hm:=JT h17 hm;refine TS (WT (WN [2,6,7,30,31,32] Q Q (TQ (TB (RS (VE hm λe18 he18 hm=>SX Q Q (dD TK Q Q Q Q he18) (SA TK Q (dF 3 Q Q aY Q (SA TK Q (TN (WN [2,6,7,9,30,31,32] Q Q (aK follows  ?_))))))))))));iterate 3 (refine DA [0,1,2,3] TK Q ?_)
   refine VE hm λe19 he19 hm=>DX [0,1,2,3] Q Q (lF TK Q Q Q Q he19 Q) (DX [0,1,2,3] Q Q (oQ TK Q Q Q Q he19.2 Q) ?_);iterate 3 (refine DA [0,1,2,3] TK Q ?_)
   refine BE hm λr20 hr20 hm=>DX [0,1,2,3] Q Q (nA (ds:=[.int .i64 e18.lo]) Q Q Q Q ((eZ hr20).retD)) ?_;iterate 2 (refine DA [0,1,2,3] TK Q ?_)
   refine GE hm λg21 hm=>DX [0,1,2,3] Q Q (bA Q Q Q Q g21) (GE hm λg22 hm=>DX [0,1,2,3] Q Q (bA Q Q Q Q g22) (GE hm λg23 hm=>DX [0,1,2,3] Q Q (mM Q Q Q Q g23) ?_));refine DT ?_ (by kernel_rfl);refine SA TK Q (TN (WN [2,6,7,9,10,30,31,32] Q Q (aK follows  ?_)));iterate 3 (refine DA [0,1,2,3] TK Q ?_)
   refine VE hm λe24 he24 hm=>DX [0,1,2,3] Q Q (lF TK Q Q Q Q he24 Q) (DX [0,1,2,3] Q Q (oQ TK Q Q Q Q he24.2 Q) ?_);iterate 3 (refine DA [0,1,2,3] TK Q ?_)
   refine BE hm λr25 hr25 hm=>DX [0,1,2,3] Q Q (nA (ds:=[.int .i64 e18.hi]) Q Q Q Q ((eZ hr25).retD)) ?_;iterate 2 (refine DA [0,1,2,3] TK Q ?_)
   refine GE hm λg26 hm=>DX [0,1,2,3] Q Q (bA Q Q Q Q g26) (GE hm λg27 hm=>DX [0,1,2,3] Q Q (bA Q Q Q Q g27) (GE hm λg28 hm=>DX [0,1,2,3] Q Q (mM Q Q Q Q g28) ?_));refine DT ?_ (by kernel_rfl);refine SA TK Q (TN (WN [2,6,7,10,11,30,31,32] Q Q (TG (SA TK Q (SA TK Q (SA TK Q (SX Q Q (oR Q Q Q Q) (SX Q Q (dW [.tmp 67] TK Q Q sQ Q Q Q Q Q) (GE hm λg29 hm=>eG (f:=(D.int .u64)) ([(IntKind.u64.wrap ((IntKind.u64.wrap (e19 * (2 ^ (min ((r20 - e18.var) - (1:Int)).toNat IntKind.u64.bits))))+(IntKind.u64.wrap (e24 * (2 ^ (min ((r25 - e18.var) - (1:Int)).toNat IntKind.u64.bits))))))]:List Int) TK Q Q sQ Q Q Q Q Q (λh=>absurd h (zQV _)) Q dX g29 Q Q (SA TK Q (TN (WK (WT (WN [2,6,7,30,31,32] Q Q ?_))))))))))))));exact TG (GE hm λg30 hm=>SX Q Q (bA Q Q Q Q g30) (SA TK Q (TN (WT ⟨_,[0,1,2],(SJ hm),Q,k0,Q⟩))))
  replace hm:=JF h17 hm;refine aU (WX (IE hm λv31 hm hz=>?_));rw [hz16 _ hz] at hm;exact WX (WH (WT ⟨_,[0,1,2],(SJ hm),Q,k0,Q⟩))
 refine WN [2,6,7] Q Q (aK follows  ?_);iterate 3 (refine DA [0,1,2] TK Q ?_)
 refine VE hm λe32 he32 hm=>DX [0,1,2] Q Q (lF TK Q Q Q Q he32 Q) (DX [0,1,2] Q Q (oQ TK Q Q Q Q he32.2 Q) ?_);iterate 3 (refine DA [0,1,2] TK Q ?_)
 refine BE hm λr33 hr33 hm=>DX [0,1,2] Q Q (nA (ds:=[.int .i64 p0.root]) Q Q Q Q ((eZ hr33).retD)) (GE hm λg34 hm=>DX [0,1,2] Q Q (mM Q Q Q Q g34) ?_);refine DT ?_ (by kernel_rfl);refine SA TK Q (SA TK Q (TN (WN [4,5] Q Q (TR ?_))));obtain⟨rfl,rfl⟩:=Prod.mk.inj (Option.some.inj hm);exact EndsT.two Q (.d _) (.refl _) (.d _) (.refl _)
theorem lT {p0:Ab} {p1:Int} {r0:Int} {r1:Int} (hm:cD p0 p1=some (r0,r1)):RetT TP 17 [p0.enc,.int .i64 p1] [.int .u64 r0,.int .i64 r1]:=.of (mv:=λ_=>false) (sL hm)
theorem lS {p0:Ab} {p1:Int} {r0:(List Bool)} {r1:Bool} (hm:bX p0 p1=some (r0,r1)):RetT TP 15 [p0.enc,.int .i64 p1] [.sl 1 (r0.map D.bool),.bool (r1)]:=by
 refine .of (mv:=λ_=>false) (cY (bD Q) func15 Q ntmps15 Q Q (λwX gX=>?_));unfold bX at hm;refine WN [0,1] Q Q (RS (cS 0 Q Q Q (SA TK Q (SA TK Q (TN (WN [1,2] Q Q (TQ (aG hm (λx1=>([(30,.d (.bool (x1)))])) (λx1=>[]) [30] [1,2] Q (λz2 hm=>?_) (λx1 hm=>?_)))))))))
 ·refine TG (SA TK Q (SA TK Q (SB TK Q (λq3 hq3=>?_))));cases q3
  ·replace hm:=JF hq3 hm;refine SA TK Q (SA TK Q (SA TK Q (SB TK Q (λq4 hq4=>?_))));cases q4
   ·replace hm:=JF hq4 hm;refine SA TK Q (c_N hm (iF ·) Q Q Q Q λr5 hm=>SA TK Q (SA TK Q (SB TK Q (λq6 hq6=>?_))));cases q6
    ·replace hm:=JB hq6 hm;refine SA TK Q (SA TK Q (c_N hm (lR ·) Q Q Q Q λr7 hm=>SA TK Q (SA TK Q (SB TK Q (λq8 hq8=>?_)))));cases q8
     ·replace hm:=JB hq8 hm;iterate 4 (refine SA TK Q ?_)
      exact TN (WT ⟨_,[0],(SJ hm),Q,k0,Q⟩)
     replace hm:=JA hq8 hm;iterate 4 (refine SA TK Q ?_)
     exact TN (WT ⟨_,[0],(SJ hm),Q,k0,Q⟩)
    replace hm:=JA hq6 hm;iterate 10 (refine SA TK Q ?_)
    exact TN (WT ⟨_,[0],(SJ hm),Q,k0,Q⟩)
   replace hm:=JT hq4 hm;iterate 15 (refine SA TK Q ?_)
   exact TN (WT ⟨_,[0],(SJ hm),Q,k0,Q⟩)
  replace hm:=JT hq3 hm;iterate 19 (refine SA TK Q ?_)
  exact TN (WT ⟨_,[0],(SJ hm),Q,k0,Q⟩)
 refine WN [1,2,30] Q Q (TC _ Q (λh9=>?_) (λh9=>?_))
 ·replace hm:=JA h9 hm;refine RS (SA TK Q (SA TK Q (TN (c_wk 4 [some 1] Q (WN [4,5] Q Q (TR (WR ?_)))))));obtain⟨rfl,rfl⟩:=Prod.mk.inj (Option.some.inj hm);exact EndsT.two Q (.d _) (.refl _) (.d _) (.refl _)
 replace hm:=JB h9 hm;refine TS (WT (WN [1,2] Q Q (RS (SA TK Q (GE hm λg10 hm=>qAA (f:=D.bool) (x:=false) 1 TK Q Q Q mK Q Q Q Q Q g10 Q (SA TK Q (TN (WN [2,6] Q Q (RS (SA TK Q (SA TK Q (SA TK Q (TN (WN [2,6,7] Q Q (aG hm (λb11=>([(6,.msl 1 1 0 b11.length)])) (λb11=>([(1,.flat 4 1 (b11.map D.bool))])) [6] [] Q (λz12 hm=>?_) (λb11 hm=>?_))))))))))))))))
 ·refine TB (bT hm (λ(at16,b17)=>([(6,.msl 1 1 0 b17.length),(7,.d (.int .i64 at16))])) (λ(at16,b17)=>([(1,.flat 4 1 (b17.map D.bool))])) [6,7] [2] [0,1] Q k0 Q Q Q Q Q (λs z18 hm hz18=>?_));obtain⟨at16,b17⟩:=s;refine WN [2,6,7] Q Q (TQ (RS (SA TK Q (SA TK Q (TN (WN [2,6,7,36] Q Q (TC _ Q (λh19=>?_) (λh19=>?_))))))))
  ·replace hm:=JT h19 hm;refine TS (WT (WN [2,6,7] Q Q (TB (RS (SA TK Q (SA TK Q (SA TK Q (GE hm λg20 hm=>SX Q Q (bA Q Q Q Q g20) (VE hm λe21 he21 hm=>SX Q Q (dD TK Q Q Q Q he21) (SA TK Q (dF 2 Q Q aY Q (SA TK Q (TN ?_)))))))))))));refine WN [2,6,8] Q Q (RS (SA TK Q (SA TK Q (SA TK Q (TN (WN [2,6,8,45] Q Q (TC _ Q (λh22=>?_) (λh22=>?_))))))))
   ·replace hm:=hO h22 hm;exact TG (SA TK Q (SA TK Q (SA TK Q (TN (WK (WT ⟨_,[0,1],(SJ hm),Q,k0,Q⟩))))))
   replace hm:=hP h22 hm;exact RS (SA TK Q (SA TK Q (SA TK Q (VE hm λe23 he23 hm=>SX Q Q (lF TK Q Q Q Q he23 Q) (zZ (x':=true) TK Q Q Q Q Q he23.2 Q Q Q (wM 6 (b17.set e21.var.toNat true).length Q List.length_set.symm (wM 48 (b17.set e21.var.toNat true).length Q List.length_set.symm (TN (WN [2,6,8] Q Q (TG (SA TK Q (SA TK Q (SA TK Q (TN (WK (WT ⟨_,[0,1],(SJ hm),Q,k0,Q⟩))))))))))))))))
  replace hm:=JF h19 hm;refine aU (WX (IE hm λv24 hm hz=>?_));rw [hz18 _ hz] at hm;exact WX (WH (WT ⟨_,[0,1],(SJ hm),Q,k0,Q⟩))
 refine WN [6] Q Q (RS (SA TK Q (SA TK Q (SA TK Q (TN (WN [4,5] Q Q (TR ?_)))))));obtain⟨rfl,rfl⟩:=Prod.mk.inj (Option.some.inj hm);exact EndsT.two Q (dY Q) (.refl _) (.d _) (.refl _)
theorem pQ {p0:Ab} {p1:Ab} {r:Bool} (hm:jI p0 p1=some r):RetN TP 13 [p0.enc,p1.enc] (.bool (r)):=by
 refine .unit (aT (bD Q) func13 Q ntmps13 Q Q (λwX gX=>?_)) Q;unfold jI at hm;refine WN [0,1] Q Q (RS (cS 0 Q Q Q (cS 1 Q Q Q (SA TK Q (TN (WN [2,3] Q Q (TQ ?_)))))));refine fK [(19,.d (.bool (((!(decide ((p0.nodes.length:Int)=(p1.nodes.length:Int))))||(!(decide (p0.root=p1.root)))))))] [19] [2,3] Q ?_ ?_
 ·refine TG (SA TK Q (SA TK Q (SX Q Q (bI TK Q Q Q) (SA TK Q (SA TK Q (SX Q Q (bI TK Q Q Q) (SA TK Q (SB TK Q (λq1 hq1=>?_)))))))));cases q1
  ·iterate 6 (refine SA TK Q ?_)
   refine TN (WT ?_);exact⟨[0,1],Q,k0,bU (aQ (aR (by first|(simp [hq1];done)|(simp only [hq1];simp))) Q) Q⟩
  iterate 6 (refine SA TK Q ?_)
  refine TN (WT ?_);exact⟨[0,1],Q,k0,bU (aQ (aR (by first|(simp [hq1];done)|(simp only [hq1];simp))) Q) Q⟩
 refine WN [2,3,19] Q Q (TC _ Q (λh2=>?_) (λh2=>?_))
 ·replace hm:=JA h2 hm;refine RS (SA TK Q (TN (WN [4] Q Q (TR (WR ?_)))));obtain rfl:=OJ hm;exact EndsS.one _ Q (.d _) (.refl _)
 replace hm:=JB h2 hm;refine TS (WT (WN [2,3] Q Q (cO hm (λ_=>[]) (λ_=>[]) [] [] Q (λz3 hm hz3=>?_) (λj hm=>?_))))
 ·refine RS (SA TK Q (SA TK Q (SX Q Q (bI TK Q Q Q) (SA TK Q (TN (WN [2,3,22,23] Q Q (TB (bT hm (λx5=>([(23,.d (.int .i64 x5))])) (λx5=>[]) [23] [2,3,22] [0,1] Q k0 Q Q Q Q Q (λx5 z6 hm hz6=>WN [2,3,22,23] Q Q (RS (SA TK Q (TN (WN [2,3,22,23,24] Q Q (TQ (TC _ Q (λh7=>?_) (λh7=>?_))))))))))))))))
  ·replace hm:=JT h7 hm;refine TS (WT (WN [2,3,22,23] Q Q (TQ (TB (RS (SA TK Q (SA TK Q (TN (WN [2,3,5,22,23] Q Q (aK follows  ?_))))))))));iterate 3 (refine DA [0,1] TK Q ?_)
   refine VE hm λe8 he8 hm=>DX [0,1] Q Q (dD TK Q Q Q Q he8) ?_;iterate 4 (refine DA [0,1] TK Q ?_)
   refine VE hm λe9 he9 hm=>DX [0,1] Q Q (dD TK Q Q Q Q he9) (DA [0,1] TK Q (GE hm λg10 hm=>DX [0,1] Q Q (zW Q Q Q g10.1 g10.2) ?_));refine DT ?_ (by kernel_rfl);refine TN (WN [2,3,22,23,36] Q Q (TC _ Q (λh12=>?_) (λh12=>?_)))
   ·replace hm:=hO h12 hm;refine RS (SA TK Q (TN (WN [4] Q Q (TR (WB (WR (IE hm λv13 hm hz=>?_)))))));rw [hz6 _ hz] at hm;refine WR (WB (IE hm λv14 hm hz=>?_));rw [hz3 _ hz] at hm;refine WR ?_;obtain rfl:=OJ hm;exact EndsS.one _ Q (.d _) (.refl _)
   replace hm:=hP h12 hm;exact TS (WK (WT (WN [2,3,22,23] Q Q (TG (GE hm λg15 hm=>SX Q Q (bA Q Q Q Q g15) (SA TK Q (TN (WT ⟨_,[0,1],(SJ hm),Q,k0,Q⟩))))))))
  replace hm:=JF h7 hm;refine aU (WX (IE hm λv16 hm hz=>?_));rw [hz6 _ hz] at hm;exact WX (WH (WT ⟨_,[0,1],(SJ hm),Q,k0,Q⟩))
 refine WN [] Q Q (RS (SA TK Q (TN (WN [4] Q Q (TR ?_)))));obtain rfl:=OJ hm;exact EndsS.one _ Q (.d _) (.refl _)
theorem jB  {r:Bool} (hm:eC=some r):RetN TP 10 [] (.bool (r)):=by
 refine .unit (aT (bD Q) func10 Q ntmps10 Q Q (λwX gX=>?_)) Q;unfold eC at hm;refine WN [] Q Q (RS (SA TK Q (TN (WN [] Q Q (RS (c_D hm (nG ·) Q Q Q Q λr1 hm=>c_D hm (nG ·) Q Q Q Q λr2 hm=>SX Q Q (x_litE (f:=Ac.Ah) (xs:=([r1,r2]:List Ac)) [.tmp 8,.tmp 9] TK Q Q mL Q (evD_of Q (pE (Ac.Af _) (pE (Ac.Af _) xR))) Q (vK Ac.Ai) Q) (SX Q Q (bE Q qAB mL Q Q Q Q) (BE hm λr3 hr3 hm=>?_))))))));obtain⟨r4,r5⟩:=r3;refine SX Q Q (cN Q Q Q (yF hr3)) (SA TK Q (SA TK Q (SA TK Q (dF 0 Q Q bN Q (gK 0 [some 3,none] Q Q (SA TK Q (SA TK Q (TN (WN [1,2] Q Q (RS (SA TK Q (BE hm λr6 hr6 hm=>?_))))))))))));obtain⟨r7,r8⟩:=r6;refine SX Q Q (cN Q Q Q (lT hr6)) ?_;iterate 5 (refine SA TK Q ?_)
 refine TN (WN [1,2,3,4] Q Q (RS (SA TK Q (BE hm λr9 hr9 hm=>?_))));obtain⟨r10,r11⟩:=r9;refine SX Q Q (cN Q Q Q (lS hr9)) ?_;iterate 5 (refine SA TK Q ?_)
 refine TN (WN [1,2,3,4,5,6] Q Q (aG hm (λx12=>([(0,.d (.bool (x12)))])) (λx12=>[]) [0] [] Q (λz13 hm=>?_) (λx12 hm=>?_)))
 ·refine TG (SA TK Q (SA TK Q (SB TK Q (λq14 hq14=>?_))));cases q14
  ·replace hm:=JF hq14 hm;iterate 38 (refine SA TK Q ?_)
   exact TN (WT ⟨_,[0],(SJ hm),Q,k0,Q⟩)
  replace hm:=JT hq14 hm;refine SA TK Q (SA TK Q (SA TK Q (SB TK Q (λq15 hq15=>?_))));cases q15
  ·replace hm:=JF hq15 hm;iterate 34 (refine SA TK Q ?_)
   exact TN (WT ⟨_,[0],(SJ hm),Q,k0,Q⟩)
  replace hm:=JT hq15 hm;refine SA TK Q (SA TK Q (SA TK Q (SB TK Q (λq16 hq16=>?_))));cases q16
  ·replace hm:=JF hq16 hm;iterate 30 (refine SA TK Q ?_)
   exact TN (WT ⟨_,[0],(SJ hm),Q,k0,Q⟩)
  replace hm:=JT hq16 hm;refine SA TK Q (SA TK Q (SB TK Q (λq17 hq17=>?_)));cases q17
  ·replace hm:=JB hq17 hm;iterate 27 (refine SA TK Q ?_)
   exact TN (WT ⟨_,[0],(SJ hm),Q,k0,Q⟩)
  replace hm:=JA hq17 hm;refine SA TK Q (SX Q Q (bI TK Q Q Q) (SA TK Q (SA TK Q (SB TK Q (λq18 hq18=>?_)))));cases q18
  ·replace hm:=JF hq18 hm;iterate 22 (refine SA TK Q ?_)
   exact TN (WT ⟨_,[0],(SJ hm),Q,k0,Q⟩)
  replace hm:=JT hq18 hm;refine SA TK Q (VE hm λe19 he19 hm=>SX Q Q (dD TK Q Q Q Q he19) (SA TK Q (SA TK Q (SB TK Q (λq20 hq20=>?_)))));cases q20
  ·replace hm:=JB hq20 hm;iterate 17 (refine SA TK Q ?_)
   exact TN (WT ⟨_,[0],(SJ hm),Q,k0,Q⟩)
  replace hm:=JA hq20 hm;refine SA TK Q (VE hm λe21 he21 hm=>SX Q Q (dD TK Q Q Q Q he21) (SA TK Q (SA TK Q (SB TK Q (λq22 hq22=>?_)))));cases q22
  ·replace hm:=JB hq22 hm;iterate 12 (refine SA TK Q ?_)
   exact TN (WT ⟨_,[0],(SJ hm),Q,k0,Q⟩)
  replace hm:=JA hq22 hm;refine SA TK Q (SX Q Q (bE Q rE aY Q Q Q Q) (SX Q Q (bE Q rE aY Q Q Q Q) (SX Q Q (dW [.tmp 55,.tmp 56] TK Q Q aY Q Q Q Q Q) (SX Q Q (bE Q fP bN Q Q Q Q) (c_N hm (pQ ·) Q Q Q Q λr23 hm=>SA TK Q (SB TK Q (λq24 hq24=>?_)))))));cases q24
  ·replace hm:=JB hq24 hm;iterate 4 (refine SA TK Q ?_)
   exact TN (WT ⟨_,[0],(SJ hm),Q,k0,Q⟩)
  replace hm:=JA hq24 hm;exact SA TK Q (c_N hm (iF ·) Q Q Q Q λr25 hm=>SA TK Q (SA TK Q (TN (WT ⟨_,[0],(SJ hm),Q,k0,Q⟩))))
 refine WN [0] Q Q (TR ?_);obtain rfl:=OJ hm;exact EndsS.one _ Q (.d _) (.refl _)
theorem oC {p0:Int} {r:(List (List Bool))} (hm:cJ p0=some r):RetD TP 35 [.int .i64 p0] (.sl 1 (r.map (λ(l:List Bool)=>D.sl 1 (l.map D.bool)))):=by
 refine .of (mv:=λ_=>false) (aT (bD Q) func35 Q ntmps35 Q Q (λwX gX=>?_));unfold cJ at hm;refine WN [0] Q Q (RS (SA TK Q (TN (WN [0] Q Q (RS (jH (f:=(λ(l:List Bool)=>D.sl 1 (l.map D.bool))) 0 36 1 Q Q Q (TN (WN [0,3] Q Q (aG hm (λb1=>([(3,.msl 0 1 0 b1.length)])) (λb1=>([(0,.flat 36 1 (b1.map (λ(l:List Bool)=>D.sl 1 (l.map D.bool))))])) [3] [] Q (λz2 hm=>?_) (λb1 hm=>?_))))))))))
 ·refine RS (SA TK Q (TN (WN [0,3,4] Q Q (TB (bT hm (λ(k6,b7)=>([(3,.msl 0 1 0 b7.length),(4,.d (.int .i64 k6))])) (λ(k6,b7)=>([(0,.flat 36 1 (b7.map (λ(l:List Bool)=>D.sl 1 (l.map D.bool))))])) [3,4] [0] [0] Q k0 Q Q Q Q Q (λs z8 hm hz8=>?_))))));obtain⟨k6,b7⟩:=s;refine WN [0,3,4] Q Q (TQ (RS (SA TK Q (SA TK Q (GE hm λg9 hm=>SX Q Q (mM Q Q Q Q g9) (SA TK Q (TN (WN [0,3,4,10] Q Q (TC _ Q (λh10=>?_) (λh10=>?_))))))))))
  ·replace hm:=JT h10 hm;refine TS (WT (WN [0,3,4] Q Q (aG hm (λb11=>([(3,.msl 0 1 0 b11.length)])) (λb11=>([(0,.flat 36 1 (b11.map (λ(l:List Bool)=>D.sl 1 (l.map D.bool))))])) [3] [0,4] Q (λz12 hm=>?_) (λb11 hm=>?_))))
   ·refine TB (RS (jH (f:=D.bool) 1 4 1 Q Q Q (TN (WN [0,3,4,5] Q Q (aG hm (λb13=>([(5,.msl 1 1 0 b13.length)])) (λb13=>([(1,.flat 4 1 (b13.map D.bool))])) [5] [0,3,4] Q (λz14 hm=>?_) (λb13 hm=>?_))))))
    ·refine RS (SA TK Q (GE hm λg15 hm=>SX Q Q (bA Q Q Q Q g15) (SA TK Q (TN (WN [0,3,4,5,6] Q Q (TB (bT hm (λ(i19,b20)=>([(5,.msl 1 1 0 b20.length),(6,.d (.int .i64 i19))])) (λ(i19,b20)=>([(1,.flat 4 1 (b20.map D.bool))])) [5,6] [0,3,4] [0,1] Q k0 Q Q Q Q Q (λs z21 hm hz21=>?_))))))));obtain⟨i19,b20⟩:=s;refine WN [0,3,4,5,6] Q Q (TQ (RS (SA TK Q (SA TK Q (TN (WN [0,3,4,5,6,16] Q Q (TC _ Q (λh22=>?_) (λh22=>?_))))))))
     ·replace hm:=JT h22 hm;refine TS (WT (WN [0,3,4,5,6] Q Q (TQ (TB (TG (SA TK Q (SA TK Q (SA TK Q (GE hm λg23 hm=>SX Q Q (mM Q Q Q Q g23) (SX Q Q (oR Q Q Q Q) (SA TK Q (SX Q Q (dW [.tmp 24] TK Q Q mK Q Q Q Q Q) (GE hm λg24 hm=>eG (f:=D.bool) ([decide ((IntKind.i64.wrap (BitVec.ofInt IntKind.i64.bits (k6.fdiv (2 ^ (min i19.toNat IntKind.i64.bits))) &&& BitVec.ofInt IntKind.i64.bits (1:Int)).toNat)=(1:Int))]:List Bool) TK Q Q mK Q Q Q Q Q (λh=>absurd h (zQV _)) Q dX g24 Q Q ?_)))))))))))));exact SA TK Q (TN (WK (WT (WN [0,3,4,5,6] Q Q (TG (SA TK Q (GE hm λg25 hm=>SX Q Q (bA Q Q Q Q g25) (SA TK Q (TN (WT ⟨_,[0,1],(SJ hm),Q,k0,Q⟩))))))))))
     replace hm:=JF h22 hm;refine aU (WX (IE hm λv26 hm hz=>?_));rw [hz21 _ hz] at hm;exact WX (WH (WT ⟨_,[0,1],(SJ hm),Q,k0,Q⟩))
    refine WN [0,3,4,5] Q Q ?_;refine c_frzO 5 1 [0,3,4] Q Q Q Q Q (by simp) Q Q ?_;exact TG (SA TK Q (SA TK Q (SX Q Q (dW [.tmp 28] TK Q Q fY Q Q Q Q Q) (GE hm λg27 hm=>eG (f:=(λ(l:List Bool)=>D.sl 1 (l.map D.bool))) ([b13]:List (List Bool)) TK Q Q fY Q Q Q Q Q (λh=>absurd h (zQV _)) Q dX g27 Q Q (SA TK Q (TN (WK (WT ⟨_,[0],(SJ hm),Q,k0,Q⟩))))))))
   exact WN [0,3,4] Q Q (TG (SA TK Q (GE hm λg28 hm=>SX Q Q (bA Q Q Q Q g28) (SA TK Q (TN (WT ⟨_,[0],(SJ hm),Q,k0,Q⟩))))))
  replace hm:=JF h10 hm;refine aU (WX (IE hm λv29 hm hz=>?_));rw [hz8 _ hz] at hm;exact WX (WH (WT ⟨_,[0],(SJ hm),Q,k0,Q⟩))
 refine WN [3] Q Q (RS (SA TK Q (SA TK Q (TN (WN [2] Q Q (TR ?_))))));obtain rfl:=OJ hm;exact EndsS.one _ Q (dY Q) (.refl _)
theorem oB {p0:Int} {r:(List (List Bool))} (hm:cJ p0=some r):zV TP 35 [.int .i64 p0] (λN=>.sl 1 (r.map (λ(l:List Bool)=>D.own N 4 1 (l.map D.bool)))):=by
 refine oU (mv:=λ_=>false) (bD Q) func35 Q ntmps35 Q Q (λwX gX=>?_);unfold cJ at hm;refine WN [0] Q Q (RS (SA TK Q (TN (WN [0] Q Q (RS (jH (f:=(λ(l:List Bool)=>D.own wX.heap.size 4 1 (l.map D.bool))) 0 36 1 Q Q Q (TN (WN [0,3] Q Q (aG hm (λb1=>([(3,.msl 0 1 0 b1.length)])) (λb1=>([(0,.flat 36 1 (b1.map (λ(l:List Bool)=>D.own wX.heap.size 4 1 (l.map D.bool))))])) [3] [] Q (λz2 hm=>?_) (λb1 hm=>?_))))))))))
 ·refine RS (SA TK Q (TN (WN [0,3,4] Q Q (TB (bT hm (λ(k6,b7)=>([(3,.msl 0 1 0 b7.length),(4,.d (.int .i64 k6))])) (λ(k6,b7)=>([(0,.flat 36 1 (b7.map (λ(l:List Bool)=>D.own wX.heap.size 4 1 (l.map D.bool))))])) [3,4] [0] [0] Q k0 Q Q Q Q Q (λs z8 hm hz8=>?_))))));obtain⟨k6,b7⟩:=s;refine WN [0,3,4] Q Q (TQ (RS (SA TK Q (SA TK Q (GE hm λg9 hm=>SX Q Q (mM Q Q Q Q g9) (SA TK Q (TN (WN [0,3,4,10] Q Q (TC _ Q (λh10=>?_) (λh10=>?_))))))))))
  ·replace hm:=JT h10 hm;refine TS (WT (WN [0,3,4] Q Q (aG hm (λb11=>([(3,.msl 0 1 0 b11.length)])) (λb11=>([(0,.flat 36 1 (b11.map (λ(l:List Bool)=>D.own wX.heap.size 4 1 (l.map D.bool))))])) [3] [0,4] Q (λz12 hm=>?_) (λb11 hm=>?_))))
   ·refine TB (RS (jH (f:=D.bool) 1 4 1 Q Q Q (TN (WN [0,3,4,5] Q Q (aG hm (λb13=>([(5,.msl 1 1 0 b13.length)])) (λb13=>([(1,.flat 4 1 (b13.map D.bool))])) [5] [0,3,4] Q (λz14 hm=>?_) (λb13 hm=>?_))))))
    ·refine RS (SA TK Q (GE hm λg15 hm=>SX Q Q (bA Q Q Q Q g15) (SA TK Q (TN (WN [0,3,4,5,6] Q Q (TB (bT hm (λ(i19,b20)=>([(5,.msl 1 1 0 b20.length),(6,.d (.int .i64 i19))])) (λ(i19,b20)=>([(1,.flat 4 1 (b20.map D.bool))])) [5,6] [0,3,4] [0,1] Q k0 Q Q Q Q Q (λs z21 hm hz21=>?_))))))));obtain⟨i19,b20⟩:=s;refine WN [0,3,4,5,6] Q Q (TQ (RS (SA TK Q (SA TK Q (TN (WN [0,3,4,5,6,16] Q Q (TC _ Q (λh22=>?_) (λh22=>?_))))))))
     ·replace hm:=JT h22 hm;refine TS (WT (WN [0,3,4,5,6] Q Q (TQ (TB (TG (SA TK Q (SA TK Q (SA TK Q (GE hm λg23 hm=>SX Q Q (mM Q Q Q Q g23) (SX Q Q (oR Q Q Q Q) (SA TK Q (SX Q Q (dW [.tmp 24] TK Q Q mK Q Q Q Q Q) (GE hm λg24 hm=>eG (f:=D.bool) ([decide ((IntKind.i64.wrap (BitVec.ofInt IntKind.i64.bits (k6.fdiv (2 ^ (min i19.toNat IntKind.i64.bits))) &&& BitVec.ofInt IntKind.i64.bits (1:Int)).toNat)=(1:Int))]:List Bool) TK Q Q mK Q Q Q Q Q (λh=>absurd h (zQV _)) Q dX g24 Q Q ?_)))))))))))));exact SA TK Q (TN (WK (WT (WN [0,3,4,5,6] Q Q (TG (SA TK Q (GE hm λg25 hm=>SX Q Q (bA Q Q Q Q g25) (SA TK Q (TN (WT ⟨_,[0,1],(SJ hm),Q,k0,Q⟩))))))))))
     replace hm:=JF h22 hm;refine aU (WX (IE hm λv26 hm hz=>?_));rw [hz21 _ hz] at hm;exact WX (WH (WT ⟨_,[0,1],(SJ hm),Q,k0,Q⟩))
    refine WN [0,3,4,5] Q Q ?_;refine c_frzN 5 1 [0,3,4] Q Q Q Q Q (by simp) Q Q ?_;exact TG (SA TK Q (SA TK Q (SX Q Q (dW [.tmp 28] TK Q Q fY Q Q Q Q Q) (GE hm λg27 hm=>eG (f:=(λ(l:List Bool)=>D.own wX.heap.size 4 1 (l.map D.bool))) ([b13]:List (List Bool)) TK Q Q fY Q Q Q Q Q (λh=>absurd h (zQV _)) Q dX g27 Q Q (SA TK Q (TN (WK (WT ⟨_,[0],(SJ hm),Q,k0,Q⟩))))))))
   exact WN [0,3,4] Q Q (TG (SA TK Q (GE hm λg28 hm=>SX Q Q (bA Q Q Q Q g28) (SA TK Q (TN (WT ⟨_,[0],(SJ hm),Q,k0,Q⟩))))))
  replace hm:=JF h10 hm;refine aU (WX (IE hm λv29 hm hz=>?_));rw [hz8 _ hz] at hm;exact WX (WH (WT ⟨_,[0],(SJ hm),Q,k0,Q⟩))
 refine WN [3] Q Q (RS (SA TK Q (SA TK Q (TN (WN [2] Q Q (TR ?_))))));obtain rfl:=OJ hm;exact EndsS.one _ Q (dY Q) (.refl _)
theorem bZ {p0:Ab} {r:Int} (hm:bB p0=some r):RetN TP 37 [p0.enc] (.int .i64 r):=by
 refine .unit (aT (bD Q) func37 Q ntmps37 Q Q (λwX gX=>?_)) Q;unfold bB at hm;refine WN [0] Q Q (RS (cS 0 Q Q Q (SA TK Q (TN (WN [1] Q Q (RS (SA TK Q (TN (WN [1,3] Q Q (aG hm (λw1=>([(3,.d (.int .i64 w1))])) (λw1=>[]) [3] [] Q (λz2 hm=>?_) (λw1 hm=>?_)))))))))))
 ·refine RS (SA TK Q (SA TK Q (SX Q Q (bI TK Q Q Q) (SA TK Q (TN (WN [3,7,8,9] Q Q (TB (bT hm (λ(w5,x6)=>([(3,.d (.int .i64 w5)),(9,.d (.int .i64 x6))])) (λ(w5,x6)=>[]) [3,9] [7,8] [0] Q k0 Q Q Q Q Q (λs z7 hm hz7=>?_)))))))));obtain⟨w5,x6⟩:=s;refine WN [3,7,8,9] Q Q (RS (SA TK Q (TN (WN [3,7,8,9,10] Q Q (TQ (TC _ Q (λh8=>?_) (λh8=>?_)))))))
  ·replace hm:=JT h8 hm;refine TS (WT (WN [3,7,8,9] Q Q (TQ (TB (RS (VE hm λe9 he9 hm=>SX Q Q (dD TK Q Q Q Q he9) (SA TK Q (dF 1 Q Q aY Q (SA TK Q (TN (WN [3,5,7,8,9] Q Q (TG ?_))))))))))));exact SA TK Q (SA TK Q (SA TK Q (SX Q Q (oR Q Q Q Q) (SX Q Q (rd_max Q Q Q Q) (SA TK Q (TN (WK (WT (WN [3,7,8,9] Q Q (TG (SX Q Q (oR Q Q Q Q) (SA TK Q (TN (WT ⟨_,[0],(SJ hm),Q,k0,Q⟩))))))))))))))
  replace hm:=JF h8 hm;refine aU (WX (IE hm λv10 hm hz=>?_));rw [hz7 _ hz] at hm;exact WX (WH (WT ⟨_,[0],(SJ hm),Q,k0,Q⟩))
 refine WN [3] Q Q (RS (SA TK Q (SA TK Q (TN (WN [2] Q Q (TR ?_))))));obtain rfl:=OJ hm;exact EndsS.one _ Q (.d _) (.refl _)
theorem oK {p0:Ab} {r:Bool} (hm:eB p0=some r):RetN TP 14 [p0.enc] (.bool (r)):=by
 refine .unit (aT (bD Q) func14 Q ntmps14 Q Q (λwX gX=>?_)) Q;unfold eB at hm;refine WN [0] Q Q (RS (cS 0 Q Q Q (SA TK Q (TN (WN [1] Q Q (aG hm (λx1=>([(2,.d (.bool (x1)))])) (λx1=>[]) [2] [] Q (λz2 hm=>?_) (λx1 hm=>?_)))))))
 ·refine TG (SA TK Q (SA TK Q (SX Q Q (bI TK Q Q Q) (SA TK Q (SB TK Q (λq3 hq3=>?_))))));cases q3
  ·replace hm:=JF hq3 hm;iterate 5 (refine SA TK Q ?_)
   exact TN (WT ⟨_,[0],(SJ hm),Q,k0,Q⟩)
  replace hm:=JT hq3 hm;exact SA TK Q (c_N hm (bZ ·) Q Q Q Q λr4 hm=>SA TK Q (SA TK Q (SA TK Q (TN (WT ⟨_,[0],(SJ hm),Q,k0,Q⟩)))))
 refine WN [2] Q Q (TR ?_);obtain rfl:=OJ hm;exact EndsS.one _ Q (.d _) (.refl _)
theorem lW:∀ (fu:Nat) {p0:Ab} {p1:Int} {p2:(List Int)} {r:(List Int)} (hm:bF fu p0 p1 p2=some r),Ret TP 44 [.flat 3 1 (p2.map (D.int .i64))] (λj=>Nat.beq j 0) [.d (p0.enc),.d (.int .i64 p1),.msl 0 1 0 p2.length] (.msl 0 1 0 r.length) [.flat 3 1 (r.map (D.int .i64))]:=by
 intro fu
 induction fu with
 | zero=>
  intro p0 p1 p2 r hm;unfold bF at hm;cases hm
 | succ fu ih=>
  intro p0 p1 p2 r hm;refine fO (bD Q) func44 Q ntmps44 Q Q (λwX gX=>?_);unfold bF at hm;refine WN [0,1,2] Q Q (RS (cS 1 Q Q Q (jH (f:=(D.int .i64)) 2 3 1 Q Q Q (TN (WN [1,2,3] Q Q (TQ (RS (SA TK Q (SA TK Q (TN (WN [1,2,3,10] Q Q (TC _ Q (λh1=>?_) (λh1=>?_)))))))))))))
  ·replace hm:=JT h1 hm;refine RS (SA TK Q (SA TK Q (TN (WN [6] Q Q (TR (WR ?_))))));obtain rfl:=OJ hm;exact⟨_,[0],res Q,by decide,(kB Q),Q,Q⟩
  replace hm:=JF h1 hm;refine TS (WT (WN [1,2,3] Q Q (cO hm (λ_=>[]) (λ_=>[]) [] [1,2,3] Q (λz2 hm hz2=>?_) (λj hm=>?_))))
  ·refine RS (SA TK Q (SA TK Q (SA TK Q (TN (WN [1,2,3,12,13,14] Q Q (TB (bT hm (λx4=>([(14,.d (.int .i64 x4))])) (λx4=>[]) [14] [1,2,3,12,13] [0,1,2] Q (kB Q) Q Q Q Q Q (λx4 z5 hm hz5=>WN [1,2,3,12,13,14] Q Q (RS (SA TK Q (TN (WN [1,2,3,12,13,14,15] Q Q (TQ (TC _ Q (λh6=>?_) (λh6=>?_)))))))))))))))
   ·replace hm:=JT h6 hm;refine TS (WT (WN [1,2,3,12,13,14] Q Q (TQ (TB (RS (VE hm λe7 he7 hm=>SX Q Q (lF TK Q Q Q Q he7 Q) (SX Q Q (oQ TK Q Q Q Q he7.2 Q) (SA TK Q (TN (WN [1,2,3,8,12,13,14] Q Q (RS (SA TK Q (SA TK Q (SA TK Q ?_))))))))))))));refine TN (WN [1,2,3,12,13,14,20] Q Q (TC _ Q (λh8=>?_) (λh8=>?_)))
    ·replace hm:=JT h8 hm;refine RS (SA TK Q (SA TK Q (TN (WN [6] Q Q (TR (WB (WR (IE hm λv9 hm hz=>?_))))))));rw [hz5 _ hz] at hm;refine WR (WB (IE hm λv10 hm hz=>?_));rw [hz2 _ hz] at hm;refine WR ?_;obtain rfl:=OJ hm;exact⟨_,[0],res Q,by decide,(kB Q),Q,Q⟩
    replace hm:=JF h8 hm;exact TS (WK (WT (WN [1,2,3,12,13,14] Q Q (TG (GE hm λg11 hm=>SX Q Q (bA Q Q Q Q g11) (SA TK Q (TN (WT ⟨_,[0,1,2],(SJ hm),Q,(kB Q),Q⟩))))))))
   replace hm:=JF h6 hm;refine aU (WX (IE hm λv12 hm hz=>?_));rw [hz5 _ hz] at hm;exact WX (WH (WT ⟨_,[0,1,2],(SJ hm),Q,(kB Q),Q⟩))
  refine WN [1,2,3] Q Q (aK follows  ?_);iterate 4 (refine DA [0,1,2] TK Q ?_)
  refine GE hm λg13 hm=>DX [0,1,2] Q Q (bA Q Q Q Q g13) (VE hm λe14 he14 hm=>DX [0,1,2] Q Q (dD TK Q Q Q Q he14) ?_);iterate 3 (refine DA [0,1,2] TK Q ?_)
  refine DT ?_ (by kernel_rfl);refine BE hm λr15 hr15 hm=>?_;refine cP [0] (λj=>Nat.beq j 0) Q Q Q (by decide) Q Q Q Q (ih hr15) Q Q Q ?_;refine SA TK Q (TN (WN [1,2,3] Q Q (aK follows  ?_)));iterate 4 (refine DA [0,1,2] TK Q ?_)
  refine GE hm λg16 hm=>DX [0,1,2] Q Q (bA Q Q Q Q g16) (VE hm λe17 he17 hm=>DX [0,1,2] Q Q (dD TK Q Q Q Q he17) ?_);iterate 3 (refine DA [0,1,2] TK Q ?_)
  refine DT ?_ (by kernel_rfl);refine BE hm λr18 hr18 hm=>?_;refine cP [0] (λj=>Nat.beq j 0) Q Q Q (by decide) Q Q Q Q (ih hr18) Q Q Q ?_;refine SA TK Q (TN (WN [1,2] Q Q (RS (SA TK Q (SA TK Q (SX Q Q (dW [.tmp 44] TK Q Q iU Q Q Q Q Q) (GE hm λg19 hm=>eG (f:=(D.int .i64)) ([p1]:List Int) TK Q Q iU Q Q Q Q Q (λ_=>Q) Q dX g19 Q Q (SA TK Q (TN (WN [6] Q Q (TR ?_)))))))))));obtain rfl:=OJ hm;exact⟨_,[0],res Q,by decide,(kB Q),Q,Q⟩
theorem mW {p0:Ab} {p1:Int} {p2:(List Int)} {r:(List Int)} (hm:eL p0 p1 p2=some r):Ret TP 44 [.flat 3 1 (p2.map (D.int .i64))] (λj=>Nat.beq j 0) [.d (p0.enc),.d (.int .i64 p1),.msl 0 1 0 p2.length] (.msl 0 1 0 r.length) [.flat 3 1 (r.map (D.int .i64))]:=lW aO hm
theorem iZ {p0:Ab} {r:Bool} (hm:cZ p0=some r):RetN TP 20 [p0.enc] (.bool (r)):=by
 refine .unit (aT (bD Q) func20 Q ntmps20 Q Q (λwX gX=>?_)) Q;unfold cZ at hm;refine WN [0] Q Q (RS (cS 0 Q Q Q (SA TK Q (TN (WN [1] Q Q (TQ (RS (SA TK Q (SA TK Q (SX Q Q (bI TK Q Q Q) (SA TK Q (TN (WN [1,14] Q Q (TC _ Q (λh1=>?_) (λh1=>?_)))))))))))))))
 ·replace hm:=JT h1 hm;refine fK [(2,.d (.bool (((decide (p0.root=(0:Int)))||(decide (p0.root=(1:Int)))))))] [2] [] Q ?_ ?_
  ·refine TG (SA TK Q (SA TK Q (SA TK Q (SB TK Q (λq2 hq2=>?_)))));cases q2
   ·iterate 5 (refine SA TK Q ?_)
    refine TN (WT ?_);exact⟨[0],Q,k0,bU (aQ (aR (by first|(simp [hq2];done)|(simp only [hq2];simp))) Q) Q⟩
   iterate 5 (refine SA TK Q ?_)
   refine TN (WT ?_);exact⟨[0],Q,k0,bU (aQ (aR (by first|(simp [hq2];done)|(simp only [hq2];simp))) Q) Q⟩
  refine WN [2] Q Q (TR (WR ?_));obtain rfl:=OJ hm;exact EndsS.one _ Q (.d _) (.refl _)
 replace hm:=JF h1 hm;refine TS (WT (WN [1] Q Q (TQ (aG hm (λx3=>([(35,.d (.bool (x3)))])) (λx3=>[]) [35] [1] Q (λz4 hm=>?_) (λx3 hm=>?_)))))
 ·refine TG (SA TK Q (SA TK Q (SX Q Q (bI TK Q Q Q) (SA TK Q (SB TK Q (λq5 hq5=>?_))))));cases q5
  ·replace hm:=JF hq5 hm;iterate 4 (refine SA TK Q ?_)
   exact SX Q Q (bI TK Q Q Q) (GE hm λg6 hm=>SX Q Q (bA Q Q Q Q g6) (SA TK Q (SA TK Q (TN (WT ⟨_,[0],(SJ hm),Q,k0,Q⟩)))))
  replace hm:=JT hq5 hm;iterate 8 (refine SA TK Q ?_)
  exact TN (WT ⟨_,[0],(SJ hm),Q,k0,Q⟩)
 refine WN [1,35] Q Q (TC _ Q (λh7=>?_) (λh7=>?_))
 ·replace hm:=JA h7 hm;refine RS (SA TK Q (TN (WN [2] Q Q (TR (WR ?_)))));obtain rfl:=OJ hm;exact EndsS.one _ Q (.d _) (.refl _)
 replace hm:=JB h7 hm;refine TS (WT (WN [1] Q Q (cO hm (λ_=>[]) (λ_=>[]) [] [1] Q (λz8 hm hz8=>?_) (λj hm=>?_))))
 ·refine RS (SA TK Q (SA TK Q (SX Q Q (bI TK Q Q Q) (SA TK Q (TN (WN [1,37,38,39] Q Q (TB (bT hm (λx10=>([(39,.d (.int .i64 x10))])) (λx10=>[]) [39] [1,37,38] [0] Q k0 Q Q Q Q Q (λx10 z11 hm hz11=>WN [1,37,38,39] Q Q (RS (SA TK Q (TN (WN [1,37,38,39,40] Q Q (TQ (TC _ Q (λh12=>?_) (λh12=>?_))))))))))))))))
  ·replace hm:=JT h12 hm;refine TS (WT (WN [1,37,38,39] Q Q (cO hm (λ_=>[]) (λ_=>[]) [] [1,37,38,39] Q (λz13 hm hz13=>?_) (λj hm=>?_))))
   ·refine TB (RS (SA TK Q (VE hm λe14 he14 hm=>SX Q Q (dD TK Q Q Q Q he14) (SA TK Q (dF 1 Q Q aY Q (SA TK Q (SA TK Q (TN (WN [1,3,4,37,38,39] Q Q (TQ ?_))))))))));refine fK [(58,.d (.bool (((decide (e14.var < (0:Int)))||((decide ((63:Int) < e14.var))||(decide (e14.lo=e14.hi)))))))] [58] [1,3,4,37,38,39] Q ?_ ?_
    ·refine TG (SA TK Q (SA TK Q (SA TK Q (SB TK Q (λq15 hq15=>?_)))));cases q15
     ·iterate 4 (refine SA TK Q ?_)
      refine SB TK Q (λq16 hq16=>?_);cases q16
      ·iterate 6 (refine SA TK Q ?_)
       refine TN (WT ?_);exact⟨[0,1],Q,k0,bU (aQ (aR (by first|(simp [hq15,hq16];done)|(simp only [hq15,hq16];simp))) Q) Q⟩
      iterate 6 (refine SA TK Q ?_)
      refine TN (WT ?_);exact⟨[0,1],Q,k0,bU (aQ (aR (by first|(simp [hq15,hq16];done)|(simp only [hq15,hq16];simp))) Q) Q⟩
     iterate 11 (refine SA TK Q ?_)
     refine TN (WT ?_);exact⟨[0,1],Q,k0,bU (aQ (aR (by first|(simp [hq15];done)|(simp only [hq15];simp))) Q) Q⟩
    refine WN [1,3,4,37,38,39,58] Q Q (TC _ Q (λh17=>?_) (λh17=>?_))
    ·replace hm:=JA h17 hm;refine RS (SA TK Q (TN (WN [2] Q Q (TR (WR (WB (IE hm λv18 hm hz=>?_)))))));rw [hz13 _ hz] at hm;refine WR (IE hm λv19 hm hz=>?_);rw [hz11 _ hz] at hm;refine WR (WB (IE hm λv20 hm hz=>?_));rw [hz8 _ hz] at hm;refine WR ?_;obtain rfl:=OJ hm;exact EndsS.one _ Q (.d _) (.refl _)
    replace hm:=JB h17 hm;refine TS (WT (WN [1,3,4,37,38,39] Q Q (cO hm (λ_=>[]) (λ_=>[]) [] [1,3,4,37,38,39] Q (λz21 hm hz21=>?_) (λj hm=>?_))))
    ·refine RS ?_;iterate 4 (refine SA TK Q ?_)
     refine SX Q Q (dW [.tmp 60,.tmp 62] TK Q Q iU Q Q Q Q Q) (SX Q Q (bI (f:=(D.int .i64)) (xs:=([e14.lo,e14.hi]:List Int)) TK Q Q Q) (SA TK Q (TN (WN [1,3,4,37,38,39,63,64,65] Q Q (TB (bT hm (λx23=>([(65,.d (.int .i64 x23))])) (λx23=>[]) [65] [1,3,4,37,38,39,63,64] [0,1] Q k0 Q Q Q Q Q (λx23 z24 hm hz24=>WN [1,3,4,37,38,39,63,64,65] Q Q (RS (SA TK Q (TN (WN [1,3,4,37,38,39,63,64,65,66] Q Q (TQ (TC _ Q (λh25=>?_) (λh25=>?_))))))))))))))
     ·replace hm:=JT h25 hm;refine TS (WT (WN [1,3,4,37,38,39,63,64,65] Q Q (TQ (TB (RS (VE hm λe26 he26 hm=>SX Q Q (dD (f:=(D.int .i64)) (xs:=([e14.lo,e14.hi]:List Int)) TK Q Q Q Q he26) (SA TK Q (SA TK Q (TN (WN [1,3,4,6,37,38,39,63,64,65] Q Q (aG hm (λx27=>([(92,.d (.bool (x27)))])) (λx27=>[]) [92] [1,3,4,37,38,39,63,64,65] Q (λz28 hm=>?_) (λx27 hm=>?_))))))))))))
      ·refine jT follows  ?_;iterate 2 (refine DA [0,1] TK Q ?_)
       refine d_b [0,1] TK Q (λq29 hq29=>?_);cases q29
       ·replace hm:=JF hq29 hm;iterate 2 (refine DA [0,1] TK Q ?_)
        refine GE hm λg30 hm=>DX [0,1] Q Q (bA Q Q Q Q g30) ?_;iterate 2 (refine DA [0,1] TK Q ?_)
        refine d_b [0,1] TK Q (λq31 hq31=>?_);cases q31
        ·replace hm:=JF hq31 hm;iterate 2 (refine DA [0,1] TK Q ?_)
         refine d_b [0,1] TK Q (λq32 hq32=>?_);cases q32
         ·replace hm:=JF hq32 hm;iterate 12 (refine DA [0,1] TK Q ?_)
          refine DT ?_ (by kernel_rfl);exact TN (WT ⟨_,[0,1],(SJ hm),Q,k0,Q⟩)
         replace hm:=JT hq32 hm;iterate 3 (refine DA [0,1] TK Q ?_)
         refine GE hm λg33 hm=>DX [0,1] Q Q (bA Q Q Q Q g33) (VE hm λe34 he34 hm=>DX [0,1] Q Q (dD TK Q Q Q Q he34) ?_);iterate 7 (refine DA [0,1] TK Q ?_)
         refine DT ?_ (by kernel_rfl);exact TN (WT ⟨_,[0,1],(SJ hm),Q,k0,Q⟩)
        replace hm:=JT hq31 hm;iterate 15 (refine DA [0,1] TK Q ?_)
        refine DT ?_ (by kernel_rfl);exact TN (WT ⟨_,[0,1],(SJ hm),Q,k0,Q⟩)
       replace hm:=JT hq29 hm;iterate 21 (refine DA [0,1] TK Q ?_)
       refine DT ?_ (by kernel_rfl);exact TN (WT ⟨_,[0,1],(SJ hm),Q,k0,Q⟩)
      refine WN [1,3,4,37,38,39,63,64,65,92] Q Q (TC _ Q (λh35=>?_) (λh35=>?_))
      ·replace hm:=JA h35 hm;refine RS (SA TK Q (TN (WN [2] Q Q (TR (WB (WR (IE hm λv36 hm hz=>?_)))))));rw [hz24 _ hz] at hm;refine WR (WB (IE hm λv37 hm hz=>?_));rw [hz21 _ hz] at hm;refine WR (WB (IE hm λv38 hm hz=>?_));rw [hz13 _ hz] at hm;refine WR (IE hm λv39 hm hz=>?_);rw [hz11 _ hz] at hm;refine WR (WB (IE hm λv40 hm hz=>?_));rw [hz8 _ hz] at hm;refine WR ?_;obtain rfl:=OJ hm;exact EndsS.one _ Q (.d _) (.refl _)
      replace hm:=JB h35 hm;exact TS (WK (WT (WN [1,3,4,37,38,39,63,64,65] Q Q (TG (GE hm λg41 hm=>SX Q Q (bA Q Q Q Q g41) (SA TK Q (TN (WT ⟨_,[0,1],(SJ hm),Q,k0,Q⟩))))))))
     replace hm:=JF h25 hm;refine aU (WX (IE hm λv42 hm hz=>?_));rw [hz24 _ hz] at hm;exact WX (WH (WT ⟨_,[0,1],(SJ hm),Q,k0,Q⟩))
    refine WN [1,3,4,37,38,39] Q Q (RS (SA TK Q (SA TK Q (TN (WN [1,4,37,38,39,94,95] Q Q (TB (bT hm (λx44=>([(95,.d (.int .i64 x44))])) (λx44=>[]) [95] [1,4,37,38,39,94] [0,1] Q k0 Q Q Q Q Q (λx44 z45 hm hz45=>WN [1,4,37,38,39,94,95] Q Q (RS (SA TK Q (TN (WN [1,4,37,38,39,94,95,96] Q Q (TQ (TC _ Q (λh46=>?_) (λh46=>?_)))))))))))))))
    ·replace hm:=JT h46 hm;refine TS (WT (WN [1,4,37,38,39,94,95] Q Q (TQ (TB (RS (SA TK Q (SA TK Q (TN (WN [1,4,7,37,38,39,94,95] Q Q (aK follows  ?_))))))))));iterate 3 (refine DA [0,1] TK Q ?_)
     refine VE hm λe47 he47 hm=>DX [0,1] Q Q (dD TK Q Q Q Q he47) ?_;iterate 2 (refine DA [0,1] TK Q ?_)
     refine GE hm λg48 hm=>DX [0,1] Q Q (zX Q Q Q g48.1 g48.2) ?_;refine DT ?_ (by kernel_rfl);refine TN (WN [1,4,37,38,39,94,95,104] Q Q (TC _ Q (λh50=>?_) (λh50=>?_)))
     ·replace hm:=JT h50 hm;refine RS (SA TK Q (TN (WN [2] Q Q (TR (WB (WR (IE hm λv51 hm hz=>?_)))))));rw [hz45 _ hz] at hm;refine WR (WB (WB (IE hm λv52 hm hz=>?_)));rw [hz13 _ hz] at hm;refine WR (IE hm λv53 hm hz=>?_);rw [hz11 _ hz] at hm;refine WR (WB (IE hm λv54 hm hz=>?_));rw [hz8 _ hz] at hm;refine WR ?_;obtain rfl:=OJ hm;exact EndsS.one _ Q (.d _) (.refl _)
     replace hm:=JF h50 hm;exact TS (WK (WT (WN [1,4,37,38,39,94,95] Q Q (TG (GE hm λg55 hm=>SX Q Q (bA Q Q Q Q g55) (SA TK Q (TN (WT ⟨_,[0,1],(SJ hm),Q,k0,Q⟩))))))))
    replace hm:=JF h46 hm;refine aU (WX (IE hm λv56 hm hz=>?_));rw [hz45 _ hz] at hm;exact WX (WH (WK (WT ⟨_,[0],(SJ hm),Q,k0,Q⟩)))
   exact WN [1,37,38,39] Q Q (TG (GE hm λg57 hm=>SX Q Q (bA Q Q Q Q g57) (SA TK Q (TN (WT ⟨_,[0],(SJ hm),Q,k0,Q⟩)))))
  replace hm:=JF h12 hm;refine aU (WX (IE hm λv58 hm hz=>?_));rw [hz11 _ hz] at hm;exact WX (WH (WT ⟨_,[0],(SJ hm),Q,k0,Q⟩))
 refine WN [1] Q Q (RS (SA TK Q (SA TK Q (SA TK Q (yW (f:=(D.int .i64)) 1 3 1 Q (BE hm λr59 hr59 hm=>?_))))));refine wN [1] (λj=>Nat.beq j 0) Q Q Q (by decide) Q Q Q Q (mW hr59) (.cons (.refl _) (.cons (.refl _) (.cons (.nil _ _) .nil))) Q Q Q ?_;refine SA TK Q (TN (WN [1,8] Q Q (cO hm (λ_=>[]) (λ_=>[]) [] [1,8] Q (λz60 hm hz60=>?_) (λj hm=>?_))))
 ·refine RS (SA TK Q (SA TK Q (SA TK Q (TN (WN [1,8,111,112,113] Q Q (TB (bT hm (λx62=>([(113,.d (.int .i64 x62))])) (λx62=>[]) [113] [1,8,111,112] [0,1] Q k0 Q Q Q Q Q (λx62 z63 hm hz63=>WN [1,8,111,112,113] Q Q (RS (SA TK Q (TN (WN [1,8,111,112,113,114] Q Q (TQ (TC _ Q (λh64=>?_) (λh64=>?_)))))))))))))))
  ·replace hm:=JT h64 hm;refine TS (WT (WN [1,8,111,112,113] Q Q (TQ (TB (RS (SA TK Q (VE hm λe65 he65 hm=>SX Q Q (lF TK Q Q Q Q he65 Q) (SX Q Q (oQ TK Q Q Q Q he65.2 Q) (SA TK Q (SA TK Q (TN (WN [1,8,9,10,111,112,113] Q Q (RS ?_)))))))))))));refine SA TK Q (SA TK Q (GE hm λg66 hm=>SX Q Q (bA Q Q Q Q g66) (SA TK Q (TN (WN [1,8,111,112,113,121] Q Q (TC _ Q (λh67=>?_) (λh67=>?_)))))))
   ·replace hm:=hO h67 hm;refine RS (SA TK Q (TN (WN [2] Q Q (TR (WB (WR (IE hm λv68 hm hz=>?_)))))));rw [hz63 _ hz] at hm;refine WR (WB (IE hm λv69 hm hz=>?_));rw [hz60 _ hz] at hm;refine WR ?_;obtain rfl:=OJ hm;exact EndsS.one _ Q (.d _) (.refl _)
   replace hm:=hP h67 hm;exact TS (WK (WT (WN [1,8,111,112,113] Q Q (TG (GE hm λg70 hm=>SX Q Q (bA Q Q Q Q g70) (SA TK Q (TN (WT ⟨_,[0,1],(SJ hm),Q,k0,Q⟩))))))))
  replace hm:=JF h64 hm;refine aU (WX (IE hm λv71 hm hz=>?_));rw [hz63 _ hz] at hm;exact WX (WH (WT ⟨_,[0,1],(SJ hm),Q,k0,Q⟩))
 refine WN [1,8] Q Q (RS ?_);iterate 4 (refine SA TK Q ?_)
 refine SX Q Q (bI TK Q Q Q) (SA TK Q (SA TK Q (TN (WN [2] Q Q (TR ?_)))));obtain rfl:=OJ hm;exact EndsS.one _ Q (.d _) (.refl _)
theorem iY {p0:Ab} {p1:(List Bool)} {r:Bool} (hm:eA p0 p1=some r):RetN TP 45 [p0.enc,.sl 1 (p1.map D.bool)] (.bool (r)):=by
 refine .unit (aT (bD Q) func45 Q ntmps45 Q Q (λwX gX=>?_)) Q;unfold eA at hm;refine WN [0,1] Q Q (RS (cS 0 Q Q Q (SA TK Q (TN (WN [1,2] Q Q (RS (SA TK Q (SA TK Q (SA TK Q (TN (WN [1,2,5] Q Q (aG hm (λn1=>([(5,.d (.int .i64 n1))])) (λn1=>[]) [5] [] Q (λz2 hm=>?_) (λn1 hm=>?_)))))))))))))
 ·refine TB (bT hm (λn4=>([(5,.d (.int .i64 n4))])) (λn4=>[]) [5] [1,2] [0] Q k0 Q Q Q Q Q (λn4 z5 hm hz5=>WN [1,2,5] Q Q (TQ (RS (SA TK Q (SA TK Q (TN (WN [1,2,5,10] Q Q (TC _ Q (λh6=>?_) (λh6=>?_))))))))))
  ·replace hm:=JT h6 hm;refine TS (WT (WN [1,2,5] Q Q (TB (RS (SA TK Q (SA TK Q (SA TK Q (GE hm λg7 hm=>SX Q Q (bA Q Q Q Q g7) (VE hm λe8 he8 hm=>SX Q Q (dD TK Q Q Q Q he8) (SA TK Q (dF 1 Q Q aY Q (SA TK Q (TN ?_)))))))))))));refine WN [1,2,6] Q Q (RS (SA TK Q (SA TK Q (SA TK Q (TN (WN [1,2,5,6] Q Q (aG hm (λx9=>([(30,.d (.bool (x9)))])) (λx9=>[]) [30] [1,2,5,6] Q (λz10 hm=>?_) (λx9 hm=>?_))))))))
   ·refine TG (SA TK Q (SA TK Q (SA TK Q (SX Q Q (bI TK Q Q Q) (SA TK Q (SB TK Q (λq11 hq11=>?_)))))));cases q11
    ·replace hm:=JF hq11 hm;iterate 6 (refine SA TK Q ?_)
     exact TN (WT ⟨_,[0,1],(SJ hm),Q,k0,Q⟩)
    replace hm:=JT hq11 hm;exact SA TK Q (SA TK Q (SA TK Q (VE hm λe12 he12 hm=>SX Q Q (dD TK Q Q Q Q he12) (SA TK Q (SA TK Q (TN (WT ⟨_,[0,1],(SJ hm),Q,k0,Q⟩)))))))
   refine WN [1,2,5,6,30] Q Q (TC _ Q (λh13=>?_) (λh13=>?_))
   ·replace hm:=JA h13 hm;exact TG (SA TK Q (SA TK Q (SA TK Q (TN (WK (WT ⟨_,[0],(SJ hm),Q,k0,Q⟩))))))
   replace hm:=JB h13 hm;exact TS (WK (WT ⟨_,[0],(SJ hm),Q,k0,Q⟩))
  replace hm:=JF h6 hm;refine aU (WX (IE hm λv14 hm hz=>?_));rw [hz5 _ hz] at hm;exact WX (WH (WT ⟨_,[0],(SJ hm),Q,k0,Q⟩))
 refine WN [5] Q Q (RS (SA TK Q (SA TK Q (SA TK Q (TN (WN [4] Q Q (TR ?_)))))));obtain rfl:=OJ hm;exact EndsS.one _ Q (.d _) (.refl _)
theorem mV {p0:Ab} {r:(List (List Bool))} (hm:bO p0=some r):RetD TP 39 [p0.enc] (.sl 1 (r.map (λ(l:List Bool)=>D.sl 1 (l.map D.bool)))):=by
 refine .of (mv:=λ_=>false) (aT (bD Q) func39 Q ntmps39 Q Q (λwX gX=>?_));unfold bO at hm;refine WN [0] Q Q (RS (cS 0 Q Q Q (SA TK Q (TN (WN [1] Q Q (RS (jH (f:=(λ(l:List Bool)=>D.sl 1 (l.map D.bool))) 1 36 1 Q Q Q (TN (WN [1,3] Q Q (aG hm (λb1=>([(3,.msl 1 1 0 b1.length)])) (λb1=>([(1,.flat 36 1 (b1.map (λ(l:List Bool)=>D.sl 1 (l.map D.bool))))])) [3] [] Q (λz2 hm=>?_) (λb1 hm=>?_)))))))))))
 ·refine RS (SA TK Q (c_N hm (bZ ·) Q Q Q Q λr3 hm=>c_D hm (oC ·) Q Q Q Q λr4 hm=>SX Q Q (bI TK Q Q Q) (SA TK Q (TN (WN [1,3,8,9,10] Q Q (TB (bT hm (λ(x8,b9)=>([(3,.msl 1 1 0 b9.length),(10,.d (.int .i64 x8))])) (λ(x8,b9)=>([(1,.flat 36 1 (b9.map (λ(l:List Bool)=>D.sl 1 (l.map D.bool))))])) [3,10] [1,8,9] [0,1] Q k0 Q Q Q Q Q (λs z10 hm hz10=>?_))))))));obtain⟨x8,b9⟩:=s;refine WN [1,3,8,9,10] Q Q (RS (SA TK Q (TN (WN [1,3,8,9,10,11] Q Q (TQ (TC _ Q (λh11=>?_) (λh11=>?_)))))))
  ·replace hm:=JT h11 hm;refine TS (WT (WN [1,3,8,9,10] Q Q (TQ (TB (RS (VE hm λe12 he12 hm=>SX Q Q (dD TK Q Q Q Q he12) (SA TK Q (SA TK Q (TN (WN [1,3,5,8,9,10] Q Q (RS (SA TK Q (SA TK Q (c_N hm (iY ·) Q Q Q Q λr13 hm=>?_))))))))))))));refine TN (WN [1,3,5,8,9,10,16] Q Q (TC _ Q (λh14=>?_) (λh14=>?_)))
   ·replace hm:=JA h14 hm;refine TG (SA TK Q (SA TK Q (SX Q Q (dW [.tmp 18] TK Q Q fY Q Q Q Q Q) (GE hm λg15 hm=>eG (f:=(λ(l:List Bool)=>D.sl 1 (l.map D.bool))) ([e12]:List (List Bool)) TK Q Q fY Q Q Q Q Q (λh=>absurd h (zQV _)) Q dX g15 Q Q (SA TK Q (TN (WK (WT (WN [1,3,8,9,10] Q Q (TG (GE hm λg16 hm=>SX Q Q (bA Q Q Q Q g16) (SA TK Q ?_))))))))))));exact TN (WT ⟨_,[0,1],(SJ hm),Q,k0,Q⟩)
   replace hm:=JB h14 hm;exact TS (WK (WT (WN [1,3,8,9,10] Q Q (TG (GE hm λg17 hm=>SX Q Q (bA Q Q Q Q g17) (SA TK Q (TN (WT ⟨_,[0,1],(SJ hm),Q,k0,Q⟩))))))))
  replace hm:=JF h11 hm;refine aU (WX (IE hm λv18 hm hz=>?_));rw [hz10 _ hz] at hm;exact WX (WH (WT ⟨_,[0,1],(SJ hm),Q,k0,Q⟩))
 refine WN [3] Q Q (RS (SA TK Q (SA TK Q (TN (WN [2] Q Q (TR ?_))))));obtain rfl:=OJ hm;exact EndsS.one _ Q (dY Q) (.refl _)
theorem mU {p0:Ab} {r:(List (List Bool))} (hm:bO p0=some r):zV TP 39 [p0.enc] (λN=>.sl 1 (r.map (λ(l:List Bool)=>D.own N 4 1 (l.map D.bool)))):=by
 refine oU (mv:=λ_=>false) (bD Q) func39 Q ntmps39 Q Q (λwX gX=>?_);unfold bO at hm;refine WN [0] Q Q (RS (cS 0 Q Q Q (SA TK Q (TN (WN [1] Q Q (RS (jH (f:=(λ(l:List Bool)=>D.own wX.heap.size 4 1 (l.map D.bool))) 1 36 1 Q Q Q (TN (WN [1,3] Q Q (aG hm (λb1=>([(3,.msl 1 1 0 b1.length)])) (λb1=>([(1,.flat 36 1 (b1.map (λ(l:List Bool)=>D.own wX.heap.size 4 1 (l.map D.bool))))])) [3] [] Q (λz2 hm=>?_) (λb1 hm=>?_)))))))))))
 ·refine RS (SA TK Q (c_N hm (bZ ·) Q Q Q Q λr3 hm=>BE hm λr4 hr4 hm=>SX Q Q (oW (uJ 4 _) Q Q Q (oB hr4)) (SX Q Q (bI TK Q Q Q) (SA TK Q (TN (WN [1,3,8,9,10] Q Q (TB (bT hm (λ(x8,b9)=>([(3,.msl 1 1 0 b9.length),(10,.d (.int .i64 x8))])) (λ(x8,b9)=>([(1,.flat 36 1 (b9.map (λ(l:List Bool)=>D.own wX.heap.size 4 1 (l.map D.bool))))])) [3,10] [1,8,9] [0,1] Q k0 Q Q Q Q Q (λs z10 hm hz10=>?_)))))))));obtain⟨x8,b9⟩:=s;refine WN [1,3,8,9,10] Q Q (RS (SA TK Q (TN (WN [1,3,8,9,10,11] Q Q (TQ (TC _ Q (λh11=>?_) (λh11=>?_)))))))
  ·replace hm:=JT h11 hm;refine TS (WT (WN [1,3,8,9,10] Q Q (TQ (TB (RS (VE hm λe12 he12 hm=>SX Q Q (dD TK Q Q Q Q he12) (SA TK Q (SA TK Q (TN (WN [1,3,5,8,9,10] Q Q (RS (SA TK Q (SA TK Q (BE hm λr13 hr13 hm=>?_))))))))))))));refine SX Q Q (RN Q Q (jU Q) ((iY hr13).args (.cons (.refl _) (.cons (own_sl _ _ _ _) .nil)))) (TN (WN [1,3,5,8,9,10,16] Q Q (TC _ Q (λh14=>?_) (λh14=>?_))))
   ·replace hm:=JA h14 hm;refine TG (SA TK Q (SA TK Q (SX Q Q (dW [.tmp 18] TK Q Q fY Q Q Q Q Q) (GE hm λg15 hm=>eG (f:=(λ(l:List Bool)=>D.own wX.heap.size 4 1 (l.map D.bool))) ([e12]:List (List Bool)) TK Q Q fY Q Q Q Q Q (λh=>absurd h (zQV _)) Q dX g15 Q Q (SA TK Q (TN (WK (WT (WN [1,3,8,9,10] Q Q (TG (GE hm λg16 hm=>SX Q Q (bA Q Q Q Q g16) (SA TK Q ?_))))))))))));exact TN (WT ⟨_,[0,1],(SJ hm),Q,k0,Q⟩)
   replace hm:=JB h14 hm;exact TS (WK (WT (WN [1,3,8,9,10] Q Q (TG (GE hm λg17 hm=>SX Q Q (bA Q Q Q Q g17) (SA TK Q (TN (WT ⟨_,[0,1],(SJ hm),Q,k0,Q⟩))))))))
  replace hm:=JF h11 hm;refine aU (WX (IE hm λv18 hm hz=>?_));rw [hz10 _ hz] at hm;exact WX (WH (WT ⟨_,[0,1],(SJ hm),Q,k0,Q⟩))
 refine WN [3] Q Q (RS (SA TK Q (SA TK Q (TN (WN [2] Q Q (TR ?_))))));obtain rfl:=OJ hm;exact EndsS.one _ Q (dY Q) (.refl _)
theorem oD {p0:Ab} {p1:Int} {r0:(List Bool)} {r1:Bool} (hm:bP p0 p1=some (r0,r1)):RetT TP 16 [p0.enc,.int .i64 p1] [.sl 1 (r0.map D.bool),.bool (r1)]:=by
 refine .of (mv:=λ_=>false) (cY (bD Q) func16 Q ntmps16 Q Q (λwX gX=>?_));unfold bP at hm;refine WN [0,1] Q Q (RS (cS 0 Q Q Q (SA TK Q (SA TK Q (TN (WN [1,2] Q Q (TQ (aG hm (λx1=>([(23,.d (.bool (x1)))])) (λx1=>[]) [23] [1,2] Q (λz2 hm=>?_) (λx1 hm=>?_)))))))))
 ·refine TG (SA TK Q (c_N hm (iZ ·) Q Q Q Q λr3 hm=>SA TK Q (SB TK Q (λq4 hq4=>?_))));cases q4
  ·replace hm:=JB hq4 hm;refine SA TK Q (SA TK Q (SA TK Q (SB TK Q (λq5 hq5=>?_))));cases q5
   ·replace hm:=JF hq5 hm;refine SA TK Q (SA TK Q (SA TK Q (SB TK Q (λq6 hq6=>?_))));cases q6
    ·replace hm:=JF hq6 hm;exact SA TK Q (c_N hm (bZ ·) Q Q Q Q λr7 hm=>SA TK Q (SA TK Q (SA TK Q (TN (WT ⟨_,[0],(SJ hm),Q,k0,Q⟩)))))
    replace hm:=JT hq6 hm;iterate 5 (refine SA TK Q ?_)
    exact TN (WT ⟨_,[0],(SJ hm),Q,k0,Q⟩)
   replace hm:=JT hq5 hm;iterate 9 (refine SA TK Q ?_)
   exact TN (WT ⟨_,[0],(SJ hm),Q,k0,Q⟩)
  replace hm:=JA hq4 hm;iterate 13 (refine SA TK Q ?_)
  exact TN (WT ⟨_,[0],(SJ hm),Q,k0,Q⟩)
 refine WN [1,2,23] Q Q (TC _ Q (λh8=>?_) (λh8=>?_))
 ·replace hm:=JA h8 hm;refine RS (SA TK Q (SA TK Q (TN (c_wk 4 [some 1] Q (WN [4,5] Q Q (TR (WR ?_)))))));obtain⟨rfl,rfl⟩:=Prod.mk.inj (Option.some.inj hm);exact EndsT.two Q (.d _) (.refl _) (.d _) (.refl _)
 replace hm:=JB h8 hm;refine TS (WT (WN [1,2] Q Q (RS (SA TK Q (BE hm λr9 hr9 hm=>SX Q Q (oW (uJ 4 _) Q Q Q (mU hr9)) (SA TK Q (TN (WN [1,2,6] Q Q (TQ (RS (SA TK Q (SX Q Q (bI TK Q Q Q) ?_))))))))))));refine SA TK Q (TN (WN [1,2,6,28] Q Q (TC _ Q (λh10=>?_) (λh10=>?_))))
 ·replace hm:=JT h10 hm;refine RS (SA TK Q (SA TK Q (TN (c_wk 4 [some 1] Q (WN [4,5] Q Q (TR (WR ?_)))))));obtain⟨rfl,rfl⟩:=Prod.mk.inj (Option.some.inj hm);exact EndsT.two Q (.d _) (.refl _) (.d _) (.refl _)
 replace hm:=JF h10 hm;refine TS (WT (WN [1,2,6] Q Q (aK follows  (DA [0] TK Q (VE hm λe11 he11 hm=>DX [0] Q Q (dD TK Q Q Q Q he11) ?_)))));iterate 3 (refine DA [0] TK Q ?_)
 refine yC [0] hm (bZ ·) Q Q Q Q λr12 hm=>GE hm λg13 hm=>DX [0] Q Q (bA Q Q Q Q g13) ?_;refine DT ?_ (by kernel_rfl);refine GE hm λg14 hm=>s_thaw 31 Q (zQW _) Q (uB _) Q Q ?_;refine s_appZ (f:=D.bool) (xs:=e11) false TK Q Q Q mK Q Q Q Q (λ_ _=>.bool _) Q Q Q (by simp) (λh=>absurd h (zQV _)) Q g14 Q Q ?_;refine SA TK Q (SA TK Q (TN (WN [4,5] Q Q (TR ?_))));obtain⟨rfl,rfl⟩:=Prod.mk.inj (Option.some.inj hm);exact EndsT.two Q (dY Q) (.refl _) (.d _) (.refl _)
theorem oE {p0:Ab} {p1:Int} {r0:Int} {r1:Int} (hm:bY p0 p1=some (r0,r1)):Ret TP 18 [] (λ_=>false) ([p0.enc,.int .i64 p1].map .d) (.tup ([.int .u64 r0,.int .i64 r1].map .d)) []:=by
 refine cY (bD Q) func18 Q ntmps18 Q Q (λwX gX=>?_);unfold bY at hm;refine WN [0,1] Q Q (RS (cS 0 Q Q Q (SA TK Q (SA TK Q (TN (WN [1,2] Q Q (TQ ?_)))))));refine fK [(13,.d (.bool (((decide (p1 < (0:Int)))||(decide ((62:Int) < p1))))))] [13] [1,2] Q ?_ ?_
 ·refine TG (SA TK Q (SA TK Q (SB TK Q (λq1 hq1=>?_))));cases q1
  ·refine SA TK Q (SA TK Q (SA TK Q (TN (WT ?_))));exact⟨[0],Q,k0,bU (aQ (aR (by first|(simp [hq1];done)|(simp only [hq1];simp))) Q) Q⟩
  refine SA TK Q (SA TK Q (SA TK Q (TN (WT ?_))));exact⟨[0],Q,k0,bU (aQ (aR (by first|(simp [hq1];done)|(simp only [hq1];simp))) Q) Q⟩
 refine WN [1,2,13] Q Q (TC _ Q (λh2=>?_) (λh2=>?_))
 ·replace hm:=JA h2 hm;refine RS (SA TK Q (SA TK Q (TN (WN [4,5] Q Q (TR (WR ?_))))));obtain⟨rfl,rfl⟩:=Prod.mk.inj (Option.some.inj hm);exact EndsT.two Q (.d _) (.refl _) (.d _) (.refl _)
 replace hm:=JB h2 hm;refine TS (WT (WN [1,2] Q Q (TQ (aG hm (λx3=>([(22,.d (.bool (x3)))])) (λx3=>[]) [22] [1,2] Q (λz4 hm=>?_) (λx3 hm=>?_)))))
 ·refine TG (SA TK Q (c_N hm (iZ ·) Q Q Q Q λr5 hm=>SA TK Q (SB TK Q (λq6 hq6=>?_))));cases q6
  ·replace hm:=JB hq6 hm;exact SA TK Q (c_N hm (bZ ·) Q Q Q Q λr7 hm=>SA TK Q (SA TK Q (SA TK Q (TN (WT ⟨_,[0],(SJ hm),Q,k0,Q⟩)))))
  replace hm:=JA hq6 hm;iterate 5 (refine SA TK Q ?_)
  exact TN (WT ⟨_,[0],(SJ hm),Q,k0,Q⟩)
 refine WN [1,2,22] Q Q (TC _ Q (λh8=>?_) (λh8=>?_))
 ·replace hm:=JA h8 hm;refine RS (SA TK Q (SA TK Q (TN (WN [4,5] Q Q (TR (WR ?_))))));obtain⟨rfl,rfl⟩:=Prod.mk.inj (Option.some.inj hm);exact EndsT.two Q (.d _) (.refl _) (.d _) (.refl _)
 replace hm:=JB h8 hm;refine TS (WT (WN [1,2] Q Q (RS (SA TK Q (c_D hm (mV ·) Q Q Q Q λr9 hm=>SX Q Q (bI TK Q Q Q) (SX Q Q (yO Q Try.underlying3 Try.underlying39 Q) (SA TK Q (TN (WN [1,2,6] Q Q (aG hm (λn10=>([(6,.d (.int .u64 n10))])) (λn10=>[]) [6] [] Q (λz11 hm=>?_) (λn10 hm=>?_)))))))))))
 ·refine RS (SA TK Q (c_N hm (bZ ·) Q Q Q Q λr12 hm=>SA TK Q (TN (WN [1,6,7] Q Q (TB (bT hm (λ(n15,i16)=>([(6,.d (.int .u64 n15)),(7,.d (.int .i64 i16))])) (λ(n15,i16)=>[]) [6,7] [1] [0] Q k0 Q Q Q Q Q (λs z17 hm hz17=>?_)))))));obtain⟨n15,i16⟩:=s;refine WN [1,6,7] Q Q (TQ (RS (SA TK Q (SA TK Q (SA TK Q (TN (WN [1,6,7,31] Q Q (TC _ Q (λh18=>?_) (λh18=>?_)))))))))
  ·replace hm:=JT h18 hm;refine TS (WT (WN [1,6,7] Q Q (TQ (TB (TG (SA TK Q (SX Q Q (oR Q Q Q Q) (SA TK Q (TN (WK (WT (WN [1,6,7] Q Q (TG ?_)))))))))))));exact SA TK Q (GE hm λg19 hm=>SX Q Q (bA Q Q Q Q g19) (SA TK Q (TN (WT ⟨_,[0],(SJ hm),Q,k0,Q⟩))))
  replace hm:=JF h18 hm;refine aU (WX (IE hm λv20 hm hz=>?_));rw [hz17 _ hz] at hm;exact WX (WH (WT ⟨_,[0],(SJ hm),Q,k0,Q⟩))
 refine WN [6] Q Q (RS (SA TK Q (SA TK Q (SA TK Q (TN (WN [4,5] Q Q (TR ?_)))))));obtain⟨rfl,rfl⟩:=Prod.mk.inj (Option.some.inj hm);exact EndsT.two Q (.d _) (.refl _) (.d _) (.refl _)
theorem oF {p0:Ab} {p1:Int} {r0:Int} {r1:Int} (hm:bY p0 p1=some (r0,r1)):RetT TP 18 [p0.enc,.int .i64 p1] [.int .u64 r0,.int .i64 r1]:=.of (mv:=λ_=>false) (oE hm)
theorem kE {p0:Ab} {p1:Int} {r:Bool} (hm:cV p0 p1=some r):Ret TP 4 [] (λ_=>false) ([p0.enc,.int .i64 p1].map .d) (.d (.bool (r))) []:=by
 refine aT (bD Q) func4 Q ntmps4 Q Q (λwX gX=>?_);unfold cV at hm;refine WN [0,1] Q Q (RS (cS 0 Q Q Q (SA TK Q (TN (WN [1,2] Q Q (TQ (RS (SA TK Q (c_N hm (oK ·) Q Q Q Q λr1 hm=>SA TK Q (TN (WN [1,2,16] Q Q (TC _ Q (λh2=>?_) (λh2=>?_)))))))))))))
 ·replace hm:=JA h2 hm;refine RS (BE hm λr3 hr3 hm=>SX Q Q (RN Q Q SN (jB hr3)) (SA TK Q (TN (WN [4] Q Q (TR (WR ?_))))));obtain rfl:=OJ hm;exact EndsS.one _ Q (.d _) (.refl _)
 replace hm:=JB h2 hm;refine TS (WT (WN [1,2] Q Q (RS (SA TK Q (SA TK Q (BE hm λr4 hr4 hm=>?_))))));obtain⟨r5,r6⟩:=r4;refine SX Q Q (cN Q Q Q (lS hr4)) ?_;iterate 5 (refine SA TK Q ?_)
 refine TN (WN [1,2,5,6] Q Q (RS (SA TK Q (SA TK Q (BE hm λr7 hr7 hm=>?_)))));obtain⟨r8,r9⟩:=r7;refine SX Q Q (cN Q Q Q (oD hr7)) ?_;iterate 5 (refine SA TK Q ?_)
 refine TN (WN [1,2,5,6,7,8] Q Q (RS (SA TK Q (SA TK Q (BE hm λr10 hr10 hm=>?_)))));obtain⟨r11,r12⟩:=r10;refine SX Q Q (cN Q Q Q (lT hr10)) ?_;iterate 5 (refine SA TK Q ?_)
 refine TN (WN [1,2,5,6,7,8,9,10] Q Q (RS (SA TK Q (SA TK Q (BE hm λr13 hr13 hm=>?_)))));obtain⟨r14,r15⟩:=r13;refine SX Q Q (cN Q Q Q (oF hr13)) ?_;iterate 5 (refine SA TK Q ?_)
 refine TN (WN [5,6,7,8,9,10,11,12] Q Q (TQ ?_));refine fK [(61,.d (.bool (((!((r6 == r9)))||((!(decide ((r5.length:Int)=(r8.length:Int))))||((!(decide (r11=r14)))||(!(decide (r12=r15)))))))))] [61] [5,7] Q ?_ ?_
 ·refine TG (SA TK Q (SA TK Q (SA TK Q (SB TK Q (λq16 hq16=>?_)))));cases q16
  ·refine SA TK Q (SX Q Q (bI TK Q Q Q) (SA TK Q (SX Q Q (bI TK Q Q Q) (SA TK Q (SA TK Q (SB TK Q (λq17 hq17=>?_)))))));cases q17
   ·iterate 4 (refine SA TK Q ?_)
    refine SB TK Q (λq18 hq18=>?_);cases q18
    ·iterate 4 (refine SA TK Q ?_)
     refine TN (WT ?_);exact⟨[0],Q,k0,bU (aQ (aR (by first|(simp [hq16,hq17,hq18];done)|(simp only [hq16,hq17,hq18];simp))) Q) Q⟩
    iterate 4 (refine SA TK Q ?_)
    refine TN (WT ?_);exact⟨[0],Q,k0,bU (aQ (aR (by first|(simp [hq16,hq17,hq18];done)|(simp only [hq16,hq17,hq18];simp))) Q) Q⟩
   iterate 9 (refine SA TK Q ?_)
   refine TN (WT ?_);exact⟨[0],Q,k0,bU (aQ (aR (by first|(simp [hq16,hq17];done)|(simp only [hq16,hq17];simp))) Q) Q⟩
  iterate 16 (refine SA TK Q ?_)
  refine TN (WT ?_);exact⟨[0],Q,k0,bU (aQ (aR (by first|(simp [hq16];done)|(simp only [hq16];simp))) Q) Q⟩
 refine WN [5,7,61] Q Q (TC _ Q (λh19=>?_) (λh19=>?_))
 ·replace hm:=JA h19 hm;refine RS (SA TK Q (TN (WN [4] Q Q (TR (WR ?_)))));obtain rfl:=OJ hm;exact EndsS.one _ Q (.d _) (.refl _)
 replace hm:=JB h19 hm;refine TS (WT (WN [5,7] Q Q (cO hm (λ_=>[]) (λ_=>[]) [] [] Q (λz20 hm hz20=>?_) (λj hm=>?_))))
 ·refine RS (SA TK Q (SX Q Q (bI TK Q Q Q) (SA TK Q (TN (WN [5,7,63,64] Q Q (TB (bT hm (λx22=>([(64,.d (.int .i64 x22))])) (λx22=>[]) [64] [5,7,63] [0] Q k0 Q Q Q Q Q (λx22 z23 hm hz23=>WN [5,7,63,64] Q Q (RS (SA TK Q (TN (WN [5,7,63,64,65] Q Q (TQ (TC _ Q (λh24=>?_) (λh24=>?_)))))))))))))))
  ·replace hm:=JT h24 hm;refine TS (WT (WN [5,7,63,64] Q Q (TQ (TB (RS (SA TK Q (SA TK Q (TN (WN [5,7,13,63,64] Q Q (aK follows  ?_))))))))));iterate 2 (refine DA [0] TK Q ?_)
   refine VE hm λe25 he25 hm=>DX [0] Q Q (dD TK Q Q Q Q he25) ?_;iterate 3 (refine DA [0] TK Q ?_)
   refine VE hm λe26 he26 hm=>DX [0] Q Q (dD TK Q Q Q Q he26) ?_;iterate 2 (refine DA [0] TK Q ?_)
   refine DT ?_ (by kernel_rfl);refine TN (WN [5,7,63,64,75] Q Q (TC _ Q (λh27=>?_) (λh27=>?_)))
   ·replace hm:=JA h27 hm;refine RS (SA TK Q (TN (WN [4] Q Q (TR (WB (WR (IE hm λv28 hm hz=>?_)))))));rw [hz23 _ hz] at hm;refine WR (WB (IE hm λv29 hm hz=>?_));rw [hz20 _ hz] at hm;refine WR ?_;obtain rfl:=OJ hm;exact EndsS.one _ Q (.d _) (.refl _)
   replace hm:=JB h27 hm;exact TS (WK (WT (WN [5,7,63,64] Q Q (TG (GE hm λg30 hm=>SX Q Q (bA Q Q Q Q g30) (SA TK Q (TN (WT ⟨_,[0],(SJ hm),Q,k0,Q⟩))))))))
  replace hm:=JF h24 hm;refine aU (WX (IE hm λv31 hm hz=>?_));rw [hz23 _ hz] at hm;exact WX (WH (WT ⟨_,[0],(SJ hm),Q,k0,Q⟩))
 refine WN [] Q Q (RS (BE hm λr32 hr32 hm=>SX Q Q (RN Q Q SN (jB hr32)) (SA TK Q (TN (WN [4] Q Q (TR ?_))))));obtain rfl:=OJ hm;exact EndsS.one _ Q (.d _) (.refl _)
end Go.Proofs.Ytdkhkhidekpfoaa
set_option maxHeartbeats 8000000
set_option linter.unusedSimpArgs false
set_option linter.unusedVariables false
set_option maxRecDepth 20000
namespace Go.Proofs.Ytdkhkhidekpfoaa
open Go Go.TL
@[simp] theorem aB {α:Type} {p:Prop} [Decidable p] {k:Option α} (h:p):aC p k=k:=if_pos h
@[simp] theorem aA {α β:Type} (a:α) (k:α->Option β):aD (some a) k=k a:=rfl
@[simp] theorem dR {α β:Type} (a:α) (k:α->Option β):eJ (some (.inl a)) k=k a:=rfl
@[simp] theorem bindS_inr {α β:Type} (b:β) (k:α->Option β):eJ (some (.inr b)) k=some b:=rfl
@[simp] theorem inrM_some {α β:Type} (b:β):(aX (some b):Option (α ⊕ β))=some (.inr b):=rfl
theorem cQ {α β:Type} {l:List α} {i:Nat} {e:α} {k:α->Option β} (h:l[i]?=some e):bH l (i:Int) k=k e:=by simp [bH,h]
theorem bM {α β:Type} {l:List α} {i:Int} {e:α} {k:α->Option β} (h0:0<=i) (h:l[i.toNat]?=some e):bH l i k=k e:=by simp [bH,h0,h]
@[simp] theorem ite_bindM {α β:Type} {p:Prop} [Decidable p] (a b:α) (k:α->Option β):aD (if p then some a else some b) k=k (if p then a else b):=by split<;>rfl
variable {σ ρ:Type}
theorem rV {f:σ->Option (σ ⊕ ρ)} (B:Nat->σ) {o:ρ}:∀ (n k:Nat),(∀ i,k<=i->i < k+n->f (B i)=some (.inl (B (i+1))))->f (B (k+n))=some (.inr o)->eI f (n+1) (B k)=some o
 | 0,k,_,he=>by simp only [Nat.add_zero] at he;simp [eI,he]
 | n+1,k,hf,he=>by
  simp only [eI];rw [hf k (zQW _) (by omega)];exact rV B n (k+1) (λi h1 h2=>hf i (by omega) (by omega)) (by rw [show k+1+n=k+(n+1) by omega];exact he)
theorem fG {f:σ->Option (σ ⊕ ρ)} (B:Nat->σ) (n:Nat) {o:ρ} {s:σ} (hs:s=B 0) (hn:n<=9223372036854775807) (hf:∀ i,i < n->f (B i)=some (.inl (B (i+1)))) (he:f (B n)=some (.inr o)):bR f s=some o:=by
 subst hs;exact xH (rV B n 0 (λi _ h=>hf i (by omega)) (by rw [Nat.zero_add];exact he)) (by unfold aO;omega)
theorem rM {f : Int -> Option (Int ⊕ ρ)} (n : Nat) (c : Nat -> Option ρ) (o : ρ) (hn : n <= 9223372036854775807) (hf : ∀ i, i < n -> f (i : Int) = match c i with
  | some r => some (.inr r)
  | none => some (.inl ((i : Int) + 1))) (he : f (n : Int) = some (.inr o)) : bR f 0 = some (((List.range n).findSome? c).getD o) := by
 cases h:(List.range n).findSome? c with
 | none=>
  rw [List.findSome?_eq_none_iff] at h;refine fG (λi=>(i:Int)) n rfl hn (λi hi=>?_) he;rw [hf i hi,h i (List.mem_range.2 hi)];rfl
 | some r=>
  rw [List.findSome?_eq_some_iff] at h;obtain⟨l1,a,l2,h1,h2,h3⟩:=h
  have ha:l1.length=a/\a < n:=by
   have hlen:l1.length < (List.range n).length:=by rw [h1];simp
   have:(List.range n)[l1.length]?=some a:=by rw [h1];simp
   simp only [List.length_range] at hlen;simp [hlen] at this;exact⟨this,by omega⟩
  obtain⟨ha1,ha2⟩:=ha;refine fG (λi=>(i:Int)) a rfl (by omega) (λi hi=>?_) ?_
  ·have hm:i∈l1:=by
    have:(List.range n)[i]?=some i:=List.getElem?_range (by omega);rw [h1,List.getElem?_append_left (by omega)] at this;exact zQM this
   rw [hf i (by omega),h3 i hm];rfl
  rw [hf a ha2,h2];rfl
theorem nK {α β:Type} (l:List α) (c:Nat->Option β) (d:α->Option β) (h:∀ (i:Nat) (e:α),l[i]?=some e->c i=d e):(List.range l.length).findSome? c=l.findSome? d:=by
 induction l generalizing c with
 | nil=>rfl
 | cons x r ih=>
  rw [List.length_cons,List.range_succ_eq_map,List.findSome?_cons,List.findSome?_map,List.findSome?_cons,h 0 x rfl]
  cases d x with
  | some b=>rfl
  | none=>exact ih (c ∘ Nat.succ) λi e he=>h (i+1) e (by simpa using he)
theorem vG {α : Type} {f : Int -> Option (Int ⊕ ρ)} (l : List α) (d : α -> Option ρ) (o : ρ) (hn : l.length <= 9223372036854775807) (hf : ∀ (i : Nat) (e : α), l[i]? = some e -> f (i : Int) = match d e with
  | some r => some (.inr r)
  | none => some (.inl ((i : Int) + 1))) (he : f (l.length : Int) = some (.inr o)) : bR f 0 = some ((l.findSome? d).getD o) := by
 rw [rM l.length (λi=>(l[i]?).bind d) o hn (λi hi=>?_) he,nK l _ d (λi e he=>by simp [he])];rw [hf i l[i] (by simp),zQR hi];rfl
theorem kF {α β:Type} (l:List α) (c:α->Bool) (v:β):l.findSome? (λe=>if c e=true then some v else none)=if l.any c=true then some v else none:=by
 induction l with
 | nil=>rfl
 | cons x r ih=>
  rw [List.findSome?_cons,List.any_cons,ih];cases c x<;>simp
theorem nE {α:Type} {f:Int->Option (Int ⊕ ρ)} (l:List α) (c:α->Bool) (v o:ρ) (hn:l.length<=9223372036854775807) (hf:∀ (i:Nat) (e:α),l[i]?=some e->f (i:Int)=if c e=true then some (.inr v) else some (.inl ((i:Int)+1))) (he:f (l.length:Int)=some (.inr o)):bR f 0=some (if l.any c=true then v else o):=by
 rw [vG l (λe=>if c e=true then some v else none) o hn (λi e h=>by rw [hf i e h];cases c e<;>simp) he,kF];split<;>rfl
theorem kU {f:Int->Option (Int ⊕ ρ)} (n:Nat) (c:Nat->Bool) (v o:ρ) (hn:n<=9223372036854775807) (hf:∀ i,i < n->f (i:Int)=if c i=true then some (.inr v) else some (.inl ((i:Int)+1))) (he:f (n:Int)=some (.inr o)):bR f 0=some (if (List.range n).any c=true then v else o):=by
 rw [rM n (λe=>if c e=true then some v else none) o hn (λi h=>by rw [hf i h];cases c i<;>simp) he,kF];split<;>rfl
theorem kC {β:Type} {f:Int×β->Option ((Int×β) ⊕ ρ)} (n:Nat) (B:Nat->β) {o:ρ} {b:β} (hb:b=B 0) (hn:n<=9223372036854775807) (hf:∀ i,i < n->f ((i:Int),B i)=some (.inl ((i:Int)+1,B (i+1)))) (he:f ((n:Int),B n)=some (.inr o)):bR f (0,b)=some o:=
 fG (λi=>((i:Int),B i)) n (by rw [hb];rfl) hn (λi hi=>by rw [hf i hi];rfl) he
theorem vH {β:Type} {f:Int×β->Option ((Int×β) ⊕ ρ)} (n:Nat) (B:Nat->β) (c:Nat->Bool) (v o:ρ) {b:β} (hb:b=B 0) (hn:n<=9223372036854775807) (hf:∀ i,i < n->(∀ j,j < i->c j=false)->f ((i:Int),B i)=if c i=true then some (.inr v) else some (.inl ((i:Int)+1,B (i+1)))) (he:(∀ j,j < n->c j=false)->f ((n:Int),B n)=some (.inr o)):bR f (0,b)=some (if (List.range n).any c=true then v else o):=by
 cases h:(List.range n).findIdx? c with
 | none=>
  rw [List.findIdx?_eq_none_iff] at h;have hall:∀ j,j < n->c j=false:=λj hj=>by simpa using h j (List.mem_range.2 hj)
  have hno:¬ (List.range n).any c=true:=by
   rw [zQU];rintro⟨j,hj,hc⟩;rw [hall j (List.mem_range.1 hj)] at hc;cases hc
  rw [if_neg hno];exact kC n B hb hn (λi hi=>by rw [hf i hi (λj hj=>hall j (by omega)),hall i hi];rfl) (he hall)
 | some k=>
  rw [List.findIdx?_eq_some_iff_getElem] at h;obtain⟨hk,h1,h2⟩:=h;simp only [List.length_range] at hk;simp only [List.getElem_range] at h1;have hb':∀ j,j < k->c j=false:=λj hj=>by have:=h2 j hj;simpa using this
  have hyes:(List.range n).any c=true:=zQU.2 ⟨k,List.mem_range.2 hk,h1⟩;rw [if_pos hyes];exact kC k B hb (by omega) (λi hi=>by rw [hf i (by omega) (λj hj=>hb' j (by omega)),hb' i hi];rfl) (by rw [hf k hk hb',h1];rfl)
def bitI (b:Bool):Int:=if b=true then 1 else 0
abbrev Fn:=List Bool->Bool
def Has (D:List Aa):Nat->Fn->Int->Int->Prop
 | 0,f,_,x=>x=bitI (f [])
 | k+1,f,v,x=>∃ lo hi,Has D k (λl=>f (false :: l)) (v+1) lo/\Has D k (λl=>f (true :: l)) (v+1) hi/\(if lo=hi then x=lo else 2<=x/\D[(x - 2).toNat]?=some ⟨v,lo,hi⟩)
def aW (D:List Aa) (x:Int):Int:=if x < 2 then 64 else match D[(x - 2).toNat]? with|some n=>n.var|none=>64
def evF (D:List Aa) (s:Int->Bool):Nat->Int->Bool
 | 0,x=>decide (x=1)
 | f+1,x=>if x < 2 then decide (x=1) else match D[(x - 2).toNat]? with|some n=>evF D s f (if s n.var=true then n.hi else n.lo)|none=>false
def jG (D:List Aa) (x:Int) (s:Int->Bool):Bool:=evF D s x.toNat x
structure WfD (D:List Aa):Prop where
 vars:∀ (i:Nat) (n:Aa),D[i]?=some n->0<=n.var/\n.var < 64
 lo:∀ (i:Nat) (n:Aa),D[i]?=some n->0<=n.lo/\n.lo < (i:Int)+2/\n.var < aW D n.lo
 hi:∀ (i:Nat) (n:Aa),D[i]?=some n->0<=n.hi/\n.hi < (i:Int)+2/\n.var < aW D n.hi
 ne:∀ (i:Nat) (n:Aa),D[i]?=some n->n.lo≠n.hi
theorem nN {D:List Aa} (h:WfD D) (s:Int->Bool):∀ (f:Nat) (x:Int),0<=x->x<=(f:Int)->evF D s f x=evF D s x.toNat x
 | 0,x,h0,h1=>by rw [show x=0 by omega];rfl
 | f+1,x,h0,h1=>by
  by_cases hx:x < 2
  ·rcases (by omega : x = 0 \/ x = 1) with e | e <;> subst e
   ·rfl
   rfl
  obtain ⟨m, hm⟩ : ∃ m : Nat, x.toNat = m + 1 := ⟨x.toNat - 1, by omega⟩;rw [hm];unfold evF;rw [if_neg hx,if_neg hx]
  cases hn:D[(x - 2).toNat]? with
  | none=>rfl
  | some n=>
   dsimp only;have hl:=h.lo _ n hn;have hh:=h.hi _ n hn;have hc:0<=(if s n.var=true then n.hi else n.lo)/\(if s n.var=true then n.hi else n.lo) < x:=by split<;>omega
   rw [nN h s f _ hc.1 (by omega),nN h s m _ hc.1 (by omega)]
theorem val_0 (D:List Aa) (s:Int->Bool):jG D 0 s=false:=rfl
theorem eR {D:List Aa} (h:WfD D) {x:Int} {n:Aa} (hx:2<=x) (hn:D[(x - 2).toNat]?=some n) (s:Int->Bool):jG D x s=jG D (if s n.var=true then n.hi else n.lo) s:=by
 have hl:=h.lo _ n hn;have hh:=h.hi _ n hn;have hc:0<=(if s n.var=true then n.hi else n.lo)/\(if s n.var=true then n.hi else n.lo) < x:=by split<;>omega
 obtain⟨m,hm⟩:∃ m:Nat,x.toNat=m+1:=⟨x.toNat - 1,by omega⟩;unfold jG;rw [hm]
 conv=>lhs;unfold evF
 rw [if_neg (by omega),hn];dsimp only;exact nN h s m _ hc.1 (by omega)
theorem fL {D:List Aa} (h:WfD D) {s u:Int->Bool}:∀ (m:Nat) (x:Int),0<=x->x.toNat<=m->(∀ w,aW D x<=w->w < 64->s w=u w)->jG D x s=jG D x u
 | m,x,h0,hm,hs=>by
  by_cases hx:x < 2
  ·rcases (by omega:x=0\/x=1) with e|e<;>subst e<;>rfl
  cases hn:D[(x - 2).toNat]? with
  | none=>
   unfold jG;obtain⟨q,hq⟩:∃ q:Nat,x.toNat=q+1:=⟨x.toNat - 1,by omega⟩;rw [hq];unfold evF;rw [if_neg hx,if_neg hx,hn]
  | some n=>
   have hvx:aW D x=n.var:=by unfold aW;rw [if_neg hx,hn]
   have hl:=h.lo _ n hn;have hh:=h.hi _ n hn;have hv:=h.vars _ n hn;rw [eR h (by omega) hn,eR h (by omega) hn,hs n.var (by omega) hv.2]
   cases m with
   | zero=>omega
   | succ m=>
    split
    ·exact fL h m _ hh.1 (by omega) λw hw hw2=>hs w (by omega) hw2
    exact fL h m _ hl.1 (by omega) λw hw hw2=>hs w (by omega) hw2
def asg (v:Int) (l:List Bool):Int->Bool:=λw=>decide (v<=w)&&l.getD (w - v).toNat false
theorem nW {v:Int} {b:Bool} {l:List Bool} {w:Int} (h:v < w):asg v (b :: l) w=asg (v+1) l w:=by
 unfold asg;rw [decide_eq_true (show v<=w by omega),decide_eq_true (show v+1<=w by omega),show (w - v).toNat=(w - (v+1)).toNat+1 by omega];rfl
theorem sN (v:Int) (b:Bool) (l:List Bool):asg v (b :: l) v=b:=by
 unfold asg;rw [decide_eq_true (Int.le_refl v),Int.sub_self];rfl
def fnD (D:List Aa) (x v:Int):Fn:=λl=>jG D x (asg v l)
def InD (D:List Aa) (x:Int):Prop:=0<=x/\x < (D.length:Int)+2
theorem InD.get {D:List Aa} {x:Int} (h:InD D x) (hx:2<=x):∃ n,D[(x - 2).toNat]?=some n:=⟨_,zQR (by have:=h.2;omega)⟩
theorem uQ {D:List Aa} (h:WfD D) {x v:Int} (h0:0<=x) (hv:v < aW D x) (b:Bool) (l:List Bool):fnD D x v (b :: l)=fnD D x (v+1) l:=
 fL h x.toNat x h0 (zQW _) λw hw _=>nW (by omega)
def dP (D:List Aa):Nat->Int->Int->Option Int
 | 0,_,_=>none
 | f+1,x,left=>if x < 2\/x < left then some left else match D[(x - 2).toNat]? with
  | none=>none
  | some n=>(dP D f n.lo left).bind λl1=>(dP D f n.hi l1).bind λl2=>if x=l2 then some (l2+1) else none
theorem qAI {D:List Aa} (h:WfD D) {x:Int} {n:Aa} (hx:2<=x) (hn:D[(x - 2).toNat]?=some n) (l:List Bool):fnD D x n.var (false :: l)=fnD D n.lo (n.var+1) l:=by
 have hl:=h.lo _ n hn;show jG D x _=jG D n.lo _;rw [eR h hx hn,sN,if_neg (by simp)];exact fL h n.lo.toNat n.lo hl.1 (zQW _) λw hw2 _=>nW (by omega)
theorem qAJ {D:List Aa} (h:WfD D) {x:Int} {n:Aa} (hx:2<=x) (hn:D[(x - 2).toNat]?=some n) (l:List Bool):fnD D x n.var (true :: l)=fnD D n.hi (n.var+1) l:=by
 have hl:=h.hi _ n hn;show jG D x _=jG D n.hi _;rw [eR h hx hn,sN,if_pos rfl];exact fL h n.hi.toNat n.hi hl.1 (zQW _) λw hw2 _=>nW (by omega)
section merge
variable (A B:List Aa) (op:Bool->Bool->Bool) (N:Int)
def fn2 (x y v:Int):Fn:=λl=>op (fnD A x v l) (fnD B y v l)
def Has2 (D:List Aa) (x y r:Int):Prop:=∀ (v:Int) (k:Nat),v+k=N->v<=aW A x->v<=aW B y->Has D k (fn2 A B op x y v) v r
variable {A B} {op N}
end merge
structure MS where
 nodes:List Aa
 done:Int×Int->Option Int
 full:Bool
def opQ (all:Bool):Bool->Bool->Bool:=λa b=>if all=true then a&&b else a||b
section
variable {A B:List Aa} {all:Bool} {N:Int}
structure MOk (A B:List Aa) (all:Bool) (N:Int) (s:MS):Prop where
 nodup:s.nodes.Nodup
 part:s.full=false
 done:∀ x y r,s.done (x,y)=some r->InD A x/\InD B y/\Has2 A B (opQ all) N s.nodes x y r
end
def aP:Nat->List (List Bool)
 | 0=>[[]]
 | k+1=>(aP k).map (false :: ·)++(aP k).map (true :: ·)
theorem oZ:∀ k,(aP k).length=2 ^ k
 | 0=>rfl
 | k+1=>by rw [aP,zQL,zQC,zQC,oZ k,Nat.pow_succ];omega
def cL (f:Fn):Nat->Option (List Bool)
 | 0=>if f []=true then some [] else none
 | k+1=>match cL (λl=>f (false :: l)) k with
  | some l=>some (false :: l)
  | none=>(cL (λl=>f (true :: l)) k).map (true :: ·)
theorem sA (f:Fn) (k:Nat):cL f (k+1)=match cL (λl=>f (false :: l)) k with
  | some l=>some (false :: l)
  | none=>(cL (λl=>f (true :: l)) k).map (true :: ·):=rfl
theorem gI:∀ (k:Nat) (f:Fn),((aP k).filter f).head?=cL f k
 | 0,f=>by
  show ([[]].filter f).head?=_;unfold cL;cases h:f []<;>simp [List.filter,h]
 | k+1,f=>by
  have h0:((aP k).map (false :: ·)).filter f=((aP k).filter (λl=>f (false :: l))).map (false :: ·):=by rw [List.filter_map];rfl
  have h1:((aP k).map (true :: ·)).filter f=((aP k).filter (λl=>f (true :: l))).map (true :: ·):=by rw [List.filter_map];rfl
  rw [aP,List.filter_append,h0,h1,List.head?_append,List.head?_map,List.head?_map,gI k,gI k,sA]
  cases cL (λl=>f (false :: l)) k with
  | some l=>rfl
  | none=>rfl
def cR (f:Fn):Nat->Nat
 | 0=>if f []=true then 1 else 0
 | k+1=>cR (λl=>f (false :: l)) k+cR (λl=>f (true :: l)) k
theorem jP:∀ (k:Nat) (f:Fn),((aP k).filter f).length=cR f k
 | 0,f=>by
  show ([[]].filter f).length=_;unfold cR;cases h:f []<;>simp [List.filter,h]
 | k+1,f=>by
  have h0:((aP k).map (false :: ·)).filter f=((aP k).filter (λl=>f (false :: l))).map (false :: ·):=by rw [List.filter_map];rfl
  have h1:((aP k).map (true :: ·)).filter f=((aP k).filter (λl=>f (true :: l))).map (true :: ·):=by rw [List.filter_map];rfl
  rw [aP,List.filter_append,h0,h1,zQL,zQC,zQC,jP k,jP k];rfl
theorem eD:∀ {k:Nat} {f g:Fn},(∀ l,l.length=k->f l=g l)->cL f k=cL g k
 | 0,f,g,h=>by unfold cL;rw [h [] rfl]
 | k+1,f,g,h=>by
  unfold cL;rw [eD (k:=k) (f:=λl=>f (false :: l)) (g:=λl=>g (false :: l)) λl hl=>h _ (by simp [hl]),eD (k:=k) (f:=λl=>f (true :: l)) (g:=λl=>g (true :: l)) λl hl=>h _ (by simp [hl])]
theorem cX:∀ {k:Nat} {f g:Fn},(∀ l,l.length=k->f l=g l)->cR f k=cR g k
 | 0,f,g,h=>by unfold cR;rw [h [] rfl]
 | k+1,f,g,h=>by
  unfold cR;rw [cX (k:=k) (f:=λl=>f (false :: l)) (g:=λl=>g (false :: l)) λl hl=>h _ (by simp [hl]),cX (k:=k) (f:=λl=>f (true :: l)) (g:=λl=>g (true :: l)) λl hl=>h _ (by simp [hl])]
theorem gH:∀ {k:Nat} {f:Fn},(∀ l,l.length=k->f l=false)->cL f k=none
 | 0,f,h=>by unfold cL;rw [h [] rfl];rfl
 | k+1,f,h=>by
  unfold cL;rw [gH (k:=k) (f:=λl=>f (false :: l)) λl hl=>h _ (by simp [hl]),gH (k:=k) (f:=λl=>f (true :: l)) λl hl=>h _ (by simp [hl])];rfl
theorem lA (c:Bool):∀ {k:Nat} {f:Fn},(∀ l,l.length=k->f l=c)->cR f k=if c=true then 2 ^ k else 0
 | 0,f,h=>by unfold cR;rw [h [] rfl]
 | k+1,f,h=>by
  unfold cR;rw [lA c (k:=k) (f:=λl=>f (false :: l)) λl hl=>h _ (by simp [hl]),lA c (k:=k) (f:=λl=>f (true :: l)) λl hl=>h _ (by simp [hl]),Nat.pow_succ];split<;>omega
theorem nQ : ∀ (k j : Nat) (f : Fn), (∀ l m n, l.length = k -> m.length = j -> n.length = j -> f (l ++ m) = f (l ++ n)) -> cR f (k + j) = cR (fun l => f (l ++ List.replicate j false)) k * 2 ^ j
 | 0,j,f,h=>by
  rw [Nat.zero_add,lA (f (List.replicate j false)) (f:=f) λl hl=>by have:=h [] l (List.replicate j false) rfl hl (by simp);simpa using this];unfold cR;simp only [List.nil_append];split<;>simp
 | k+1,j,f,h=>by
  rw [show k+1+j=(k+j)+1 by omega];unfold cR;rw [nQ k j (λl=>f (false :: l)) λl m n hl hm hn=>h (false :: l) m n (by simp [hl]) hm hn,nQ k j (λl=>f (true :: l)) λl m n hl hm hn=>h (true :: l) m n (by simp [hl]) hm hn,Nat.add_mul];rfl
def cC (D:List Aa):Nat->Int->Int->List Bool
 | 0,_,_=>[]
 | k + 1, x, v => if aW D x = v then (match D[(x - 2).toNat]? with
   | some n => if n.lo ≠ 0 then false :: cC D k n.lo (v + 1) else true :: cC D k n.hi (v + 1)
   | none => false :: cC D k x (v + 1))
  else false :: cC D k x (v+1)
theorem fQ (D:List Aa):∀ (k:Nat) (x v:Int),(cC D k x v).length=k
 | 0,x,v=>rfl
 | k+1,x,v=>by
  unfold cC;split
  ·split
   ·split<;>simp [fQ D k]
   simp [fQ D k]
  simp [fQ D k]
theorem fH {D:List Aa} (h:WfD D):∀ (k:Nat) (x v:Int),InD D x->x≠0->v<=aW D x->v+k<=64->(∀ (i:Nat) (n:Aa),D[i]?=some n->n.var < v+k)->cL (fnD D x v) k=some (cC D k x v)
 | 0,x,v,hx,hne,hv,h64,hall=>by
  have hx1:x=1:=by
   rcases Int.lt_or_le x 2 with h1|h1
   ·have:=hx.1;omega
   obtain⟨n,hn⟩:=hx.get h1;have hvx:aW D x=n.var:=by unfold aW;rw [if_neg (by omega),hn]
   have:=hall _ n hn;omega
  subst hx1;rfl
 | k+1,x,v,hx,hne,hv,h64,hall=>by
  have hall':∀ (i:Nat) (n:Aa),D[i]?=some n->n.var < v+1+(k:Int):=λi n hn=>by have:=hall i n hn;omega
  unfold cL cC;by_cases he:aW D x=v
  ·have h2:2<=x:=by
    rcases Int.lt_or_le x 2 with h1|h1
    ·unfold aW at he;rw [if_pos h1] at he;omega
    exact h1
   obtain⟨n,hn⟩:=hx.get h2;have hvx:aW D x=n.var:=by unfold aW;rw [if_neg (by omega),hn]
   have hl:=h.lo _ n hn;have hh:=h.hi _ n hn;have hvn:v=n.var:=by omega
   subst hvn;have inlo:InD D n.lo:=⟨hl.1,by have:=hx.2;omega⟩;have inhi:InD D n.hi:=⟨hh.1,by have:=hx.2;omega⟩;rw [if_pos he,hn,eD (g:=fnD D n.lo (n.var+1)) λl _=>qAI h h2 hn l,eD (f:=λl=>fnD D x n.var (true :: l)) (g:=fnD D n.hi (n.var+1)) λl _=>qAJ h h2 hn l];dsimp only;by_cases hz:n.lo=0
   ·rw [if_neg (by simpa using hz), gH (f := fnD D n.lo (n.var + 1)) fun l _ => by rw [hz]; rfl];dsimp only;rw [fH h k n.hi (n.var+1) inhi (λe=>h.ne _ n hn (by omega)) (by omega) (by omega) hall'];rfl
   rw [if_pos hz,fH h k n.lo (n.var+1) inlo hz (by omega) (by omega) hall']
  have hsk : ∀ (b : Bool) (l : List Bool), fnD D x v (b :: l) = fnD D x (v + 1) l := fun b l => uQ h hx.1 (by omega) b l;rw [if_neg he,eD (g:=fnD D x (v+1)) λl _=>hsk false l,fH h k x (v+1) hx hne (by omega) (by omega) hall']
theorem nF {D:List Aa}:∀ (k:Nat) (x v:Int),x < 2->v+k<=64->cC D k x v=List.replicate k false
 | 0,x,v,_,_=>rfl
 | k+1,x,v,hx,h64=>by
  unfold cC;rw [if_neg (by unfold aW;rw [if_pos hx];omega),nF k x (v+1) hx (by omega),List.replicate_succ]
theorem xW {D:List Aa} (h:WfD D) {x:Int} (hx:0<=x):∀ (d:Nat) (v:Int) (k:Nat),v+d<=aW D x->cR (fnD D x v) (d+k)=2 ^ d * cR (fnD D x (v+d)) k
 | 0,v,k,_=>by simp
 | d+1,v,k,hv=>by
  have hs:∀ (b:Bool) (l:List Bool),fnD D x v (b :: l)=fnD D x (v+1) l:=λb l=>uQ h hx (by omega) b l;rw [show d+1+k=(d+k)+1 by omega];show cR (λl=>fnD D x v (false :: l)) (d+k)+cR (λl=>fnD D x v (true :: l)) (d+k)=_;rw [cX (g:=fnD D x (v+1)) λl _=>hs false l,cX (f:=λl=>fnD D x v (true :: l)) (g:=fnD D x (v+1)) λl _=>hs true l,xW h hx d (v+1) k (by omega),show v+1+(d:Int)=v+((d+1:Nat):Int) by omega,Nat.pow_succ];rw [Nat.mul_right_comm];omega
theorem xY {D:List Aa} (h:WfD D) {x:Int} {n:Aa} (hx:2<=x) (hn:D[(x - 2).toNat]?=some n) (k:Nat):cR (fnD D x n.var) (k+1)=cR (fnD D n.lo (n.var+1)) k+cR (fnD D n.hi (n.var+1)) k:=by
 show cR (λl=>fnD D x n.var (false :: l)) k+cR (λl=>fnD D x n.var (true :: l)) k=_;rw [cX (g:=fnD D n.lo (n.var+1)) λl _=>qAI h hx hn l,cX (f:=λl=>fnD D x n.var (true :: l)) (g:=fnD D n.hi (n.var+1)) λl _=>qAJ h hx hn l]
theorem mG:∀ (k:Nat) (f:Fn),cR f k<=2 ^ k
 | 0,f=>by unfold cR;split<;>simp
 | k+1,f=>by
  have h1:=mG k (λl=>f (false :: l));have h2:=mG k (λl=>f (true :: l));show cR (λl=>f (false :: l)) k+cR (λl=>f (true :: l)) k<=_;rw [Nat.pow_succ];omega
def fC (D:List Aa):Nat->Int->List Int->List Int
 | 0,_,left=>left
 | f+1,x,left=>if x < 2 then left else if x∈left then left else match D[(x - 2).toNat]? with
  | none=>left
  | some n=>fC D f n.hi (fC D f n.lo left)++[x]
def eW (m:Nat):List Int:=(List.range m).map λ(i:Nat)=>(i:Int)+2
theorem dH (m:Nat):(eW m).length=m:=by simp [eW]
theorem ordL_mem {m:Nat} {x:Int}:x∈eW m↔2<=x/\x < (m:Int)+2:=by
 unfold eW;rw [List.mem_map];constructor
 ·rintro⟨i,hi,rfl⟩;have:=List.mem_range.1 hi;omega
 rintro⟨h1,h2⟩;exact⟨(x - 2).toNat,List.mem_range.2 (by omega),by omega⟩
theorem oX (m:Nat):eW (m+1)=eW m++[(m:Int)+2]:=by unfold eW;rw [List.range_succ];simp
theorem gR (D:List Aa):∀ (f:Nat) (x:Int) (left:List Int),left <+: fC D f x left
 | 0,x,left=>List.prefix_refl _
 | f+1,x,left=>by
  unfold fC;split
  ·exact List.prefix_refl _
  split
  ·exact List.prefix_refl _
  split
  ·exact List.prefix_refl _
  exact ((gR D f _ left).trans (gR D f _ _)).trans (List.prefix_append _ _)
theorem rG {l:List Int} {m:Nat} (h:l <+: eW m):l=eW l.length:=by
 obtain⟨t,ht⟩:=h;have hl:l.length<=m:=by have:=congrArg List.length ht;rw [zQL,dH] at this;omega
 have h1:l=(eW m).take l.length:=by rw [<- ht,List.take_left]
 have h2:(eW m).take l.length=eW l.length:=by unfold eW;rw [<- List.map_take,List.take_range,Nat.min_eq_left hl]
 exact h1.trans h2
theorem gQ {D:List Aa} (h:WfD D):∀ (f:Nat) (x:Int) (m m':Nat),InD D x->x < (f:Int)->(fC D f x (eW m)=eW m'↔dP D f x ((m:Int)+2)=some ((m':Int)+2))
 | 0,x,m,m',hx,hf=>by have:=hx.1;omega
 | f+1,x,m,m',hx,hf=>by
  unfold fC dP;by_cases h2:x < 2
  ·rw [if_pos h2,if_pos (.inl h2)];constructor
   ·intro he;have:=congrArg List.length he;rw [dH,dH] at this;rw [this]
   intro he;have:=Option.some.inj he;rw [show m=m' by omega]
  rw [if_neg h2];by_cases hm:x < (m:Int)+2
  ·rw [if_pos (ordL_mem.2 ⟨by omega, hm⟩), if_pos (.inr hm)];constructor
   ·intro he;have:=congrArg List.length he;rw [dH,dH] at this;rw [this]
   intro he;have:=Option.some.inj he;rw [show m=m' by omega]
  rw [if_neg (fun hc => hm (ordL_mem.1 hc).2), if_neg (by omega)];obtain⟨n,hn⟩:=hx.get (by omega);have hl:=h.lo _ n hn;have hh:=h.hi _ n hn;have inlo:InD D n.lo:=⟨hl.1,by have:=hx.2;omega⟩;have inhi:InD D n.hi:=⟨hh.1,by have:=hx.2;omega⟩;rw [hn];dsimp only;constructor
  ·intro he
   obtain ⟨q, hq⟩ : ∃ q, m' = q + 1 := ⟨m' - 1, by
    have := congrArg List.length he;rw [zQL, dH] at this;simp at this
    omega⟩
   subst hq;rw [oX] at he;have hin:=List.append_inj' he rfl;have hxq:x=(q:Int)+2:=by have:=hin.2;simpa using this
   have hp:fC D f n.lo (eW m) <+: eW q:=by rw [<- hin.1];exact gR D f n.hi _
   have e1:=rG hp;obtain⟨m1,hm1⟩:∃ m1,m1=(fC D f n.lo (eW m)).length:=⟨_,rfl⟩;rw [<- hm1] at e1;have v1:=(gQ h f n.lo m m1 inlo (by omega)).1 e1;have v2:=(gQ h f n.hi m1 q inhi (by omega)).1 (by rw [<- e1];exact hin.1);rw [v1];simp only [Option.bind_some];rw [v2];simp only [Option.bind_some];rw [if_pos hxq]
   congr 1
  intro he
  cases e1:dP D f n.lo ((m:Int)+2) with
  | none=>rw [e1] at he;cases he
  | some l1=>
   rw [e1] at he;simp only [Option.bind_some] at he
   cases e2:dP D f n.hi l1 with
   | none=>rw [e2] at he;cases he
   | some l2=>
    rw [e2] at he;simp only [Option.bind_some] at he
    have mono:∀ (f:Nat) (x l l':Int),dP D f x l=some l'->l<=l':=by
     intro f
     induction f with
     | zero=>intro x l l' hv;cases hv
     | succ f ih=>
      intro x l l' hv;unfold dP at hv;split at hv
      ·cases hv;omega
      split at hv
      ·cases hv
      rename_i z hz
      cases ha:dP D f z.lo l with
      | none=>rw [ha] at hv;cases hv
      | some a=>
       rw [ha] at hv;simp only [Option.bind_some] at hv
       cases hb:dP D f z.hi a with
       | none=>rw [hb] at hv;cases hv
       | some b=>
        rw [hb] at hv;simp only [Option.bind_some] at hv;split at hv
        ·have:=Option.some.inj hv;have:=ih _ _ _ ha;have:=ih _ _ _ hb;omega
        cases hv
    have g1:=mono f _ _ _ e1;have g2:=mono f _ _ _ e2;split at he
    ·rename_i hxl;have hl2:=Option.some.inj he;obtain⟨a,ha⟩:∃ a:Nat,l1=(a:Int)+2:=⟨(l1 - 2).toNat,by omega⟩;obtain⟨b,hb⟩:∃ b:Nat,l2=(b:Int)+2:=⟨(l2 - 2).toNat,by omega⟩;subst ha hb;rw [(gQ h f n.lo m a inlo (by omega)).2 e1,(gQ h f n.hi a b inhi (by omega)).2 e2,show m'=b+1 by omega,oX,hxl]
    cases he
structure MakeOk (N:Nat) (f:Fn) (D:List Aa) (x:Int):Prop where
 wf:WfD D
 nodup:D.Nodup
 root:InD D x
 vars:∀ (i:Nat) (n:Aa),D[i]?=some n->n.var < (N:Int)
 low:0<=aW D x
 val:∀ l,l.length=N->fnD D x 0 l=f l
 len:D.length+1<=2 ^ N
 order:∀ q,N+1<=q->dP D q x 2=some ((D.length:Int)+2)
theorem qE {D:List Aa} (h:WfD D) (x:Int):0<=aW D x:=by
 unfold aW;split
 ·omega
 split
 ·rename_i n hn;exact (h.vars _ n hn).1
 omega
def lH (D:List Aa):Nat->Int->List Bool->List Bool
 | 0,_,vals=>vals
 | f+1,x,vals=>if x < 2 then vals else match D[(x - 2).toNat]? with
  | none=>vals
  | some n=>if n.lo≠0 then lH D f n.lo vals else lH D f n.hi (vals.set n.var.toNat true)
theorem qP (D:List Aa) {x:Int} (hx:x < 2) (vals:List Bool):∀ f,lH D f x vals=vals
 | 0=>rfl
 | f+1=>by unfold lH;rw [if_pos hx]
theorem mN {D:List Aa} (h:WfD D):∀ (k f v:Nat) (x:Int) (pre:List Bool),InD D x->(v:Int)<=aW D x->v+k<=64->(∀ (i:Nat) (n:Aa),D[i]?=some n->n.var < (v:Int)+k)->pre.length=v->x<=(f:Int)->lH D f x (pre++List.replicate k false)=pre++cC D k x v
 | 0,f,v,x,pre,hx,hv,h64,hall,hp,hf=>by
  have hlt:x < 2:=by
   rcases Int.lt_or_le x 2 with h1|h1
   ·exact h1
   obtain⟨n,hn⟩:=hx.get h1;have:=hall _ n hn;have e:aW D x=n.var:=by unfold aW;rw [if_neg (by omega),hn]
   omega
  rw [qP D hlt];rfl
 | k+1,f,v,x,pre,hx,hv,h64,hall,hp,hf=>by
  have ih:=mN h k;have hrep:List.replicate (k+1) false=false :: List.replicate k false:=rfl;have hsh:∀ (b:Bool) (r:List Bool),pre++b :: r=(pre++[b])++r:=λb r=>by simp
  have hall':∀ (i:Nat) (n:Aa),D[i]?=some n->n.var < ((v+1:Nat):Int)+k:=λi n hn=>by have:=hall i n hn;omega
  have hlen:∀ b:Bool,(pre++[b]).length=v+1:=λb=>by simp [hp]
  by_cases he:aW D x=(v:Int)
  ·have hx2:2<=x:=by
    rcases Int.lt_or_le x 2 with h1|h1
    ·have : aW D x = 64 := by unfold aW; rw [if_pos h1]
     omega
    exact h1
   obtain⟨n,hn⟩:=hx.get hx2;have e:aW D x=n.var:=by unfold aW;rw [if_neg (by omega),hn]
   have hlo:=h.lo _ n hn;have hhi:=h.hi _ n hn;obtain⟨f,rfl⟩:∃ g,f=g+1:=⟨f - 1,by omega⟩;unfold lH cC;rw [if_neg (by omega),if_pos he,hn];dsimp only;by_cases hz:n.lo≠0
   ·rw [if_pos hz, if_pos hz, hrep, hsh _ (List.replicate k false), ih f (v + 1) n.lo (pre ++ [false]) ⟨hlo.1, by have := hx.2; omega⟩ (by omega) (by omega) hall' (hlen _) (by omega)];rw [List.append_assoc];rfl
   rw [if_neg hz, if_neg hz, hrep, show (pre ++ false :: List.replicate k false).set n.var.toNat true = pre ++ true :: List.replicate k false by
    rw [show n.var.toNat = pre.length by omega, List.set_append_right _ _ (zQW _), Nat.sub_self]; rfl, hsh _ (List.replicate k false), ih f (v + 1) n.hi (pre ++ [true]) ⟨hhi.1, by have := hx.2; omega⟩ (by omega) (by omega) hall' (hlen _) (by omega)]
   rw [List.append_assoc];rfl
  unfold cC;rw [if_neg he,hrep,hsh _ (List.replicate k false),ih f (v+1) x (pre++[false]) hx (by omega) (by omega) hall' (hlen _) hf];rw [List.append_assoc];rfl
def bK (D:List Aa) (vars x:Int):Int:=if x < 2 then vars else aW D x
def dQ (D:List Aa) (vars x:Int):Nat:=cR (fnD D x (bK D vars x)) (vars - bK D vars x).toNat
def cntS (D:List Aa) (vars:Int) (cs:List Nat) (n:Aa):List Nat:=
 cs++[cs.getD n.lo.toNat 0 * 2 ^ (bK D vars n.lo - n.var - 1).toNat+cs.getD n.hi.toNat 0 * 2 ^ (bK D vars n.hi - n.var - 1).toNat]
theorem tP {D:List Aa} {vars x:Int} (h:WfD D) (hx:InD D x) (hv:vars<=64) (hall:∀ (i:Nat) (n:Aa),D[i]?=some n->n.var < vars):bK D vars x<=vars/\bK D vars x<=aW D x:=by
 unfold bK;by_cases h2:x < 2
 ·have e : aW D x = 64 := by unfold aW; rw [if_pos h2]
  rw [if_pos h2];omega
 obtain ⟨n, hn⟩ := hx.get (by omega);have:=hall _ n hn;have e:aW D x=n.var:=by unfold aW;rw [if_neg h2,hn]
 rw [if_neg h2];omega
theorem kH {D:List Aa} {vars x v:Int} (h:WfD D) (hx:InD D x) (hv:vars<=64) (hall:∀ (i:Nat) (n:Aa),D[i]?=some n->n.var < vars) (hl:v<=bK D vars x):cR (fnD D x v) (vars - v).toNat=dQ D vars x * 2 ^ (bK D vars x - v).toNat:=by
 have hle:=tP h hx hv hall;have:=xW h hx.1 (bK D vars x - v).toNat v (vars - bK D vars x).toNat (by omega);rw [show (bK D vars x - v).toNat+(vars - bK D vars x).toNat=(vars - v).toNat by omega,show v+((bK D vars x - v).toNat:Int)=bK D vars x by omega] at this;rw [this,Nat.mul_comm];rfl
theorem sG {D:List Aa} {vars:Int} (h:WfD D) (hv:vars<=64) (hall:∀ (i:Nat) (n:Aa),D[i]?=some n->n.var < vars) {m:Nat} {n:Aa} (hn:D[m]?=some n):dQ D vars ((m:Int)+2)=dQ D vars n.lo * 2 ^ (bK D vars n.lo - n.var - 1).toNat+dQ D vars n.hi * 2 ^ (bK D vars n.hi - n.var - 1).toNat:=by
 have hm:m < D.length:=(zQQ.1 hn).1;have hlo:=h.lo _ n hn;have hhi:=h.hi _ n hn;have hva:=hall _ n hn;have hn':D[((m:Int)+2 - 2).toNat]?=some n:=by rw [show ((m:Int)+2 - 2).toNat=m by omega];exact hn
 have e:bK D vars ((m:Int)+2)=n.var:=by unfold bK aW;rw [if_neg (by omega),if_neg (by omega),hn']
 have il:InD D n.lo:=⟨hlo.1,by omega⟩;have ih:InD D n.hi:=⟨hhi.1,by omega⟩;have lv:∀ y:Int,n.var < aW D y->n.var+1<=bK D vars y:=λy hy=>by unfold bK;split<;>omega
 unfold dQ;rw [e,show (vars - n.var).toNat=(vars - (n.var+1)).toNat+1 by omega,xY h (by omega) hn',kH h il hv hall (lv _ hlo.2.2),kH h ih hv hall (lv _ hhi.2.2)];rw [show bK D vars n.lo - (n.var+1)=bK D vars n.lo - n.var - 1 by omega,show bK D vars n.hi - (n.var+1)=bK D vars n.hi - n.var - 1 by omega];rfl
theorem sH {D : List Aa} {vars : Int} (h : WfD D) (hv : vars <= 64) (hall : ∀ (i : Nat) (n : Aa), D[i]? = some n -> n.var < vars) : ∀ m, m <= D.length -> (D.take m).foldl (cntS D vars) [0, 1] = (List.range (m + 2)).map fun (i : Nat) => dQ D vars (i : Int)
 | 0,_=>by
  have c0:dQ D vars 0=0:=by
   unfold dQ bK;rw [if_pos (by omega),Int.sub_self];rfl
  have c1:dQ D vars 1=1:=by
   unfold dQ bK;rw [if_pos (by omega),Int.sub_self];rfl
  show [0,1]=[dQ D vars 0,dQ D vars 1];rw [c0,c1]
 | m+1,hm=>by
  obtain⟨n,hn⟩:∃ n,D[m]?=some n:=⟨_,zQR (by omega)⟩;have hlo:=h.lo _ n hn;have hhi:=h.hi _ n hn
  have g:∀ y:Int,0<=y->y < (m:Int)+2->((List.range (m+2)).map λ(i:Nat)=>dQ D vars (i:Int)).getD y.toNat 0=dQ D vars y:=λy h0 h1=>by
   rw [zQD,zQP,List.getElem?_range (by omega),show dQ D vars y=dQ D vars ((y.toNat:Nat):Int) by rw [Int.toNat_of_nonneg h0]];rfl
  rw [List.take_add_one,hn,List.foldl_append,sH h hv hall m (by omega),List.range_succ (n:=m+2),List.map_append];show cntS D vars _ n=_;unfold cntS;rw [g _ hlo.1 hlo.2.1,g _ hhi.1 hhi.2.1,<- sG h hv hall hn];rfl
theorem kZ {D:List Aa} {vars x:Int} (h:WfD D) (hx:InD D x) (hv:vars<=64) (hall:∀ (i:Nat) (n:Aa),D[i]?=some n->n.var < vars) {v:Int} (h0:0<=v) (hl:v<=bK D vars x):dQ D vars x * 2 ^ (bK D vars x - v).toNat<=2 ^ vars.toNat:=by
 rw [<- kH h hx hv hall hl];exact Nat.le_trans (mG _ _) (Nat.pow_le_pow_right (by omega) (by omega))
theorem xX {D:List Aa} {vars x:Int} (h:WfD D) (hx:InD D x) (hv:vars<=64) (h0:0<=vars) (hall:∀ (i:Nat) (n:Aa),D[i]?=some n->n.var < vars):dQ D vars x * 2 ^ (bK D vars x).toNat=cR (fnD D x 0) vars.toNat:=by
 have hl:0<=bK D vars x:=by
  unfold bK;split
  ·exact h0
  exact qE h x
 have:=kH h hx hv hall hl;rw [show bK D vars x - 0=bK D vars x by omega,show vars - 0=vars by omega] at this;exact this.symm
theorem kP {D:List Aa} (h:WfD D) {W:Int} (hall:∀ (i:Nat) (n:Aa),D[i]?=some n->n.var < W) {s u:Int->Bool} (hs:∀ w,0<=w->w < W->s w=u w):∀ (m:Nat) (x:Int),InD D x->x.toNat<=m->jG D x s=jG D x u
 | m,x,hx,hm=>by
  by_cases h2:x < 2
  ·rcases (by have:=hx.1;omega:x=0\/x=1) with e|e<;>subst e<;>rfl
  obtain ⟨n, hn⟩ := hx.get (by omega);have hlo:=h.lo _ n hn;have hhi:=h.hi _ n hn;obtain⟨m,rfl⟩:∃ k,m=k+1:=⟨m - 1,by omega⟩;rw [eR h (by omega) hn s,eR h (by omega) hn u,hs n.var (h.vars _ n hn).1 (hall _ n hn)];split
  ·exact kP h hall hs m n.hi ⟨hhi.1,by have:=hx.2;omega⟩ (by omega)
  exact kP h hall hs m n.lo ⟨hlo.1,by have:=hx.2;omega⟩ (by omega)
theorem rY {D:List Aa} (h:WfD D) {k:Nat} (hall:∀ (i:Nat) (n:Aa),D[i]?=some n->n.var < (k:Int)) {x:Int} (hx:InD D x) (l m n:List Bool) (hl:l.length=k):fnD D x 0 (l++m)=fnD D x 0 (l++n):=by
 refine kP h hall (λw h0 h1=>?_) x.toNat x hx (zQW _);unfold asg;rw [zQD,zQD,List.getElem?_append_left (by omega),List.getElem?_append_left (by omega)]
theorem vC {D:List Aa} (h:WfD D) {k:Nat} (hall:∀ (i:Nat) (n:Aa),D[i]?=some n->n.var < (k:Int)) {x:Int} (hx:InD D x) (j:Nat):((aP k).filter (fnD D x 0)).length * 2 ^ j=cR (fnD D x 0) (k+j):=by
 rw [jP,nQ k j _ λl m n hl _ _=>rY h hall hx l m n hl]
 congr 1
 exact cX λl hl=>by rw [rY h hall hx l (List.replicate j false) [] hl,List.append_nil]
theorem lN {D:List Aa} (h:WfD D):∀ (k j:Nat) (x v:Int),InD D x->v<=aW D x->v+k+j<=64->(∀ (i:Nat) (n:Aa),D[i]?=some n->n.var < v+k)->cC D (k+j) x v=cC D k x v++List.replicate j false
 | 0,j,x,v,hx,hv,h64,hall=>by
  have hlt:x < 2:=by
   rcases Int.lt_or_le x 2 with h1|h1
   ·exact h1
   obtain⟨n,hn⟩:=hx.get h1;have:=hall _ n hn;have e:aW D x=n.var:=by unfold aW;rw [if_neg (by omega),hn]
   omega
  rw [Nat.zero_add,nF j x v hlt (by omega)];rfl
 | k+1,j,x,v,hx,hv,h64,hall=>by
  have ih:=lN h k j;rw [show k+1+j=(k+j)+1 by omega];by_cases he:aW D x=v
  ·have hx2:2<=x:=by
    rcases Int.lt_or_le x 2 with h1|h1
    ·have : aW D x = 64 := by unfold aW; rw [if_pos h1]
     omega
    exact h1
   obtain⟨n,hn⟩:=hx.get hx2;have e:aW D x=n.var:=by unfold aW;rw [if_neg (by omega),hn]
   have hlo:=h.lo _ n hn;have hhi:=h.hi _ n hn;unfold cC;rw [if_pos he,if_pos he,hn];dsimp only;by_cases hz:n.lo≠0
   ·rw [if_pos hz, if_pos hz, ih n.lo (v + 1) ⟨hlo.1, by have := hx.2; omega⟩ (by omega) (by omega) (fun i m hm => by have := hall i m hm; omega)];rfl
   rw [if_neg hz, if_neg hz, ih n.hi (v + 1) ⟨hhi.1, by have := hx.2; omega⟩ (by omega) (by omega) (fun i m hm => by have := hall i m hm; omega)];rfl
  unfold cC;rw [if_neg he,if_neg he,ih x (v+1) hx (by omega) (by omega) (λi m hm=>by have:=hall i m hm;omega)];rfl
theorem vB {D:List Aa} (h:WfD D) {k j:Nat} (hall:∀ (i:Nat) (n:Aa),D[i]?=some n->n.var < (k:Int)) {x:Int} (hx:InD D x) (h64:k+j<=64):(((aP k).filter (fnD D x 0)).head?).map (·++List.replicate j false)=if x=0 then none else some (cC D (k+j) x 0):=by
 have hlow:=qE h x;rw [gI];by_cases h0:x=0
 ·subst h0;rw [if_pos rfl,gH (f:=fnD D 0 0) λl _=>val_0 D _];rfl
 rw [if_neg h0, fH h k x 0 hx h0 hlow (by omega) (fun i n hn => by have := hall i n hn; omega), lN h k j x 0 hx hlow (by omega) (fun i n hn => by have := hall i n hn; omega)];rfl
def dO:Nat->Nat->List Bool
 | 0,_=>[]
 | n+1,k=>decide (k / 2 ^ n % 2=1) :: dO n k
theorem pG:∀ (n m k:Nat),n<=m->dO n (k+2 ^ m)=dO n k
 | 0,m,k,h=>rfl
 | n+1,m,k,h=>by
  have e:2 ^ m=2 ^ n * (2 * 2 ^ (m - n - 1)):=by rw [<- Nat.mul_assoc,<- Nat.pow_succ,<- Nat.pow_add,show n+1+(m - n - 1)=m by omega]
  unfold dO;rw [pG n m k (by omega)]
  congr 1
  rw [e,Nat.add_mul_div_left _ _ (Nat.two_pow_pos n),Nat.add_mul_mod_self_left]
theorem rR:∀ n,(List.range (2 ^ n)).map (dO n)=aP n
 | 0=>rfl
 | n+1=>by
  rw [aP,<- rR n,Nat.pow_succ,show 2 ^ n * 2=2 ^ n+2 ^ n by omega,List.range_add,List.map_append,List.map_map,List.map_map,List.map_map]
  congr 1
  ·refine List.map_congr_left fun k hk => ?_;have:=List.mem_range.1 hk;show decide (k / 2 ^ n % 2=1) :: dO n k=false :: dO n k;rw [Nat.div_eq_of_lt this];rfl
  refine List.map_congr_left fun k hk => ?_;have:=List.mem_range.1 hk;show decide ((2 ^ n+k) / 2 ^ n % 2=1) :: dO n (2 ^ n+k)=true :: dO n k;rw [Nat.add_comm,pG n n k (zQW _),show k+2 ^ n=k+2 ^ n * 1 by omega,Nat.add_mul_div_left _ _ (Nat.two_pow_pos n),Nat.div_eq_of_lt this];rfl
def eQ (D:List Aa):Nat->Int->List Bool×Int->Option (List Bool×Int)
 | 0,_,_=>none
 | f+1,x,s=>if x < 2\/s.1.getD x.toNat false=true then some s else match D[(x - 2).toNat]? with
  | none=>none
  | some n=>(eQ D f n.lo (s.1.set x.toNat true,s.2)).bind λs1=>(eQ D f n.hi s1).bind λs2=>if x=s2.2 then some (s2.1,s2.2+1) else none
def InvP (B:Int) (vis:List Bool) (left:Int):Prop:=∀ y:Nat,2<=y->(y:Int) < B->(vis.getD y false=true↔(y:Int) < left)
theorem qN {l:List Bool} {i j:Nat} (h:i≠j) (b:Bool):(l.set i b).getD j false=l.getD j false:=by
 rw [zQD,zQD,List.getElem?_set_ne h]
theorem zR {l:List Bool} {i:Nat} (h:i < l.length) (b:Bool):(l.set i b).getD i false=b:=by
 rw [zQD,List.getElem?_set_self h];rfl
structure OutP (D:List Aa) (f:Nat) (x B:Int) (vis:List Bool) (left l':Int) (vis':List Bool):Prop where
 run:eQ D f x (vis,left)=some (vis',l')
 inv:InvP B vis' l'
 keep:∀ y:Nat,B<=(y:Int)->vis'.getD y false=vis.getD y false
 len:vis'.length=vis.length
theorem wA {D:List Aa} (h:WfD D):∀ (f:Nat) (x B:Int) (vis:List Bool) (left:Int),InD D x->x < B->InvP B vis left->vis.length=D.length+2->match dP D f x left with
  | none=>eQ D f x (vis,left)=none
  | some l'=>∃ vis',OutP D f x B vis left l' vis'
 | 0,x,B,vis,left,hx,hB,hi,hl=>rfl
 | f+1,x,B,vis,left,hx,hB,hi,hl=>by
  have hx0:=hx.1;have hx1:=hx.2;by_cases h2:x < 2
  ·have e : dP D (f + 1) x left = some left := by unfold dP; rw [if_pos (Or.inl h2)]
   rw [e];refine⟨vis,?_,hi,λ_ _=>rfl,rfl⟩;unfold eQ;rw [if_pos (Or.inl h2)]
  have hxi := hi x.toNat (by omega) (by omega);rw [show ((x.toNat:Nat):Int)=x by omega] at hxi;by_cases hlt:x < left
  ·have e : dP D (f + 1) x left = some left := by unfold dP; rw [if_pos (Or.inr hlt)]
   rw [e];refine⟨vis,?_,hi,λ_ _=>rfl,rfl⟩;unfold eQ;rw [if_pos (Or.inr (hxi.2 hlt))]
  obtain ⟨n, hn⟩ := hx.get (by omega);have hlo:=h.lo _ n hn;have hhi:=h.hi _ n hn
  have e:dP D (f+1) x left=(dP D f n.lo left).bind λl1=>(dP D f n.hi l1).bind λl2=>if x=l2 then some (l2+1) else none:=by
   rw [dP,if_neg (by omega),hn]
  have e':eQ D (f+1) x (vis,left)=(eQ D f n.lo (vis.set x.toNat true,left)).bind λs1=>(eQ D f n.hi s1).bind λs2=>if x=s2.2 then some (s2.1,s2.2+1) else none:=by
   rw [eQ,if_neg (by intro hc;rcases hc with hc|hc;exact h2 hc;exact hlt (hxi.1 hc)),hn]
  have i0:InvP x (vis.set x.toNat true) left:=λy hy hyx=>by
   rw [qN (by omega)];exact hi y hy (by omega)
  have r1:=wA h f n.lo x (vis.set x.toNat true) left ⟨hlo.1,by omega⟩ (by omega) i0 (by rw [List.length_set];exact hl);rw [e]
  cases h1:dP D f n.lo left with
  | none=>
   rw [h1] at r1;show eQ D (f+1) x (vis,left)=none;rw [e',r1];rfl
  | some l1=>
   rw [h1] at r1;obtain⟨v1,o1⟩:=r1;have hl1:v1.length=D.length+2:=by rw [o1.len,List.length_set];exact hl
   have r2:=wA h f n.hi x v1 l1 ⟨hhi.1,by omega⟩ (by omega) o1.inv hl1
   show match (dP D f n.hi l1).bind λl2=>if x=l2 then some (l2+1) else none with
    | none=>eQ D (f+1) x (vis,left)=none
    | some l'=>∃ vis',OutP D (f+1) x B vis left l' vis'
   cases h3:dP D f n.hi l1 with
   | none=>
    rw [h3] at r2;show eQ D (f+1) x (vis,left)=none;rw [e',o1.run];show (eQ D f n.hi (v1,l1)).bind _=none;rw [r2];rfl
   | some l2=>
    rw [h3] at r2;obtain⟨v2,o2⟩:=r2
    have er:eQ D (f+1) x (vis,left)=if x=l2 then some (v2,l2+1) else none:=by
     rw [e',o1.run];show (eQ D f n.hi (v1,l1)).bind _=_;rw [o2.run];rfl
    show match (if x=l2 then some (l2+1) else none) with
     | none=>eQ D (f+1) x (vis,left)=none
     | some l'=>∃ vis',OutP D (f+1) x B vis left l' vis'
    by_cases hq:x=l2
    ·rw [if_pos hq];rw [if_pos hq] at er;refine⟨v2,er,λy hy hyB=>?_,λy hy=>?_,by rw [o2.len,o1.len,List.length_set]⟩
     ·rcases Int.lt_trichotomy (y:Int) x with hc|hc|hc
      ·have:=o2.inv y hy hc;rw [this];omega
      ·have e1:v2.getD y false=true:=by
        rw [o2.keep y (by omega),o1.keep y (by omega),show y=x.toNat by omega,zR (by omega)]
       rw [e1];simp only [true_iff];omega
      rw [o2.keep y (by omega), o1.keep y (by omega), qN (by omega), hi y hy hyB];omega
     rw [o2.keep y (by omega),o1.keep y (by omega),qN (by omega)]
    rw [if_neg hq];rw [if_neg hq] at er;exact er
theorem yR {D:List Aa} (h:WfD D) (f:Nat) {x:Int} (hx:InD D x):(eQ D f x (List.replicate (D.length+2) false,2)).map (·.2)=dP D f x 2:=by
 have := wA h f x ((D.length : Int) + 2) (List.replicate (D.length + 2) false) 2 hx hx.2 (fun y hy hyB => by
  rw [zQD, List.getElem?_replicate, if_pos (by omega)];constructor
  ·intro hc; cases hc
  intro hc; omega) (by simp)
 revert this
 cases dP D f x 2 with
 | none=>intro e;rw [e];rfl
 | some l=>intro ⟨v,o⟩;rw [o.run];rfl
def NOK (D:List Aa):Prop:=∀ n∈D,Aa.ok n
theorem NOK.at {D:List Aa} (h:NOK D) {i:Nat} {n:Aa} (hn:D[i]?=some n):Aa.ok n:=h n (zQM hn)
theorem nok_wf {d:Ab} (h:d.Wf):NOK d.nodes:=λn hn=>⟨(h.nodes.2 n hn).var,(h.nodes.2 n hn).lo,(h.nodes.2 n hn).hi⟩
def fD (L:List Aa):List (Aa×Int):=L.zipIdx.map λx=>(x.1,(x.2:Int))
theorem kW (L:List Aa):(fD L).map (·.1)=L:=by
 unfold fD;rw [List.map_map];exact List.zipIdx_map_fst 0 L
theorem xN (L:List Aa) (n:Aa):fD (L++[n])=fD L++[(n,(L.length:Int))]:=by
 unfold fD;rw [List.zipIdx_append,List.map_append];simp
theorem xM (L:List Aa) (i:Nat):(fD L)[i]?=(L[i]?).map λn=>(n,(i:Int)):=by
 unfold fD;rw [zQP,List.getElem?_zipIdx];cases L[i]?<;>simp
theorem pA (L:List Aa) (n:Aa):(fD L).findIdx? (λx=>decide (x.1=n))=L.findIdx? λm=>decide (m=n):=by
 have:L.findIdx? (λm=>decide (m=n))=((fD L).map (·.1)).findIdx? (λm=>decide (m=n)):=by rw [kW]
 rw [this,List.findIdx?_map];rfl
section maps
variable {α β:Type} [DecidableEq α]
theorem uF (x:α×β) (r:List (α×β)) (q:α):cA (x :: r) q=if x.1=q then some x.2 else cA r q:=by
 unfold cA;rw [List.find?_cons];by_cases h:x.1=q<;>simp [h]
theorem uE (fs:List (α×β)) (q:α):cA fs q=(fs.findIdx? λx=>decide (x.1=q)).bind λj=>(fs[j]?).map (·.2):=by
 induction fs with
 | nil=>rfl
 | cons x r ih=>
  rw [uF,List.findIdx?_cons];by_cases h:x.1=q
  ·simp [h]
  simp only [h,decide_false,Bool.false_eq_true,if_false];rw [ih];cases r.findIdx? (λx=>decide (x.1=q))<;>simp
end maps
theorem vQ (L:List Aa) (n:Aa):cA (fD L) n=(L.findIdx? λm=>decide (m=n)).map λi=>(i:Int):=by
 rw [uE,pA]
 cases h:L.findIdx? (λm=>decide (m=n)) with
 | none=>rfl
 | some j=>
  rw [List.findIdx?_eq_some_iff_getElem] at h;obtain⟨hj,_,_⟩:=h;show ((fD L)[j]?).map (·.2)=_;rw [xM,zQR hj];rfl
theorem wU {L:List Aa} {n:Aa} (h:L.findIdx? (λm=>decide (m=n))=none) (v:Int):gA (fD L) n v=fD L++[(n,v)]:=by
 unfold gA;rw [pA,h]
theorem rT {L:List Aa} (hn:L.Nodup) (ho:NOK L) {n:Aa} (hk:Aa.ok n):dJ Aa.okb (fD L) n:=
 ⟨by rw [kW]; exact hn, fun x hx => by
  have : x.1 ∈ (fD L).map (·.1) := List.mem_map_of_mem hx;rw [kW] at this
  exact decide_eq_true (ho _ this), decide_eq_true hk⟩
theorem zE {α ρ:Type} [DecidableEq ρ] {l:List α} {a b:Option ρ} {x:ρ} (ha:l=[]->a=some x) (hb:b=some x):rK l a b=some x:=by
 cases l with
 | nil=>rw [ha rfl,hb];simp [rK]
 | cons y r=>exact hb
theorem tL {L : List Aa} {n : Aa} (hn : L.Nodup) (ho : NOK L) (hk : Aa.ok n) (hl : L.length + 1 <= 1000000000) : aN ⟨fD L, L⟩ n = some (match L.findIdx? (fun m => decide (m = n)) with
  | some j => ((j : Int), ⟨fD L, L⟩)
  | none => ((L.length : Int), ⟨fD (L ++ [n]), L ++ [n]⟩)) := by
 have hlen:((L++[n]).length:Int) - 1=(L.length:Int):=by simp
 have hg1:(L++[n]).length<=1000000000:=by simp;omega
 have hg2:I64 (((L++[n]).length:Int) - 1):=by rw [hlen];unfold I64;omega
 unfold aN;dsimp only;refine zE (λhe=>?_) ?_
 ·have hL : L = [] := by have := congrArg List.length he; simpa [fD] using this
  subst hL;rw [aB (show n.okb=true from decide_eq_true hk),aA,aB ⟨List.nodup_nil,(λx h=>by cases h),decide_eq_true hk⟩,aB hg1,aB hg2];simp only [hlen];rfl
 rw [aB (rT hn ho hk),vQ]
 cases h:L.findIdx? (λm=>decide (m=n)) with
 | some j=>simp
 | none=>
  rw [if_neg (by simp),aA,aB (rT hn ho hk),aB hg1,aB hg2];simp only [hlen,wU h,xN]
theorem InD.i64 {D:List Aa} {x:Int} (h:InD D x) (hl:D.length<=4611686018427387903):I64 (x - 2)/\I64 x:=by
 have:=h.1;have:=h.2;unfold I64;omega
structure RelM (m:Ad) (s:MS):Prop where
 nodes:m.nodes=⟨fD s.nodes,s.nodes⟩
 full:m.full=s.full
 keys:(m.done.map (·.1)).Nodup
 okp:∀ p∈m.done,Ae.okb p.1=true
 done:∀ x y,cA m.done ⟨x,y⟩=s.done (x,y)
 ok:NOK s.nodes
def cW (D:List Aa) (i:Nat) (n:Aa):Prop:=0<=n.var/\n.var < 64/\n.lo≠n.hi/\(0<=n.lo/\n.lo < (i:Int)+2/\n.var < aW D n.lo)/\(0<=n.hi/\n.hi < (i:Int)+2/\n.var < aW D n.hi)
instance (D:List Aa) (i:Nat) (n:Aa):Decidable (cW D i n):=by unfold cW;infer_instance
def oP (D:List Aa) (i:Nat):Bool:=match D[i]? with
 | some n=>!decide (cW D i n)||decide (n∈D.take i)
 | none=>false
theorem kK {D:List Aa} {i:Nat} {n:Aa} (h:D[i]?=some n):oP D i=(!decide (cW D i n)||decide (n∈D.take i)):=by unfold oP;rw [h]
theorem gC {D:List Aa}:∀ (i:Nat),(∀ j,j < i->oP D j=false)->(D.take i).Nodup
 | 0,_=>by simp
 | i+1,h=>by
  rw [List.take_add_one]
  cases hn:D[i]? with
  | none=>simpa using gC i λj hj=>h j (by omega)
  | some n=>
   have hb:=h i (by omega);rw [kK hn,Bool.or_eq_false_iff] at hb;have hni:n∉D.take i:=by simpa using hb.2
   simp only [Option.toList_some];rw [List.nodup_append];refine⟨gC i λj hj=>h j (by omega),by simp,λa ha b hb e=>?_⟩;rw [List.mem_singleton.1 hb] at e;exact hni (e ▸ ha)
theorem zM {D:List Aa} (h:∀ j,j < D.length->oP D j=false):WfD D/\D.Nodup:=by
 have hg:∀ (i:Nat) (n:Aa),D[i]?=some n->cW D i n:=λi n hn=>by
  have hb:=h i (zQQ.1 hn).1;rw [kK hn,Bool.or_eq_false_iff] at hb;simpa using hb.1
 refine⟨⟨λi n hn=>⟨(hg i n hn).1,(hg i n hn).2.1⟩,λi n hn=>(hg i n hn).2.2.2.1,λi n hn=>(hg i n hn).2.2.2.2,λi n hn=>(hg i n hn).2.2.1⟩,?_⟩;have:=gC D.length h
 rwa [List.take_length] at this
theorem yQ {D:List Aa} (h:WfD D) (hn:D.Nodup):∀ j,j < D.length->oP D j=false:=λj hj=>by
 have e:=zQR hj;rw [kK e,Bool.or_eq_false_iff];refine⟨by rw [decide_eq_true (show cW D j D[j] from ⟨(h.vars j _ e).1,(h.vars j _ e).2,h.ne j _ e,h.lo j _ e,h.hi j _ e⟩)];rfl,?_⟩;rw [decide_eq_false_iff_not];intro hm;obtain⟨q,hq,he⟩:=List.getElem_of_mem hm;simp only [List.length_take] at hq;rw [List.getElem_take] at he;have:=(List.getElem_inj hn).1 he;omega
theorem any_bad {D:List Aa}:(List.range D.length).any (oP D)=false↔WfD D/\D.Nodup:=by
 constructor
 ·intro h;rw [List.any_eq_false] at h;exact zM λj hj=>by simpa using h j (List.mem_range.2 hj)
 rintro⟨h,hn⟩;rw [List.any_eq_false];intro j hj;rw [yQ h hn j (List.mem_range.1 hj)];simp
def ValidD (d:Ab):Prop:=d.nodes.length<=20000/\(WfD d.nodes/\d.nodes.Nodup)/\(if d.nodes.length=0 then d.root=0\/d.root=1 else d.root=(d.nodes.length:Int)+1/\dP d.nodes aO d.root 2=some ((d.nodes.length:Int)+2))
theorem sI {d:Ab} {i:Nat} {n:Aa} {k:Int} (hn:d.nodes[i]?=some n) (hv:n.var < 64) (hl:d.nodes.length<=1000000):dB d i k=some (decide (0<=k/\k < (i:Int)+2/\n.var < aW d.nodes k)):=by
 have hi:=(zQQ.1 hn).1;unfold dB;by_cases h01:k=0\/k=1
 ·rw [if_pos (by simpa using h01)];have hvk:aW d.nodes k=64:=by unfold aW;rw [if_pos (by omega)]
  have:0<=k/\k < (i:Int)+2/\n.var < aW d.nodes k:=by rw [hvk];omega
  rw [decide_eq_true this]
 rw [if_neg (by simpa using h01)];by_cases h2:2<=k
 ·rw [if_pos h2, aB (by unfold I64; omega)];by_cases h3:k < (i:Int)+2
  ·have hkl : (k - 2).toNat < d.nodes.length := by omega
   rw [if_pos h3,aB (by unfold I64;omega),bM (by omega) (zQR hkl),cQ hn,aA];have hvk:aW d.nodes k=d.nodes[(k - 2).toNat].var:=by unfold aW;rw [if_neg (by omega),zQR hkl]
   rw [hvk]
   congr 1
   simp only [decide_eq_decide];omega
  rw [if_neg h3,aA]
  congr 1
  symm;rw [decide_eq_false_iff_not];omega
 rw [if_neg h2,aA]
 congr 1
 symm;rw [decide_eq_false_iff_not];omega
theorem nJ {l:List Bool} {i:Nat} (h:i < l.length):l[i]?=some (l.getD i false):=by
 rw [zQD,zQR h];rfl
theorem gB {d:Ab} (h:WfD d.nodes) (hl:d.nodes.length<=1000000):∀ (fu:Nat) (x:Int) (vis:List Bool) (left:Int),InD d.nodes x->x < (fu:Int)->vis.length=d.nodes.length+2->
  ∃ b v l,aZ fu x vis d left=some (b,v,l)/\v.length=vis.length/\(match eQ d.nodes fu x (vis,left) with|some s=>b=true/\s=(v,l)|none=>b=false)
 | 0,x,vis,left,hx,hf,hv=>by have:=hx.1;omega
 | fu+1,x,vis,left,hx,hf,hv=>by
  have hx0:=hx.1;have hx1:=hx.2;have hxl:x.toNat < vis.length:=by omega
  unfold aZ eQ
  have hcond:(if x < (2:Int) then some true else bH vis x λe4=>some e4)=some (decide (x < 2\/vis.getD x.toNat false=true)):=by
   by_cases h2:x < 2
   ·rw [if_pos h2];simp [h2]
   rw [if_neg h2,bM hx0 (nJ hxl)];simp [h2]
  rw [hcond,aA];dsimp only;by_cases hc:x < 2\/vis.getD x.toNat false=true
  ·rw [if_pos (by simpa using hc), if_pos hc];exact⟨true,vis,left,rfl,rfl,rfl,rfl⟩
  rw [if_neg (by simpa using hc), if_neg hc]
  have h2:2<=x:=by
   rcases Int.lt_or_le x 2 with h2|h2
   ·exact absurd (.inl h2) hc
   exact h2
  obtain⟨n,hn⟩:=hx.get h2;have hlo:=h.lo _ n hn;have hhi:=h.hi _ n hn;rw [bM hx0 (nJ hxl),aB (hx.i64 (by omega)).1,bM (by omega) hn,hn];dsimp only;have ilo:InD d.nodes n.lo:=⟨hlo.1,by omega⟩;have ihi:InD d.nodes n.hi:=⟨hhi.1,by omega⟩;obtain⟨b1,v1,l1,e1,w1,r1⟩:=gB h hl fu n.lo (vis.set x.toNat true) left ilo (by omega) (by simpa using hv);rw [e1,aA];dsimp only
  cases hp1:eQ d.nodes fu n.lo (vis.set x.toNat true,left) with
  | none=>
   rw [hp1] at r1;dsimp only at r1;subst r1;rw [if_pos (by rfl),aA];dsimp only;rw [if_pos rfl];exact⟨false,v1,l1,rfl,by simpa using w1,rfl⟩
  | some s1=>
   rw [hp1] at r1;dsimp only at r1;obtain⟨rfl,rfl⟩:=r1;rw [if_neg (by simp)];obtain⟨b2,v2,l2,e2,w2,r2⟩:=gB h hl fu n.hi v1 l1 ihi (by omega) (by simpa [hv] using w1);rw [e2,aA];dsimp only;simp only [Option.bind_some]
   cases hp2:eQ d.nodes fu n.hi (v1,l1) with
   | none=>
    rw [hp2] at r2;dsimp only at r2;subst r2;rw [if_pos (by rfl),aA];dsimp only;rw [if_pos rfl];exact⟨false,v2,l2,rfl,by simpa using w2.trans w1,rfl⟩
   | some s2=>
    rw [hp2] at r2;dsimp only at r2;obtain⟨rfl,rfl⟩:=r2;rw [if_neg (by simp),aA];dsimp only;simp only [Option.bind_some];by_cases hxe:x=l2
    ·rw [if_pos hxe, if_neg (by simp [hxe]), aB (by unfold I64; omega)];exact⟨true,v2,l2+1,rfl,by simpa using w2.trans w1,rfl,rfl⟩
    rw [if_neg hxe, if_pos (by simp [hxe])];exact⟨false,v2,l2,rfl,by simpa using w2.trans w1,rfl⟩
theorem tI {d:Ab} (h:WfD d.nodes) (hl:d.nodes.length<=1000000) (hr:InD d.nodes d.root):eE d=some (decide (dP d.nodes aO d.root 2=some ((d.nodes.length:Int)+2))):=by
 unfold eE eY;have ht:((d.nodes.length:Int)+2).toNat=d.nodes.length+2:=by omega
 obtain⟨b,v,l,e,_,r⟩:=gB h hl aO d.root (List.replicate (d.nodes.length+2) false) 2 hr (by have:=hr.2;unfold aO;omega) (by simp);have hv:=yR h aO hr;rw [aB (by unfold I64;omega),aB (by omega),ht,e,aA];dsimp only;rw [<- hv]
 cases hp:eQ d.nodes aO d.root (List.replicate (d.nodes.length+2) false,2) with
 | none=>
  rw [hp] at r;dsimp only at r;subst r;rw [if_neg (by simp),aA];simp
 | some s=>
  rw [hp] at r;dsimp only at r;obtain⟨rfl,rfl⟩:=r;rw [if_pos rfl,aB (by unfold I64;omega),aA];simp
theorem mem_find {L:List Aa} {n:Aa}:(L.findIdx? λm=>decide (m=n))=none↔n∉L:=by
 rw [List.findIdx?_eq_none_iff];constructor
 ·intro h hm;have:=h n hm;simp at this
 intro h x hx;simp only [decide_eq_false_iff_not];exact λe=>h (e ▸ hx)
theorem kM {d:Ab} (ho:NOK d.nodes):∃ b,dT d=some b/\(b=true↔ValidD d):=by
 unfold dT;by_cases hl:d.nodes.length<=20000
 ·rw [if_neg (by omega)];rw [vH (ρ:=(List (Aa×Int)×List Aa) ⊕ Bool) (b:=(([]:List (Aa×Int)),([]:List Aa))) d.nodes.length (λi=>(fD (d.nodes.take i),d.nodes.take i)) (oP d.nodes) (.inr false) (.inl (fD d.nodes,d.nodes)) rfl (by omega) (λi hi hb=>?_) (λhb=>?_)]
  ·cases ha:(List.range d.nodes.length).any (oP d.nodes) with
   | true=>
    refine⟨false,rfl,?_⟩;constructor
    ·intro h;cases h
    intro h;have:=any_bad.2 h.2.1;rw [ha] at this;cases this
   | false=>
    have hw:=any_bad.1 ha;rw [if_neg (by simp),dR];dsimp only;by_cases h0:d.nodes.length=0
    ·rw [if_pos (by omega)];refine⟨_,rfl,?_⟩;unfold ValidD;rw [if_pos h0];simp [hl,hw]
    rw [if_neg (by omega), aB (by unfold I64; omega)];by_cases hr:d.root=(d.nodes.length:Int)+1
    ·rw [if_pos hr, tI hw.1 (by omega) (by unfold InD; omega), aA, aA];refine⟨_,rfl,?_⟩;unfold ValidD;rw [if_neg h0,decide_eq_true_eq];exact⟨λh=>⟨hl,hw,hr,h⟩,λh=>h.2.2.2⟩
    rw [if_neg hr,aA];refine⟨_,rfl,?_⟩;unfold ValidD;rw [if_neg h0];exact⟨λh=>(by cases h),λh=>absurd h.2.2.1 hr⟩
  ·have hn:=zQR hi;have hnt:(d.nodes.take i).Nodup:=gC i hb;have hlt:(d.nodes.take i).length=i:=by simp;omega
   dsimp only;rw [if_pos (by omega),cQ hn,kK hn];generalize d.nodes[i]=n at hn
   have hbad : (if n.var < (0 : Int) then some true
      else if (64 : Int) <= n.var then some true
       else if n.lo = n.hi then some true
        else aD (dB d i n.lo) fun r20 => if (!(r20)) = true then some true else aD (dB d i n.hi) fun r22 => some (!(r22))) = some (!decide (cW d.nodes i n)) := by
    by_cases h1:n.var < 0
    ·rw [if_pos h1,decide_eq_false (show ¬ cW d.nodes i n from λh=>by have:=h.1;omega)];rfl
    rw [if_neg h1];by_cases h2:64<=n.var
    ·rw [if_pos h2,decide_eq_false (show ¬ cW d.nodes i n from λh=>by have:=h.2.1;omega)];rfl
    rw [if_neg h2];by_cases h3:n.lo=n.hi
    ·rw [if_pos h3,decide_eq_false (show ¬ cW d.nodes i n from λh=>h.2.2.1 h3)];rfl
    rw [if_neg h3, sI hn (by omega) (by omega), aA];by_cases h4:0<=n.lo/\n.lo < (i:Int)+2/\n.var < aW d.nodes n.lo
    ·rw [decide_eq_true h4, if_neg (by simp), sI hn (by omega) (by omega), aA];rw [show decide (cW d.nodes i n)=decide (0<=n.hi/\n.hi < (i:Int)+2/\n.var < aW d.nodes n.hi) from decide_eq_decide.2 ⟨λh=>h.2.2.2.2,λh=>⟨by omega,by omega,h3,h4,h⟩⟩]
    rw [decide_eq_false h4, if_pos (by rfl), decide_eq_false (show ¬ cW d.nodes i n from fun h => h4 h.2.2.2.1)];rfl
   rw [hbad,aA]
   cases hg:decide (cW d.nodes i n) with
   | false=>rw [if_pos (by rfl),if_pos (by rfl)];rfl
   | true=>
    rw [if_neg (by simp),tL hnt (λm hm=>ho m (List.mem_of_mem_take hm)) (ho.at hn) (by omega),aA]
    cases hf:(d.nodes.take i).findIdx? (λm=>decide (m=n)) with
    | some j=>
     have hm:n∈d.nodes.take i:=by
      rcases Classical.em (n∈d.nodes.take i) with h|h
      ·exact h
      rw [mem_find.2 h] at hf;cases hf
     rw [List.findIdx?_eq_some_iff_getElem] at hf;obtain⟨hj,_,_⟩:=hf;dsimp only;rw [if_neg (by omega),if_pos (by simp [hm])];rfl
    | none=>
     have hm:=mem_find.1 hf;dsimp only;rw [if_pos (by omega),aB (by unfold I64;omega),if_neg (by simp [hm])];have:d.nodes.take (i+1)=d.nodes.take i++[n]:=by rw [List.take_add_one,hn];rfl
     rw [this]
  dsimp only;rw [if_neg (by omega),List.take_length];rfl
 rw [if_pos (by omega)];refine⟨false,rfl,?_⟩;constructor
 ·intro h;cases h
 intro h;exact absurd h.1 hl
theorem iJ:∀ (m:Nat) (l:List Int),l.Nodup->(∀ y∈l,2<=y/\y < (m:Int)+2)->l.length<=m
 | 0,l,_,h=>by
  cases l with
  | nil=>exact zQW _
  | cons x r=>have:=h x (List.mem_cons_self ..);omega
 | m+1,l,hn,h=>by
  have h1:=iJ m (l.erase ((m:Int)+2)) (hn.erase _) λy hy=>by
   rw [hn.mem_erase_iff] at hy;have:=h y hy.2;have hne:=hy.1;omega
  rw [List.length_erase] at h1;split at h1<;>omega
theorem gS {D:List Aa} (h:WfD D):∀ (f:Nat) (x:Int) (left:List Int),InD D x->left.Nodup->(fC D f x left).Nodup/\∀ y∈fC D f x left,y∈left\/2<=y/\y<=x
 | 0,x,left,hx,hn=>⟨hn,λy hy=>.inl hy⟩
 | f+1,x,left,hx,hn=>by
  unfold fC;split
  ·exact⟨hn,λy hy=>.inl hy⟩
  split
  ·exact⟨hn,λy hy=>.inl hy⟩
  rename_i h2 hm;obtain⟨n,hn'⟩:=hx.get (by omega);have hlo:=h.lo _ n hn';have hhi:=h.hi _ n hn';have hx1:=hx.2;rw [hn'];dsimp only;have r1:=gS h f n.lo left ⟨hlo.1,by omega⟩ hn;have r2:=gS h f n.hi (fC D f n.lo left) ⟨hhi.1,by omega⟩ r1.1
  have hxn:x∉fC D f n.hi (fC D f n.lo left):=λhmem=>by
   rcases r2.2 x hmem with h3|h3
   ·rcases r1.2 x h3 with h4|h4
    ·exact hm h4
    omega
   omega
  refine⟨?_,λy hy=>?_⟩
  ·rw [List.nodup_append];refine⟨r2.1,by simp,λa ha b hb e=>?_⟩;rw [List.mem_singleton.1 hb] at e;exact hxn (e ▸ ha)
  rcases zQN.1 hy with h3|h3
  ·rcases r2.2 y h3 with h4|h4
   ·rcases r1.2 y h4 with h5|h5
    ·exact .inl h5
    exact .inr (by omega)
   exact .inr (by omega)
  rw [List.mem_singleton.1 h3];exact .inr (by omega)
theorem gU {d:Ab} (h:WfD d.nodes) (hl:d.nodes.length<=1000000):∀ (fu:Nat) (x:Int) (left:List Int),InD d.nodes x->x < (fu:Int)->left.Nodup->(∀ y∈left,2<=y/\y < (d.nodes.length:Int)+2)->bF fu d x left=some (fC d.nodes fu x left)
 | 0,x,left,hx,hf,hn,hr=>by have:=hx.1;omega
 | fu+1,x,left,hx,hf,hn,hr=>by
  have hx1:=hx.2;have hll:=iJ _ left hn hr;unfold bF fC;by_cases h2:x < 2
  ·rw [if_pos h2,if_pos h2]
  rw [if_neg h2,if_neg h2];rw [nE (ρ:=Unit ⊕ List Int) left (λe=>decide (e=x)) (.inr left) (.inl ()) (by omega) ?_ ?_]
  ·by_cases hm:x∈left
   ·rw [if_pos (by rw [zQU]; exact ⟨x, hm, by simp⟩), if_pos hm];rfl
   rw [if_neg (by rw [zQU]; rintro ⟨y, hy, e⟩; exact hm (of_decide_eq_true e ▸ hy)), if_neg hm, dR];obtain⟨n,hn'⟩:=hx.get (by omega);have hlo:=h.lo _ n hn';have hhi:=h.hi _ n hn';have ilo:InD d.nodes n.lo:=⟨hlo.1,by omega⟩;have ihi:InD d.nodes n.hi:=⟨hhi.1,by omega⟩;have r1:=gS h fu n.lo left ilo hn;have r2:=gS h fu n.hi (fC d.nodes fu n.lo left) ihi r1.1
   have g1:∀ y∈fC d.nodes fu n.lo left,2<=y/\y < (d.nodes.length:Int)+2:=λy hy=>by
    rcases r1.2 y hy with h3|h3
    ·exact hr y h3
    omega
   have g2:∀ y∈fC d.nodes fu n.hi (fC d.nodes fu n.lo left),2<=y/\y < (d.nodes.length:Int)+2:=λy hy=>by
    rcases r2.2 y hy with h3|h3
    ·exact g1 y h3
    omega
   have hl2:=iJ _ _ r2.1 g2;rw [aB (hx.i64 (by omega)).1,bM (by omega) hn',hn',gU h hl fu n.lo left ilo (by omega) hn hr,aA];rw [aB (hx.i64 (by omega)).1,bM (by omega) hn',gU h hl fu n.hi _ ihi (by omega) r1.1 g1,aA,aB (by simp;omega)]
  ·intro i e he;have hi:=(zQQ.1 he).1;rw [if_pos (by omega),cQ he];by_cases hex:e=x
   ·rw [if_pos hex, if_pos (by simpa using hex)];rfl
   rw [if_neg hex,if_neg (by simpa using hex),aB (by unfold I64;omega)]
  rw [if_neg (by omega)];rfl
theorem uZ {d:Ab} (h:WfD d.nodes) (hl:d.nodes.length<=1000000) {x:Int} (hx:InD d.nodes x):eL d x []=some (fC d.nodes aO x []):=by
 unfold eL;exact gU h hl aO x [] hx (by have:=hx.2;unfold aO;omega) List.nodup_nil λy hy=>by cases hy
theorem wZ {l:List Int} {m:Nat}:(l=eW m)↔((List.range l.length).any (λi=>!decide (l[i]?=some ((i:Int)+2)))=false/\l.length=m):=by
 constructor
 ·intro h;subst h;refine⟨?_,dH m⟩;rw [List.any_eq_false];intro i hi;have hi:=List.mem_range.1 hi;rw [dH] at hi;simp [eW,hi]
 rintro⟨h1,h2⟩;rw [List.any_eq_false] at h1;refine List.ext_getElem? λi=>?_;by_cases hi:i < l.length
 ·have:=h1 i (List.mem_range.2 hi);simp only [Bool.not_eq_true,Bool.not_eq_false',decide_eq_true_eq] at this;rw [this];simp [eW,h2 ▸ hi]
 rw [List.getElem?_eq_none (by omega),List.getElem?_eq_none (by rw [dH];omega)]
theorem pI {d:Ab} (ho:NOK d.nodes):∃ b,cZ d=some b/\(b=true↔ValidD d):=by
 unfold cZ;by_cases h0:d.nodes.length=0
 ·rw [if_pos (by omega)];refine⟨_,rfl,?_⟩;have hnil:d.nodes=[]:=List.length_eq_zero_iff.1 h0;unfold ValidD;rw [if_pos h0];have hw:=(any_bad (D:=d.nodes)).1 (by rw [h0];rfl);simp [h0,hw]
 rw [if_neg (by omega)];by_cases hl:d.nodes.length<=20000
 ·rw [if_neg (by omega), aB (by unfold I64; omega), aA];by_cases hr:d.root=(d.nodes.length:Int)+1
  ·rw [if_neg (by simp [hr])];rw [kU (ρ:=Unit ⊕ Bool) d.nodes.length (oP d.nodes) (.inr false) (.inl ()) (by omega) ?_ ?_]
   ·cases ha:(List.range d.nodes.length).any (oP d.nodes) with
    | true=>
     refine⟨false,rfl,?_⟩;constructor
     ·intro h;cases h
     intro h;have:=any_bad.2 h.2.1;rw [ha] at this;cases this
    | false=>
     have hw:=any_bad.1 ha;have hin:InD d.nodes d.root:=by unfold InD;omega
     rw [if_neg (by simp),dR,uZ hw.1 (by omega) hin,aA];have inv:=gS hw.1 aO d.root [] hin List.nodup_nil
     have hlen:=iJ d.nodes.length _ inv.1 λy hy=>by
      rcases inv.2 y hy with h|h
      ·cases h
      omega
     have hvis:=gQ hw.1 aO d.root 0 d.nodes.length hin (by unfold aO;omega);rw [show eW 0=[] from rfl,show ((0:Nat):Int)+2=2 from rfl] at hvis;generalize fC d.nodes aO d.root []=l at hlen hvis;rw [kU (ρ:=Unit ⊕ Bool) l.length (λi=>!decide (l[i]?=some ((i:Int)+2))) (.inr false) (.inl ()) (by omega) ?_ ?_]
     ·have hV:ValidD d↔l=eW d.nodes.length:=by
       unfold ValidD;rw [if_neg h0,hvis];exact⟨λh=>h.2.2.2,λh=>⟨hl,hw,hr,h⟩⟩
      rw [hV,wZ]
      cases hb:(List.range l.length).any λi=>!decide (l[i]?=some ((i:Int)+2)) with
      | true=>
       refine⟨false,rfl,?_⟩;simp
      | false=>
       rw [if_neg (by simp),dR];refine⟨_,rfl,?_⟩;rw [decide_eq_true_eq];constructor
       ·intro h;exact⟨rfl,by omega⟩
       intro h;have:=h.2;omega
     ·intro i hi;rw [if_pos (by omega),cQ (zQR hi),aB (by unfold I64;omega),zQR hi];by_cases he:l[i]=(i:Int)+2
      ·rw [if_pos he,aB (by unfold I64;omega),if_neg (by simp [he])]
      rw [if_neg he, if_pos (by simp [he])];rfl
     rw [if_neg (by omega)];rfl
   ·intro i hi;have hn:=zQR hi;rw [if_pos (by omega),cQ hn,kK hn];generalize d.nodes[i]=n at hn;by_cases hb1:n.var < 0\/63 < n.var\/n.lo=n.hi
    ·have hng:¬ cW d.nodes i n:=λh=>by
      rcases hb1 with h'|h'|h'
      ·have:=h.1;omega
      ·have:=h.2.1;omega
      exact h.2.2.1 h'
     rw [if_pos (by simpa using hb1),decide_eq_false hng,if_pos (by rfl)];rfl
    rw [if_neg (by simpa using hb1)];have hv:0<=n.var/\n.var < 64/\n.lo≠n.hi:=⟨by omega,by omega,λe=>hb1 (.inr (.inr e))⟩
    have hcond : ∀ k : Int, I64 k -> (if k < (0 : Int) then some true
          else
           aC (I64 ((i : Int) + (2 : Int))) <|
           if ((i : Int) + (2 : Int)) <= k then some true
           else
            if (1 : Int) < k then
             aC (I64 (k - (2 : Int))) <|
             bH d.nodes (k - (2 : Int)) fun e34 => some (decide (e34.var <= n.var))
            else some false) = some (!decide (0 <= k /\ k < (i : Int) + 2 /\ n.var < aW d.nodes k)) := fun k hk => by
     by_cases k0:k < 0
     ·rw [if_pos k0,decide_eq_false (by omega)];rfl
     rw [if_neg k0, aB (by unfold I64; omega)];by_cases k1:(i:Int)+2<=k
     ·rw [if_pos k1,decide_eq_false (by omega)];rfl
     rw [if_neg k1];by_cases k2:1 < k
     ·have hkl : (k - 2).toNat < d.nodes.length := by omega
      have hvk:aW d.nodes k=d.nodes[(k - 2).toNat].var:=by unfold aW;rw [if_neg (by omega),zQR hkl]
      rw [if_pos k2,aB (by unfold I64 at *; omega),bM (by omega) (zQR hkl),hvk]
      congr 1
      rw [<- decide_not];simp only [decide_eq_decide];omega
     rw [if_neg k2];have hvk:aW d.nodes k=64:=by unfold aW;rw [if_pos (by omega)]
     rw [hvk,decide_eq_true (by omega)];rfl
    have hi64:I64 n.lo/\I64 n.hi:=⟨(ho.at hn).2.1,(ho.at hn).2.2⟩;rw [nE [n.lo,n.hi] (λk=>!decide (0<=k/\k < (i:Int)+2/\n.var < aW d.nodes k)) (Sum.inr (Sum.inr (Sum.inr (Sum.inr false)))) (Sum.inl ()) (by simp) ?_ ?_]
    ·by_cases hg:cW d.nodes i n
     ·have hany:([n.lo,n.hi].any λk=>!decide (0<=k/\k < (i:Int)+2/\n.var < aW d.nodes k))=false:=by
       rw [List.any_cons,List.any_cons,List.any_nil,decide_eq_true hg.2.2.2.1,decide_eq_true hg.2.2.2.2];rfl
      rw [if_neg (by rw [hany];simp),dR];rw [kU i (λq=>decide (d.nodes[q]?=some n)) (Sum.inr (Sum.inr (Sum.inr false))) (Sum.inl ()) (by omega) ?_ ?_]
      ·have hmem:((List.range i).any λq=>decide (d.nodes[q]?=some n))=decide (n∈d.nodes.take i):=by
        rw [Bool.eq_iff_iff,zQU,decide_eq_true_eq];constructor
        ·rintro⟨q,hq,e⟩;have hq:=List.mem_range.1 hq;have e:=of_decide_eq_true e;exact zQM (i:=q) (by rw [List.getElem?_take,if_pos hq];exact e)
        intro hm;obtain⟨q,hq⟩:=List.getElem?_of_mem hm;rw [List.getElem?_take] at hq;split at hq
        ·exact⟨q,List.mem_range.2 (by assumption),decide_eq_true hq⟩
        cases hq
       rw [hmem,decide_eq_true hg];by_cases hm:n∈d.nodes.take i
       ·rw [decide_eq_true hm,if_pos rfl];rfl
       rw [decide_eq_false hm,if_neg (by simp),if_neg (by simp),dR,aB (by unfold I64;omega)]
      ·intro q hq;have hql:q < d.nodes.length:=by omega
       rw [if_pos (by omega),cQ (zQR hql),aB ⟨ho _ (List.getElem_mem hql),ho.at hn⟩,zQR hql];by_cases he:d.nodes[q]=n
       ·rw [if_pos he, if_pos (by simp [he])];rfl
       rw [if_neg he,if_neg (by simp [he]),aB (by unfold I64;omega)]
      rw [if_neg (by omega)];rfl
     have hany:([n.lo,n.hi].any λk=>!decide (0<=k/\k < (i:Int)+2/\n.var < aW d.nodes k))=true:=by
      rw [List.any_cons,List.any_cons,List.any_nil,Bool.or_false];rcases Classical.em (0<=n.lo/\n.lo < (i:Int)+2/\n.var < aW d.nodes n.lo) with h1|h1
      ·rcases Classical.em (0<=n.hi/\n.hi < (i:Int)+2/\n.var < aW d.nodes n.hi) with h2|h2
       ·exact absurd ⟨hv.1,hv.2.1,hv.2.2,h1,h2⟩ hg
       rw [decide_eq_false h2];simp
      rw [decide_eq_false h1];simp
     rw [if_pos hany,decide_eq_false hg,if_pos (by rfl)];rfl
    ·intro j e he;have hj:=(zQQ.1 he).1
     have hie:I64 e:=by
      have:=zQM he;simp only [zQB,List.not_mem_nil,or_false] at this;rcases this with rfl|rfl
      ·exact hi64.1
      exact hi64.2
     rw [if_pos (by omega),cQ he,hcond e hie,aA];by_cases hk:0<=e/\e < (i:Int)+2/\n.var < aW d.nodes e
     ·rw [decide_eq_true hk,if_neg (by simp),if_neg (by simp),aB (by simp only [List.length_cons,List.length_nil] at hj;unfold I64;omega)]
     rw [decide_eq_false hk, if_pos (by rfl), if_pos (by rfl)];rfl
    rw [if_neg (by omega)];rfl
   rw [if_neg (by omega)];rfl
  rw [if_pos (by simp [hr])];refine⟨false,rfl,?_⟩;unfold ValidD;rw [if_neg h0];exact⟨λh=>(by cases h),λh=>absurd h.2.2.1 hr⟩
 rw [if_pos (by omega), aA, if_pos rfl];refine⟨false,rfl,?_⟩;constructor
 ·intro h;cases h
 intro h;exact absurd h.1 hl
theorem uW:eC=some true:=by decide+kernel
theorem pM {D:List Aa} (h:WfD D) (vals:List Bool) (F:Int->Option (Int ⊕ Int)) (hF:∀ x,InD D x->F x=if 1 < x then (match D[(x - 2).toNat]? with|some n=>some (.inl (if asg 0 vals n.var=true then n.hi else n.lo))|none=>none) else some (.inr x)):
  ∀ (f:Nat) (x:Int),InD D x->x < (f:Int)->∃ y,eI F f x=some y/\decide (y=1)=jG D x (asg 0 vals)
 | 0,x,hx,hf=>by have:=hx.1;omega
 | f+1,x,hx,hf=>by
  simp only [eI];rw [hF x hx];by_cases h1:1 < x
  ·obtain ⟨n, hn⟩ := hx.get (by omega);have hlo:=h.lo _ n hn;have hhi:=h.hi _ n hn;have hx1:=hx.2;rw [if_pos h1,hn];dsimp only;rw [eR h (by omega) hn]
   cases asg 0 vals n.var with
   | true=>rw [if_pos rfl];exact pM h vals F hF f n.hi ⟨hhi.1,by omega⟩ (by omega)
   | false=>rw [if_neg (by simp)];exact pM h vals F hF f n.lo ⟨hlo.1,by omega⟩ (by omega)
  rw [if_neg h1];refine⟨x,rfl,?_⟩;have hx0:=hx.1;rcases (by omega:x=0\/x=1) with e|e<;>subst e<;>rfl
theorem asg_at (vals:List Bool) {v:Int} (h:0<=v):(if v < (vals.length:Int) then bH vals v λe=>some e else some false)=some (asg 0 vals v):=by
 unfold asg;by_cases hv:v < (vals.length:Int)
 ·rw [if_pos hv, bM h (nJ (by omega))];simp [h]
 rw [if_neg hv, decide_eq_true h, zQD, List.getElem?_eq_none (by omega)];rfl
theorem xG {d : Ab} (h : WfD d.nodes) (hl : d.nodes.length <= 1000000) (hr : InD d.nodes d.root) (vals : List Bool) : ∃ y, bR (fun n4 =>
   if (1 : Int) < n4 then
    aC (I64 (n4 - (2 : Int))) <|
    bH d.nodes (n4 - (2 : Int)) fun e8 =>
    aD (
     if e8.var < (vals.length : Int) then
      bH vals e8.var fun e12 =>
      some e12
     else
      some false) fun x9 =>
    if x9 = true then
     some (.inl e8.hi)
    else
     some (.inl e8.lo)
   else
    aX (
     some n4)) d.root = some y /\ decide (y = 1) = fnD d.nodes d.root 0 vals := by
 unfold fnD bR;refine pM h vals _ (λx hx=>?_) aO d.root hr (by have:=hr.2;unfold aO;omega);by_cases h1:1 < x
 ·obtain ⟨n, hn⟩ := hx.get (by omega);rw [if_pos h1,if_pos h1,aB (hx.i64 (by omega)).1,bM (by omega) hn,hn,asg_at vals (h.vars _ n hn).1,aA];dsimp only;split<;>rfl
 rw [if_neg h1,if_neg h1];rfl
theorem wB {d:Ab} (h:WfD d.nodes) (hl:d.nodes.length<=1000000) (hr:InD d.nodes d.root) (vals:List Bool):eA d vals=some (fnD d.nodes d.root 0 vals):=by
 unfold eA;obtain⟨y,e,hy⟩:=xG h hl hr vals;rw [e,aA,hy]
theorem ValidD.root {d:Ab} (h:ValidD d):InD d.nodes d.root:=by
 have h3:=h.2.2;unfold InD;split at h3
 ·omega
 have:=h3.1;omega
end Go.Proofs.Ytdkhkhidekpfoaa
