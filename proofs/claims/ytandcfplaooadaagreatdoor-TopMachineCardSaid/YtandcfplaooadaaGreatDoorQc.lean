/- A part of the proof. No condition. -/
import Derived.Test.YtandcfplaooadaaGreatDoorQb
set_option linter.unusedSimpArgs false
set_option linter.unusedVariables false

set_option linter.unusedVariables false
set_option linter.unusedSimpArgs false
set_option maxHeartbeats 1000000
namespace Go.TL
open Go
variable {C:Ctx}{st:St}{g:Gh}{a:Act}{w:World}
theorem qHG{o:Oper}{t e:TypeId}{x y:Operand}(sz by':Nat)(c:Int)(z:Value)(ho:o.op=.makeSlice t x y)(hl:sel C.P t=some (e,sz,by'))(hz:(C.P.info? e).bind (·.zero)=some z)(hx:st.fr.ev x=.d (.int .i64 0))(hy:st.fr.ev y=.d (.int .i64 c))(h0:0<=c)(hb:(by':Int)*c<=281474976710656)(hm:c<=9223372036854775807)(hs:Sim C st g a w):∃vs:Array Value,(execOp a.eval o).run C.P w=.ok (.value (.slice (some ⟨w.heap.size,0,none⟩) 0 c.toNat)) (w.alloc (.cells vs e))/\vs.size=c.toNat*sz:=by obtain⟨inf,hu,hi,hsz,hby⟩:=zB hl;obtain⟨i',hi',hzero⟩:=cx hz;cases hi.symm.trans hi';have hvx:=hs.ev x;rw[hx]at hvx;have hvy:=hs.ev y;rw[hy]at hvy;have hrun:=run_make (P:=C.P) w t e inf z hu hi hzero .i64 .i64 0 c (tW _) h0 (by rw[hby];exact hb) hm;refine⟨madeCells z.cells (c.toNat*inf.size),?_,by rw[size_madeCells,hsz]⟩;simp only[execOp,ho,int_inv hvx,int_inv hvy,Sem.run_bind,hrun,Result.andThen_ok,Sem.run_pure];rfl
section
variable {T:Tab}{ops:Array Oper}{ty:TypeId}{pos:String}{after:Array Edge}{l:List Oper}{K:St->Prop}{fr:Fr}{hp:List Blk}{d:Nat}{α:Type}{f:α->D}
theorem s_mkC{t e sz by':Nat}{a b:Operand}{z:Value}{n:Int}(N:Nat)(hT:TabOk C.P T)(hd:decide (d<C.n)=true)(hN:Nat.beq hp.length N=true)(hl:lk T.sel t=some (e,sz,by'))(hz:(C.P.info? e).bind (·.zero)=some z)(ha:fr.ev a=.d (.int .i64 0))(hb:fr.ev b=.d (.int .i64 n))(hby:Nat.ble by' 100000=true)(hn:0<=n/\n<=1000000000)(h:cP C ops l ⟨(d,.msl N sz 0 ([]:List α).length)::fr,hp++[.flat e sz (([]:List α).map f)]⟩ K):cP C ops (⟨some d,.makeSlice t a b,ty,pos,after,none⟩::l) ⟨fr,hp⟩ K:=by obtain⟨m,rfl⟩:=yQ hn.1;have h1:=iP hby;have h2:m<=1000000000:=aB;have h3:by'*m<=100000*1000000000:=gm h1 h2;have e0:=eU hN;subst e0;refine gW rfl (OpOk.change λg aa w hs=>?_);obtain⟨vs,hr,hv⟩:=qHG (o:=⟨some d,.makeSlice t a b,ty,pos,after,none⟩) (st:=⟨fr,hp⟩) sz by' (m:Int) z rfl (hT.sel hl) hz ha hb aB qDV aB hs;obtain⟨q1,q2⟩:=Km (ty:=e) (sz:=sz) (es:=[]) (vs:=vs) hs aN (λi e he=>Jt) (λi e j c he=>Jt) (λi e j c he=>Jt);refine⟨_,_,hr,_,_,by simpa[St.put]using h,q1.put' (d:=some d) (show vC C.n (some d)=true from hd) ?_⟩;have:=q2 m aN (by rw[hv];simp);simpa using this
end
end Go.TL
set_option linter.unusedVariables false
set_option linter.unusedSimpArgs false
set_option maxHeartbeats 1000000
set_option maxRecDepth 100000
namespace Go.TL
open Go
variable {C:Ctx}{o:Oper}{ev:Operand->AV}{hp:List Blk}{t:TypeId}{x y:Operand}
variable {E next:St->Prop}{F G:FuncId}{Q:Exit->St->Prop}{after:Array Edge}{args:List AV}{c:Code}{ds:List D}{e id n s:Nat}{fn:Func}{i:Int}{ids:List Nat}{k:IntKind}{l:List Oper}{mv:Nat->Bool}{name pos:String}{ops:Array Oper}{rs:List ResultVar}{ty:TypeId}{zs:List Int}
theorem O1{w:World}{j:Nat}{vs:List Value}{t:TypeId}{fz:Nat×Nat}(h:w.heap[n]?=some (.cells vs.toArray t fz)){u:Value}(hj:vs[j]?=some u):w.cell? ((⟨n,0,none⟩:Addr).add j)=some u:=by rw[zR,cell_of_row w n _ vs.toArray t fz h];simpa using hj
theorem x_ldG{d:D}(ho:o.op=.load t (.global n))(hl:lay C.P t=some (true,s))(hm:(n,d.cells.map D.val)∈Gz)(h1:d.one=false)(hs:(d.cells.all D.scal)=true)(hn:Nat.beq d.cells.length s=true):RdOk C o ev hp (.d d):=RdOk.mk λst hhp hag g a w hsim=>by obtain⟨⟨t',fz,e⟩,_⟩:=hsim.laidW _ hm;have hlen:=eU hn;exact⟨_,oX ho rfl (tI hl w ⟨n,0,none⟩ (d.cells.map D.val) (by rw[yt];exact hlen) (λj u hj=>O1 e hj)),.d _ _ (qHZ h1 hs)⟩
theorem xk{α:Type}{f:α->List D}{s:Nat}(hs:∀x,(f x).length=s):∀{xs:List α}{i:Nat}{z:α},xs[i]?=some z->∀j,j<s->(xs.flatMap f)[i*s+j]?=(f z)[j]?
  |[],i,z,h,j,hj=>nV
  |x::xs,0,z,h,j,hj=>by
    simp at h;subst h;rw[Ij,F7,iO,Bb (by rw[hs];exact hj)]
  |x::xs,i+1,z,h,j,hj=>by
    have h':xs[i]?=some z:=fc
    rw[Ij,xy (by rw[hs,gl];omega),hs,<- xk hs h' j hj]
    congr 1
    rw[gl];omega
theorem eJ{α:Type}{f:α->List D}{s:Nat}(hs:∀x,(f x).length=s):∀(xs:List α),(xs.flatMap f).length=xs.length*s
  |[]=>aN
  |x::xs=>by rw[Ij,xK,hs,eJ hs xs,kM,gl,Nat.add_comm]
theorem x_ixA{e:TypeId}{α:Type}{f:α->D}{xs:List α}{z:α}(hs:∀x,(f x).cells.length=s)(hf:∀x,f x=.agg (f x).cells)(ho:o.op=.index t x y)(hu:C.P.underlying t=some (.array n e))(hl:lay C.P e=some (true,s))(hx:ev x=.d (.agg (xs.flatMap λx=>(f x).cells)))(hy:ev y=.d (.int k i))(h:0<=i/\xs[i.toNat]?=some z)(hn:Nat.beq n xs.length=true):RdOk C o ev hp (.d (f z)):=RdOk.mk λst hhp hag g a w hsim=>by have hv:=hsim.ev x;rw[hag x fN,hx]at hv;have hi:=hsim.ev y;rw[hag y fN,hy]at hi;generalize he:a.eval x=vx at *;have hlt:=gJ h.2;have hn':=eU hn;obtain⟨h1,h2⟩:=gz hl w;cases hv with|d _ _ hd=>cases hd with|agg cs vs hlen hone hrep=>have hsz:vs.size=xs.length*s:=(by rw[<- hlen,eJ hs]);have hle:i.toNat*s+s<=vs.size:=(by rw[hsz,<- Nat.succ_mul];exact sL s hlt);have hi2:i<(n:Int):=aB;refine⟨.agg (vs.extract (i.toNat*s) (i.toNat*s+s)),?_,?_⟩;simp only[execOp,ho,he,int_inv hi];simp[Instr.index,run_underlying hu,asIntOf,h.1,hi2,part,h1,h2];rw[hf z];refine .d _ _ (.agg _ _ (by rw[hs,Array.size_extract];omega) (λc hc=>?_) λj c v hc hv=>?_);obtain⟨j,hj⟩:=zal114q.1 hc;have hjs:j<s:=(by rw[<- hs z];exact(gJ hj));exact hone c (zal114q.2 ⟨i.toNat*s+j,by rw[xk hs h.2 j hjs];exact hj⟩);have hjs:j<s:=(by rw[<- hs z];exact(gJ hc));refine hrep (i.toNat*s+j) c v (by rw[xk hs h.2 j hjs];exact hc) ?_;rw[Array.getElem?_extract]at hv;split at hv;exact hv;cases hv
variable {C:Ctx}
theorem s_ldGI{ty1 ty2:TypeId}{p1 p2:String}{af1 af2:Array Edge}{K:St->Prop}{fr:Fr}{hp:List Blk}{d1 d2 t m:Nat}{y:Operand}{xs:List Int}{x:Int}(hd1:decide (d1<C.n)=true)(hd2:decide (d2<C.n)=true)(hu:C.P.underlying t=some (.array m e))(hl:lay C.P e=some (false,1))(hm:(n,xs.map (Value.int .i64))∈Gz)(hlen:Nat.beq xs.length m=true)(hy:fr.ev y=.d (.int k i))(hi:0<=i/\xs[i.toNat]?=some x)(h:cP C ops l ⟨(d2,.d (.int .i64 x))::(d1,.junk)::fr,hp⟩ K):cP C ops (⟨some d1,.indexAddr t (.global n) y,ty1,p1,af1,none⟩::⟨some d2,.load e (.tmp d1),ty2,p2,af2,none⟩::l) ⟨fr,hp⟩ K:=by intro g a w hs;obtain⟨⟨t',fz,hh⟩,_⟩:=hs.laidW _ hm;have hv:=hs.ev y;rw[hy]at hv;have hlt:=gJ hi.2;have hm':=eU hlen;have hsz:=(gz hl w).2;have r1:(execOp a.eval ⟨some d1,.indexAddr t (.global n) y,ty1,p1,af1,none⟩).run C.P w=.ok (.value (.pointer (some ((⟨n,0,none⟩:Addr).add i.toNat)))) w:=(by have hlt2:i<(m:Int):=aB;have hg:a.eval (.global n)=.pointer (some ⟨n,0,none⟩):=rfl;obtain⟨h1,h2⟩:=gz hl w;simp only[execOp,int_inv hv,hg];simp[Instr.indexAt,run_underlying hu,Instr.sureAddr,asIntOf,hi.1,hlt2,h2]);have hlt3:d1<a.tmps.size:=(by rw[hs.size];exact of_decide_eq_true hd1);have hs1:=hs.put' (d:=some d1) (show vC C.n (some d1)=true from hd1) (x:=.junk) (v:=.pointer (some ((⟨n,0,none⟩:Addr).add i.toNat))) (.junk _);have r2:(execOp (a.put (some d1) (.pointer (some ((⟨n,0,none⟩:Addr).add i.toNat)))).eval ⟨some d2,.load e (.tmp d1),ty2,p2,af2,none⟩).run C.P w=.ok (.value (.int .i64 x)) w:=(by refine oX rfl (ad:=(⟨n,0,none⟩:Addr).add i.toNat) ?_ (tH hl w _ _ (O1 hh (by rw[vV,hi.2];rfl)));simp[Act.put,Act.eval,hlt3]);unfold wpList;rw[if_pos Iq];left;simp only[Oper.wp,r1,Oper.upon_value];unfold wpList;rw[if_pos Iq];left;simp only[Oper.wp,r2,Oper.upon_value];exact h _ _ _ (hs1.put' (d:=some d2) (show vC C.n (some d2)=true from hd2) (.d _ _ (.int _ _)))
theorem qUW{P:Program}(w:World)(b:Nat)(s:ByteArray)(pos:Nat)(ty:TypeId)(hb:w.heap[b]?=some (.stringIter s pos))(h:pos<s.size):(Instr.next (.pointer (some ⟨b,0,none⟩)) true ty).run P w=.ok (.tuple #[.bool true,.int .i64 pos,.int .i32 (Utf8.decode s pos).1]) (w.putObj b (.stringIter s (pos+(Utf8.decode s pos).2))):=by obtain⟨hlt,h1⟩:=zal5q.1 hb;simp[Instr.next,getObj,setObj,Sem.run,h1,h,goInt,hlt,World.putObj]
theorem qUX{P:Program}(w:World)(b:Nat)(s:ByteArray)(pos:Nat)(ty:TypeId)(hb:w.heap[b]?=some (.stringIter s pos))(h:¬pos<s.size):(Instr.next (.pointer (some ⟨b,0,none⟩)) true ty).run P w=.ok (.tuple #[.bool false]) w:=by obtain⟨hlt,h1⟩:=zal5q.1 hb;simp[Instr.next,getObj,Sem.run,h1,h,hlt]
theorem tup3_rep{w:World}{g:Gh}{b:Bool}{x y:Int}:ARep w g (.tup [.d (.bool b),.d (.int .i64 x),.d (.int .i32 y)]) (.tuple #[.bool b,.int .i64 x,.int .i32 y]):=.tup _ _ rfl λi c v hc hv=>by rcases i with _|_|_|i;simp at hc hv;subst hc hv;exact .d _ _ (.bool _);simp at hc hv;subst hc hv;exact .d _ _ (.int _ _);simp at hc hv;subst hc hv;exact .d _ _ (.int _ _);simp at hc
theorem tup1_rep{w:World}{g:Gh}{b:Bool}:ARep w g (.tup [.d (.bool b)]) (.tuple #[.bool b]):=.tup _ _ rfl λi c v hc hv=>by rcases i with _|i;simp at hc hv;subst hc hv;exact .d _ _ (.bool _);simp at hc
section
variable {C:Ctx}{ops:Array Oper}{ty:TypeId}{pos:String}{after:Array Edge}{l:List Oper}{K:St->Prop}{fr:Fr}{hp:List Blk}{d:Nat}{x:Operand}{S:ByteArray}
theorem s_range{t:TypeId}(N:Nat)(hd:decide (d<C.n)=true)(hN:Nat.beq hp.length N=true)(hu:C.P.underlying t=some .string)(hx:fr.ev x=.d (.str S))(h:cP C ops l ⟨(d,.mptr N 0 0 0)::fr,hp++[.ob (.stringIter S 0)]⟩ K):cP C ops (⟨some d,.range t x,ty,pos,after,none⟩::l) ⟨fr,hp⟩ K:=by have e0:=eU hN;subst e0;refine gW rfl (OpOk.change λg a w hs=>?_);have hv:=hs.ev x;rw[show(⟨fr,hp⟩:St).fr.ev x=fr.ev x from rfl,hx]at hv;have hr:(execOp a.eval ⟨some d,.range t x,ty,pos,after,none⟩).run C.P w=.ok (.value (.pointer (some ⟨w.heap.size,0,none⟩))) (w.alloc (.stringIter S 0)):=(by generalize he:a.eval x=v at hv;cases hv with|d _ _ hv=>cases hv;simp only[execOp,he,Sem.run_bind,run_range_string w t S hu,Result.andThen_ok,Sem.run_pure,World.iter]);have hs1:=hs.alloc (o:=.stringIter S 0) (n:=0) (B:=.ob (.stringIter S 0)) ⟨w.heap.size,oH,World.alloc_heap_new w _⟩;refine⟨_,_,hr,_,_,h,hs1.put' (d:=some d) (show vC C.n (some d)=true from hd) ?_⟩;have:=ARep.mptr (w:=w.alloc (.stringIter S 0)) (g:=g.new hp.length w.heap.size 0) hp.length 0 0 0 w.heap.size oH;simpa using this
theorem s_nextY{i p:Nat}(hd:decide (d<C.n)=true)(hx:fr.ev x=.mptr i 0 0 0)(hb:hp[i]?=some (.ob (.stringIter S p)))(hlt:p<S.size)(h:cP C ops l ⟨(d,.tup [.d (.bool true),.d (.int .i64 p),.d (.int .i32 (Utf8.decode S p).1)])::fr,hp.set i (.ob (.stringIter S (p+(Utf8.decode S p).2)))⟩ K):cP C ops (⟨some d,.next x true,ty,pos,after,none⟩::l) ⟨fr,hp⟩ K:=by refine gW rfl (OpOk.change λg a w hs=>?_);have hv:=hs.ev x;rw[show(⟨fr,hp⟩:St).fr.ev x=fr.ev x from rfl,hx]at hv;obtain⟨b,hpb,hw⟩:=hs.hp i _ hb;have hX:=(hs.lt i b hpb).2.2;have hltb:=(hs.lt i b hpb).1;have hr:(execOp a.eval ⟨some d,.next x true,ty,pos,after,none⟩).run C.P w=.ok (.value (.tuple #[.bool true,.int .i64 p,.int .i32 (Utf8.decode S p).1])) (w.putObj b (.stringIter S (p+(Utf8.decode S p).2))):=(by generalize he:a.eval x=v at hv;cases hv with|mptr _ _ _ _ b' hb'=>cases hpb.symm.trans hb';simp only[execOp,he,Sem.run_bind,qUW w b S p _ hw hlt,Result.andThen_ok,Sem.run_pure]);have hs1:=hs.change hb (λe=>by cases e) hpb World.putObj_size rfl rfl rfl (oA _) (λb' hb'=>World.putObj_heap_other hb') (B:=.ob (.stringIter S (p+(Utf8.decode S p).2))) ⟨b,hpb,World.putObj_heap_same hltb⟩;refine⟨_,_,hr,_,_,h,hs1.put' (d:=some d) (show vC C.n (some d)=true from hd) ?_⟩;exact tup3_rep
theorem s_nextN{i p:Nat}(hd:decide (d<C.n)=true)(hx:fr.ev x=.mptr i 0 0 0)(hb:hp[i]?=some (.ob (.stringIter S p)))(hlt:¬p<S.size)(h:cP C ops l ⟨(d,.tup [.d (.bool false)])::fr,hp⟩ K):cP C ops (⟨some d,.next x true,ty,pos,after,none⟩::l) ⟨fr,hp⟩ K:=by refine gW rfl (OpOk.change λg a w hs=>?_);have hv:=hs.ev x;rw[show(⟨fr,hp⟩:St).fr.ev x=fr.ev x from rfl,hx]at hv;obtain⟨b,hpb,hw⟩:=hs.hp i _ hb;have hr:(execOp a.eval ⟨some d,.next x true,ty,pos,after,none⟩).run C.P w=.ok (.value (.tuple #[.bool false])) w:=(by generalize he:a.eval x=v at hv;cases hv with|mptr _ _ _ _ b' hb'=>cases hpb.symm.trans hb';simp only[execOp,he,Sem.run_bind,qUX w b S p _ hw hlt,Result.andThen_ok,Sem.run_pure]);refine⟨_,_,hr,_,_,h,hs.put' (d:=some d) (show vC C.n (some d)=true from hd) ?_⟩;exact tup1_rep
end
section
variable {P:Program}{a:Act}{w:World}{Q:Exit->Act->World->Prop}
theorem Zv{c rest:Code}(l:Nat)(J:Nat->Act->World->Prop)(hf:findLabel c l=some rest)(first:c.wp P (Exit.jump l (λa w=>∃n,J n a w) Q) a w)(pass:∀n a w,J n a w->rest.wp P (Exit.jump l (λa' w'=>∃m,m<n/\J m a' w') Q) a w):(Code.scope c).wp P Q a w:=by intro b k cs;have hg:gotoIn l (.inScope c::k)=some (.code rest::.inScope c::k):=(by simp[gotoIn,hf]);have key:∀n a w,J n a w->∃e a' w',Q e a' w'/\Arrives P (lone (b.at a (.code rest::.inScope c::k)) cs w) b k cs e a' w':=(by intro n;induction n using Nat.strongRecOn with|_ n ih=>intro a w hJ;obtain⟨e,a₁,w₁,hq,harr⟩:=pass n a w hJ b (.inScope c::k) cs;cases e with|normal=>exact⟨.normal,a₁,w₁,hq,Steps.trans harr (.one step_inScope)⟩|exit id=>exact⟨.exit id,a₁,w₁,hq,λk' hk=>harr k' (by simp[exitTo,hk])⟩|goto l'=>obtain⟨rfl,m,hlt,hJ'⟩:=hq;obtain⟨e₂,a₂,w₂,hq₂,harr₂⟩:=ih m hlt a₁ w₁ hJ';exact⟨e₂,a₂,w₂,hq₂,.of_steps (harr _ hg) harr₂⟩|ret=>exact⟨_,a₁,w₁,hq,harr⟩|panic ch=>exact⟨_,a₁,w₁,hq,harr⟩|outgrown=>exact⟨_,a₁,w₁,hq,harr⟩);(obtain⟨e,a₁,w₁,hq,harr⟩:=first b (.inScope c::k) cs);cases e with|normal=>exact⟨.normal,a₁,w₁,hq,.head step_scope (Steps.trans harr (.one step_inScope))⟩|exit id=>exact⟨.exit id,a₁,w₁,hq,λk' hk=>.head step_scope (harr k' (by simp[exitTo,hk]))⟩|goto l'=>obtain⟨rfl,n,hJ'⟩:=hq;obtain⟨e₂,a₂,w₂,hq₂,harr₂⟩:=key n a₁ w₁ hJ';exact⟨e₂,a₂,w₂,hq₂,.of_steps (.head step_scope (harr _ hg)) harr₂⟩|ret=>exact⟨_,a₁,w₁,hq,.of_steps (.one step_scope) harr⟩|panic ch=>exact⟨_,a₁,w₁,hq,.of_steps (.one step_scope) harr⟩|outgrown=>exact⟨_,a₁,w₁,hq,.of_steps (.one step_scope) harr⟩
end
section
variable {C:Ctx}{st:St}{Q:Exit->St->Prop}
def Ot(l:Nat)(J:St->Prop)(Q:Exit->St->Prop):Exit->St->Prop
  |.goto l',st=>l'=l/\J st
  |e,st=>Q e st
variable {J:St->Prop}{c rest:Code}{l:Nat}
theorem qLL{J':Act->World->Prop}{a:Act}{w:World}(hJ:∀st g a w,J st->Sim C st g a w->J' a w)(h:c.wp C.P (λe a' w'=>∃st' g',Ot l J Q e st'/\Sim C st' g' a' w') a w):c.wp C.P (Exit.jump l J' λe a' w'=>∃st' g',Q e st'/\Sim C st' g' a' w') a w:=Go.wp_mono h λe a' w' ⟨st',g',hq,hs⟩=>by cases e with|goto l'=>exact⟨hq.1,hJ _ _ _ _ hq.2 hs⟩|normal=>exact⟨st',g',hq,hs⟩|exit id=>exact⟨st',g',hq,hs⟩|ret=>exact⟨st',g',hq,hs⟩|panic ch=>exact⟨st',g',hq,hs⟩|outgrown=>exact⟨st',g',hq,hs⟩
theorem qUD(l:Nat)(hf:findLabel c l=some rest)(I:Nat->St->Prop)(first:TWp C c st (Ot l (λst'=>∃n,I n st') Q))(pass:∀n st,I n st->TWp C rest st (Ot l (λst'=>∃m,m<n/\I m st') Q)):TWp C (.scope c) st Q:=λg a w hs=>Zv l (λn a w=>∃st g,I n st/\Sim C st g a w) hf (qLL (λst g a w ⟨n,h⟩ hs=>⟨n,st,g,h,hs⟩) (first g a w hs)) λn a w ⟨st,g,hI,hs⟩=>qLL (λst g a w ⟨m,hm,h⟩ hs=>⟨m,hm,st,g,h,hs⟩) (pass n st hI g a w hs)
theorem qUE(h:Q .normal st):TWp C (.label l) st Q:=λg a w hs=>wp_label ⟨st,g,h,hs⟩
theorem twp_goto(h:Q (.goto l) st):TWp C (.goto l) st Q:=λg a w hs=>wp_goto ⟨st,g,h,hs⟩
theorem w_scope{σ ρ:Type}{f:σ->Option (σ ⊕ ρ)}{s0:σ}{o:ρ}(l:Nat)(hm:bK f s0=some o){fr:Fr}{hp:List Blk}(var:σ->Fr)(chg:σ->List (Nat×Blk))(vk ik ids:List Nat){inv:Fr}{hp0:List Blk}(hk:∀i,i<C.k->ids[i]?=some i)(h:(jF ids,Fc fr ik,Fr.mapRef (toName (bI ids)) inv,Fr.mapRef (toName (bI ids)) (Fr.keep vk fr),ids.map (λi=>(hp.getD i .dead).mapRef (toName (bI ids))),hp0)=(true,some inv,inv,var s0,hp0,wr (chg s0) hp0))(round:∀s x,f s=some x->(∀v,x=.inr v->v=o)->TWp C rest ⟨var s++inv,wr (chg s) hp0⟩ (Ot l (λst'=>∃s' ids',x=.inl s'/\jF ids'=true/\(∀i,i<C.k->ids'[i]?=some i)/\st'.canon (vk++ik) ids'=⟨var s'++inv,wr (chg s') hp0⟩) Q)):TWp C (.scope (.seq (.label l) rest)) ⟨fr,hp⟩ Q:=by simp only[wW]at h;obtain⟨h1,h2,h3,h4,h5,h6⟩:=h;have hcan:(⟨fr,hp⟩:St).canon (vk++ik) ids=⟨var s0++inv,wr (chg s0) hp0⟩:=(by simp only[St.canon];have e1:Fr.keep (vk++ik) fr=Fr.keep vk fr++inv:=(by rw[(Gu h2).keep];simp[Fr.keep]);have e2:∀(F:AV->AV)(a b:Fr),Fr.mapRef F (a++b)=Fr.mapRef F a++Fr.mapRef F b:=(by intro F a b;induction a with|nil=>rfl|cons x r ih=>obtain⟨t,v⟩:=x;simp[Fr.mapRef,ih]);rw[e1,e2,h3,h4,h5];congr 1);have pass:∀(n:Nat)(s:σ)(st:St)(ids:List Nat),tP f n s=some o->ids.Nodup->(∀i,i<C.k->ids[i]?=some i)->st.canon (vk++ik) ids=⟨var s++inv,wr (chg s) hp0⟩->TWp C rest st (Ot l (λst'=>∃m,m<n/\∃s ids,tP f m s=some o/\ids.Nodup/\(∀i,i<C.k->ids[i]?=some i)/\st'.canon (vk++ik) ids=⟨var s++inv,wr (chg s) hp0⟩) Q):=(by intro n s st ids hs hnd hki he;refine yy (vk++ik) ids hnd hki ?_;rw[he];cases n with|zero=>cases hs|succ n=>simp only[tP]at hs;cases hfs:f s with|none=>rw[hfs]at hs;cases hs|some x=>rw[hfs]at hs;refine(round s x hfs λv hv=>by subst hv;exact bO hs).mono ?_;rintro e st' hq;cases e with|goto l'=>obtain⟨rfl,s',ids',hx,q1,q2,q3⟩:=hq;subst hx;exact⟨rfl,n,Nat.lt_succ_self n,s',ids',hs,kJ q1,q2,q3⟩|_=>exact hq);refine qUD (rest:=.seq .skip rest) l (by simp[findLabel]) (λn st=>∃s ids,tP f n s=some o/\ids.Nodup/\(∀i,i<C.k->ids[i]?=some i)/\st.canon (vk++ik) ids=⟨var s++inv,wr (chg s) hp0⟩) ?_ (λn st hI=>by obtain⟨s,ids,q1,q2,q3,q4⟩:=hI;exact TQ (TS (pass n s st ids q1 q2 q3 q4)));refine TQ (qUE ?_);refine(pass oM s0 ⟨fr,hp⟩ ids hm (kJ h1) hk hcan).mono ?_;rintro e st' hq;cases e with|goto l'=>obtain⟨rfl,m,_,q⟩:=hq;exact⟨rfl,m,q⟩|_=>exact hq
theorem gotoA(h:J st):Ot l J Q (.goto l) st:=⟨rfl,h⟩
theorem jumpN(h:Q .normal st):Ot l J Q .normal st:=h
theorem jumpR(h:Q .ret st):Ot l J Q .ret st:=h
theorem qFM{l:Nat}:∀(ks:List Kt){Q:Exit->St->Prop},Q (.goto l) st->post C ks Q (.goto l) st
  |[],_,h=>h
  |.s y::ks,_,h=>qFM (l:=l) ks h
  |.b i::ks,_,h=>qFM (l:=l) ks h
theorem qUF{ks:List Kt}(h:Q (.goto l) st):TWp C (.goto l) st (post C ks Q):=twp_goto (qFM ks h)
end
section
variable {P:Program}{o:Oper}{a:Act}{w:World}
theorem qNZ{K K':Act->World->Prop}{Q Q':Exit->Act->World->Prop}(h:∀a w,K a w->K' a w)(hq:∀e a w,e≠.normal->Q e a w->Q' e a w)(hh:o.wp P a w K Q):o.wp P a w K' Q':=by
  unfold Oper.wp at *;generalize (execOp a.eval o).run P w=r at *
  cases r with
  |ok n w'=>
    cases n<;>simp only[Oper.upon]at hh⊢<;>
      first
        |exact h _ _ hh
        |exact Calls.mono hh (λe w'' he=>by
            cases e with
            |returned v=>exact h _ _ he
            |panicked ch=>exact hq _ _ _ (λe=>by cases e) he
            |outgrown=>obtain⟨a0,w0,q⟩:=he;exact⟨a0,w0,hq _ _ _ (λe=>by cases e) q⟩)
        |exact Rows.mono hh (λ_ _ he=>h _ _ he)
  |halt x w'=>
    cases x<;>simp only[Oper.upon]at hh⊢;exact hq _ _ _ (λe=>by cases e) hh
theorem xL{ops:Array Oper}{Q Q':Exit->Act->World->Prop}{l2:List Oper}(hq:∀e a w,e≠.normal->Q e a w->Q' e a w)(hn:∀a w,Q .normal a w->wpList P ops Q' l2 a w):∀(l1:List Oper)(a:Act)(w:World),wpList P ops Q l1 a w->wpList P ops Q' (l1++l2) a w
  |[],a,w,h=>hn a w h
  |o::l1,a,w,h=>by
    rw[D3];unfold wpList at h⊢;by_cases hw:Region.wanted o (yielded ops a.tmps)=true;rw[if_pos hw]at h⊢;rcases h with h|⟨h1,a0,w0,q⟩
    exact .inl (qNZ (λa w h=>xL hq hn l1 a w h) hq h);exact .inr ⟨h1,a0,w0,hq _ _ _ (λe=>by cases e) q⟩;rw[if_neg hw]at h⊢;exact xL hq hn l1 _ _ h
end
section
variable {C:Ctx}{st:St}{Q:Exit->St->Prop}{ops:Array Oper}
def gk(C:Ctx)(ops:Array Oper)(l:List Oper)(st:St)(Q:Exit->St->Prop):Prop:=∀g a w,Sim C st g a w->wpList C.P ops (λe a' w'=>∃st' g',Q e st'/\Sim C st' g' a' w') l a w
variable {id:Nat}{ks:List Kt}{l l1 l2:List Oper}
theorem qIF(h:gk C ops ops.toList st Q):TWp C (.region id ops false) st Q:=λg a w hs=>wp_region_list (h g a w hs)
theorem x_app(h:cP C ops l1 st λst'=>gk C ops l2 st' Q):gk C ops (l1++l2) st Q:=λg a w hs=>xL (λe a' w' he h=>by cases e with|normal=>exact absurd rfl he|_=>exact h.elim) (λa' w' ⟨st',g',hk,hs'⟩=>hk g' a' w' hs') l1 a w (h g a w hs)
theorem x_cutX(n:Nat)(h:cP C ops (l.take n) st λst'=>gk C ops (l.drop n) st' Q):gk C ops l st Q:=by rw[<- List.take_append_drop n l];exact x_app h
theorem x_rest(h:cP C ops l st (Q .normal)):gk C ops l st Q:=by have:=x_app (l2:=[]) (Q:=Q) (l1:=l) (st:=st) (ops:=ops) (C:=C) (λg a w hs=>xL (l2:=[]) (λe a' w' _ h=>h) (λa' w' h=>h) l a w (h g a w hs) |> λh=>by rw[kU]at h;have h2:wpList C.P ops (QN C λst'=>gk C ops [] st' Q) (l++[]) a w:=xL (Q:=QN C (Q .normal)) (Q':=QN C λst'=>gk C ops [] st' Q) (l2:=[]) (λe a' w' he h=>by cases e with|normal=>exact absurd rfl he|_=>exact h.elim) (λa' w' ⟨st',g',hk,hs'⟩=>⟨st',g',λg a w hs=>⟨st',g,hk,hs⟩,hs'⟩) l a w h;rwa [kU]at h2);rwa [kU]at this
def qXM(p:D)(ch:List PanicEntry):Prop:=∃v,ch=[{ v:=v,recovered:=false }]/\∀w X,DRep w X p v
theorem DRep.all{w w':World}{X X':Nat->Prop}{d:D}{v:Value}(h:DRep w X d v)(hm:d.mem0=true):DRep w' X' d v:=(h.any (Y:=λ_=>False) hm).mono (λ_ h=>h.elim) (λ_ h=>h.elim)
theorem Q9{fr:Fr}{hp:List Blk}{d:Option Nat}{x:Operand}{ty:TypeId}{pos:String}{after:Array Edge}{t:TypeId}{p:D}(hx:fr.ev x=.d (.iface t p))(hm:p.mem0=true)(h:∀ch,qXM (.iface t p) ch->Q (.panic ch) ⟨fr,hp⟩):gk C ops (⟨d,.panic x,ty,pos,after,none⟩::l) ⟨fr,hp⟩ Q:=λg a w hs=>by have hv:=hs.ev x;rw[show(⟨fr,hp⟩:St).fr.ev x=fr.ev x from rfl,hx]at hv;unfold wpList;rw[if_pos Iq];left;generalize he:a.eval x=v at hv;cases hv with|d _ _ hv=>cases hv with|iface _ _ v' hv=>have hr:(execOp a.eval ⟨d,.panic x,ty,pos,after,none⟩).run C.P w=.halt (.panic (.iface t v')) w:=(by simp[execOp,he,Instr.panic]);simp only[Oper.wp,hr,Oper.upon];exact⟨_,g,h _ ⟨_,rfl,λw' X'=>.iface _ _ _ (hv.all hm)⟩,hs⟩
theorem Gf(h:gk C ops ops.toList st (post C ks Q)):TWp C (.region id ops false) st (post C ks Q):=qIF h
theorem x_seqP{y:Code}(h:gk C ops ops.toList st (post C (.s y::ks) Q)):TWp C (.seq (.region id ops false) y) st (post C ks Q):=TQ (qIF h)
theorem Mm(n:Nat)(h1:l.take n=l1)(h2:l.drop n=l2)(h:cP C ops l1 st (pn C [] λ_ st'=>gk C ops l2 st' Q)):gk C ops l st Q:=by subst h1 h2;exact x_cutX n h
theorem qRJ(h:cP C ops l st (pn C ks Q)):gk C ops l st (post C ks Q):=x_rest h
theorem N0{K:St->Prop}(h:K st):post C [] (λ_ st'=>K st') .normal st:=h
theorem qQ{ch:List PanicEntry}:∀(ks:List Kt){Q:Exit->St->Prop},Q (.panic ch) st->post C ks Q (.panic ch) st
  |[],_,h=>h
  |.s y::ks,_,h=>qQ ks h
  |.b i::ks,_,h=>qQ ks h
theorem xY{next:St->Prop}{ch:List PanicEntry}(h:Q (.panic ch) st):yV next Q (.panic ch) st:=h
end
variable {C:Ctx}{st:St}{P:Program}{α β:Type}
def XRes(f:α->D)(r:β->AV)(res:α ⊕ β)(e:Ending)(g':Gh)(w':World):Prop:=match res with
  |.inl p=>∃ch,e=.panicked ch/\qXM (f p) ch
  |.inr d=>∃v,e=.returned v/\ARep w' g' (r d) v
def qXK(P:Program)(F:FuncId)(ds:List D)(f:α->D)(r:β->AV)(res:α ⊕ β):Prop:=tR P F=true/\∀(w:World)(g:Gh)(vs:Array Value),Out ⟨P,0,w,0,g,λ_=>false⟩ [] g w->Pw (ARep w g) (ds.map .d) vs.toList->Calls P F vs w λe w'=>∃g',Out ⟨P,0,w,0,g,λ_=>false⟩ [] g' w'/\XRes f r res e g' w'
def Y5(P:Program)(rs:List ResultVar)(f:α->D)(E:β->St->Prop)(res:α ⊕ β):Exit->St->Prop
  |.normal,st|.ret,st=>match res with|.inr d=>E d st|.inl _=>False
  |.panic ch,_=>match res with|.inl p=>qXM (f p) ch|.inr _=>False
  |_,_=>False
theorem finS{w0:World}{g0:Gh}{d:D}{g:Gh}{a:Act}{w:World}(hrs:fn.results.toList=rs)(hs:Sim ⟨P,n,w0,0,g0,mv⟩ st g a w)(h0:g0.df=[])(h:EndsS P rs d st):∃v,(results fn a.tmps).run P w=.ok v w/\∃g',Out ⟨P,0,w0,0,g0,mv⟩ [] g' w/\ARep w g' (.d d) v:=by subst hrs;obtain⟨x,d0,hx,hsn,hd⟩:=h;obtain⟨v,hv,hrep⟩:=yD (P:=P) hs hx;obtain⟨g2,h1,h2⟩:=hs.endS h0;have h3:=h2 _ _ _ hrep hsn;exact⟨v,hv,g2,h1,by cases h3 with|d _ _ q=>exact .d _ _ (hd _ _ _ q)⟩
theorem finT{w0:World}{g0:Gh}{g:Gh}{a:Act}{w:World}(hrs:fn.results.toList=rs)(hs:Sim ⟨P,n,w0,0,g0,mv⟩ st g a w)(h0:g0.df=[])(h:EndsT P rs ds st):∃v,(results fn a.tmps).run P w=.ok v w/\∃g',Out ⟨P,0,w0,0,g0,mv⟩ [] g' w/\ARep w g' (.tup (ds.map .d)) v:=by subst hrs;obtain⟨xs,hx,hsn⟩:=h;obtain⟨v,hv,hrep⟩:=yD (P:=P) hs hx;obtain⟨g2,h1,h2⟩:=hs.endS h0;refine⟨v,hv,g2,h1,?_⟩;have hkey:=hsn.key;have key:xs.length=ds.length/\∀(i:Nat)(x:AV)(d:D)(u:Value),xs[i]?=some x->ds[i]?=some d->ARep w g x u->ARep w g2 (.d d) u:=(by refine⟨hkey.1,λi x d u hx hd hu=>?_⟩;obtain⟨d0,q1,q2⟩:=hkey.2 i x d hx hd;have:=h2 _ _ _ hu q1;cases this with|d _ _ q=>exact .d _ _ (q2 _ _ _ q));cases hrep with|tup _ us hl hr=>refine .tup _ us (by rw[yt,<- key.1];exact hl) λi c u hci hu=>?_;simp only[vV,Wd]at hci;obtain⟨d,hd,rfl⟩:=hci;have hi:i<xs.length:=(by rw[key.1];exact(gJ hd));exact key.2 i xs[i] d u xI hd (hr i xs[i] u xI hu)
theorem Out.begin{hp:List Blk}{w:World}{g:Gh}{vs:Array Value}(hout:Out ⟨P,0,w,hp.length,g,mv⟩ hp g w)(hargs:Pw (ARep w g) args vs.toList)(hn:args.length<=fn.ntmps):Sim ⟨P,fn.ntmps,w,hp.length,g,mv⟩ ⟨zZ args,hp⟩ g { tmps:=vs++Array.replicate (fn.ntmps-vs.size) undef,defers:=[] } w:=by have hlen:vs.size=args.length:=(by have:=hargs.1;simpa using this.symm);refine Out.sim (C:=⟨P,fn.ntmps,w,hp.length,g,mv⟩) hout hout.defers ?_ λt=>?_;simp only[Im,qDN];omega;unfold zZ;rw[zo,if_pos (iF _),F8];by_cases ht:t<args.length;have h1:args[t]?=some args[t]:=iG ht;have h2:vs.toList[t]?=some (vs.toList[t]' D8):=iG _;have h3:=hargs.2 t _ _ h1 h2;rw[h1];have h4:(vs++Array.replicate (fn.ntmps-vs.size) undef).getD t undef=vs.toList[t]' D8:=(by rw[Jp,Jo,iL];simp[show t<vs.size by omega]);rw[h4];exact h3;rw[zLn];exact .junk _
theorem Xc{f:α->D}{r:β->AV}{E:β->St->Prop}{res:α ⊕ β}(hcb:tR P F=true)(hf:P.funcs[F]?=some fn)(hb:fn.body=some c)(hrs:fn.results.toList=rs)(hle:(ds.map AV.d).length<=fn.ntmps)(fin:∀d st w g g' a' w',Sim ⟨P,fn.ntmps,w,0,g,λ_=>false⟩ st g' a' w'->g.df=[]->E d st->∃v,(results fn a'.tmps).run P w'=.ok v w'/\∃g2,Out ⟨P,0,w,0,g,λ_=>false⟩ [] g2 w'/\ARep w' g2 (r d) v)(h:∀w g,TWp ⟨P,fn.ntmps,w,0,g,λ_=>false⟩ c ⟨zZ (ds.map .d),[]⟩ (Y5 P rs f E res)):qXK P F ds f r res:=by refine⟨hcb,?_⟩;intro w g vs hout hargs;have hsim:=Out.begin (fn:=fn) (hp:=[]) hout hargs hle;refine calls_of_wp hf hb (Go.wp_mono (h w g g _ w hsim) ?_);intro e a' w' hq;obtain⟨st',g',hQ,hs'⟩:=hq;have hd:=hs'.defers.trans hout.defers.symm;have fin':Y5 P rs f E res .ret st'->a'.defers=[]/\∃v,(results fn a'.tmps).run P w'=.ok v w'/\∃g',Out ⟨P,0,w,0,g,λ_=>false⟩ [] g' w'/\XRes f r res (.returned v) g' w':=(by intro hQ;cases res with|inl p=>exact hQ.elim|inr d=>obtain⟨v,hv,g2,h1,h2⟩:=fin d _ _ _ _ _ _ hs' hout.defers.symm hQ;exact⟨hd,v,hv,g2,h1,v,rfl,h2⟩);cases e with|normal=>exact fin' hQ|ret=>exact fin' hQ|panic ch =>(cases res with|inl p=>have ho:=hs'.canon [] [] List.nodup_nil (λi hi=>absurd hi (xJ i));exact⟨hd,g'.canon [],ho.out hout.defers.symm,ch,rfl,hQ⟩|inr d=>exact hQ.elim)|_=>exact hQ.elim
theorem qVB{f:α->D}{r:β->D}{res:α ⊕ β}(hcb:tR P F=true)(hf:P.funcs[F]?=some fn)(hb:fn.body=some c)(hn:fn.ntmps=n)(hrs:fn.results.toList=rs)(hle:Nat.ble (ds.map AV.d).length n=true)(h:∀w g,TWp ⟨P,n,w,0,g,λ_=>false⟩ c ⟨zZ (ds.map .d),[]⟩ (Y5 P rs f (λd=>EndsS P rs (r d)) res)):qXK P F ds f (λd=>.d (r d)) res:=by subst hn;exact Xc hcb hf hb hrs (iP hle) (λd st w g g' a' w' hs h0 hE=>finS hrs hs h0 hE) h
theorem qOR{f:α->D}{r:β->List D}{res:α ⊕ β}(hcb:tR P F=true)(hf:P.funcs[F]?=some fn)(hb:fn.body=some c)(hn:fn.ntmps=n)(hrs:fn.results.toList=rs)(hle:Nat.ble (ds.map AV.d).length n=true)(h:∀w g,TWp ⟨P,n,w,0,g,λ_=>false⟩ c ⟨zZ (ds.map .d),[]⟩ (Y5 P rs f (λd=>EndsT P rs (r d)) res)):qXK P F ds f (λd=>.tup ((r d).map .d)) res:=by subst hn;exact Xc hcb hf hb hrs (iP hle) (λd st w g g' a' w' hs h0 hE=>finT hrs hs h0 hE) h
theorem qRL{fr:Fr}{hp:List Blk}{d:Nat}{fo:Operand}{xs:Array Operand}{ts:Array TypeId}{f:α->D}{r:β->AV}{res:α ⊕ β}(hd:decide (d<C.n)=true)(hf:fr.ev fo=.d (.fn F))(hx:xs.toList.map fr.ev=ds.map .d)(hret:qXK C.P F ds f r res)(hm:∀b,(r b).mapRef (shift hp.length)=r b)(h1:∀p ch,res=.inl p->qXM (f p) ch->Q (.panic ch) ⟨fr,hp⟩)(h2:∀b,res=.inr b->gk C ops l ⟨(d,r b)::fr,hp⟩ Q):gk C ops (⟨some d,.call { callee:=.value fo,args:=xs,argTypes:=ts },ty,pos,after,none⟩::l) ⟨fr,hp⟩ Q:=by intro g a w hs;have hfv:=hs.ev fo;rw[show(⟨fr,hp⟩:St).fr.ev fo=fr.ev fo from rfl,hf]at hfv;have hargs:Pw (ARep w (hU g.X)) (ds.map .d) (xs.map a.eval).toList:=(by refine⟨by have:=congrArg List.length hx;simpa using this.symm,λi x v hxi hv=>?_⟩;simp only[fb,vV,Wd]at hv;obtain⟨y,hy,rfl⟩:=hv;have h1:(xs.toList.map fr.ev)[i]?=some (fr.ev y):=ya;rw[hx,hxi]at h1;cases h1;have h2:=hs.ev y;simp only[vV,Wd]at hxi;obtain⟨d,_,hd⟩:=hxi;rw[show(⟨fr,hp⟩:St).fr.ev y=fr.ev y from rfl,<- hd]at h2;rw[<- hd];cases h2 with|d _ _ h=>exact .d _ _ h);unfold wpList;rw[if_pos Iq];left;simp only[Oper.wp,kO (o:=⟨some d,.call { callee:=.value fo,args:=xs,argTypes:=ts },ty,pos,after,none⟩) rfl (Nr hfv) hret.1,Oper.upon_enter,qAM];refine(hret.2 w (hU g.X) _ (qKE hs _ hs.Xlt) hargs).mono ?_;rintro e w' ⟨g',hout,hr⟩;have hX:∀b,g'.X b->b<w.heap.size->g.X b:=λb hb hlt=>hout.Xold b hb hlt;have hs1:=hs.after hout hX;simp only[uH,kU]at hs1;cases res with|inl p=>obtain⟨ch,rfl,hp'⟩:=hr;exact⟨_,_,h1 p ch rfl hp',hs1⟩|inr b=>obtain⟨v,rfl,hv⟩:=hr;refine h2 b rfl _ _ _ (hs1.put' (d:=some d) (show vC C.n (some d)=true from hd) ?_);have:=hv.shift (n:=hp.length) hX;rw[hm]at this;exact this
variable {C:Ctx}
theorem qPC(a:Act)(d:Option Tmp)(v:Value):(a.put d v).defers=a.defers:=by cases d<;>rfl
theorem DOk.ofOk{o:Oper}{ev:Operand->AV}{hpn:List Blk}{ws:List (Nat×Blk)}(hd:o.dst=none)(h:∀st:St,HpLe hpn st.hp->(∀y∈o.op.operands,st.fr.ev y=ev y)->OpOk C o st λst'=>st'=⟨st.fr,wr ws st.hp⟩):DOk C o ev hpn .junk ws:=by intro st h1 _ _ h2 g a w hs Q K' hK;have hh:=h st h1 h2 g a w (λ_ _ _=>False) hs;have fin:∀v w',Sat C (λst'=>st'=⟨st.fr,wr ws st.hp⟩) (a.put o.dst v) w'->K' (a.put o.dst v) w':=(by rintro v w' ⟨st',g',rfl,hs'⟩;refine hK v w' g' ?_ (.junk _);rw[hd]at hs';exact hs');unfold Oper.wp at *;generalize (execOp a.eval o).run C.P w=r at *;cases r with|ok n w' =>(cases n with|value v=>exact fin _ _ hh|skip=>exact fin _ _ hh|defer d=>obtain⟨st',g',_,hs'⟩:=hh;have:=hs'.defers;rw[qPC,<- hs.defers]at this;exact absurd (congrArg List.length this) aN|enter f args =>(refine Calls.mono hh ?_;intro e w'' he;cases e with|returned v=>exact fin _ _ he|panicked ch=>exact he.elim|outgrown=>obtain⟨_,_,q⟩:=he;exact q.elim)|row s args=>refine Rows.mono hh ?_;intro v w'' he;exact fin _ _ he|_=>exact hh.elim)|halt x w'=>cases x<;>exact hh.elim
theorem w_putG{α β:Type}[DecidableEq α]{dk:TypeDesc}{kf:α->D}{ok:α->Bool}{ks:List TypeDesc}{o:Oper}{ev:Operand->AV}{hp:List Blk}{x y u:Operand}{t kt et kt' et':TypeId}(S:SKey C.P kt ks)(hk:KeyG ks kf ok)(f:β->D){fs:List (α×β)}{s:α}{b:β}(ho:o.op=.mapUpdate t x y u)(hd:o.dst=none)(hl:Vh C.P t=some (kt,dk,et))(hx:ev x=.mmap id)(hb:hp[id]?=some (.map kt' et' (cC kf f fs)))(hy:ev y=.d (kf s))(hu:ev u=.d (f b))(hg:vj ok fs s):DOk C o ev hp .junk [(id,.map kt' et' (cC kf f (tK fs s b)))]:=by obtain⟨dst,op,ty,pos,after,gd⟩:=o;simp only at ho hd;subst ho hd;refine DOk.ofOk rfl λst hhp hag=>?_;have hx':=(hag x qDZ).trans hx;have hy':=(hag y qDZ).trans hy;have hu':=(hag u qDZ).trans hu;have hb':=hhp id _ hb (λe=>by cases e);cases e:fs.findIdx? λx=>decide (x.1=s)with|none=>have hn:cZ fs s=none:=(by unfold cZ;rw[Be,L9];rw[Ik]at e;intro x hx;simpa using e x hx);refine Oi S rfl rfl hl hx' hb' hy' hu' (hk.key _ hg.2.2) (kz hk f hg.2.1) (Xo hk f (yK hn)) ?_;have e2:cC kf f (fs++[(s,b)])=cC kf f fs++[(kf s,f b)]:=Q3;rw[<- e2];simp only[tK,e];rfl|some j=>have e':=e;rw[D2]at e;obtain⟨hlt,hj,_⟩:=e;have hj':fs[j]?=some (s,fs[j].2):=(by rw[iG hlt,<- of_decide_eq_true hj]);refine Xq (j:=j) (v0:=f fs[j].2) S rfl rfl hl hx' hb' hy' hu' (kz hk f hg.2.1) (E5 hk f hg.1) qEA ?_;simp only[tK,e'];simp[cC,List.map_set,wr]
theorem retN_row{P:Program}{sz:Nat}{α:Type}{f:α->D}{xs:List α}(h:Ret P F [] mv (ds.map .d) (.msl 0 sz 0 xs.length) [.flat e sz (xs.map f)])(hm:∀x,(f x).mem0=true):RetN P F ds (.sl sz (xs.map f)):=⟨mv,_,_,h,cH rfl,.msl _ _ _ _,λB hB=>by simp only[zQB,eE,or_false]at hB;subst hB;exact yJ hm⟩
variable {C:Ctx}{st:St}{P:Program}{g:Gh}{a:Act}{w:World}
def Act.mark(df:List Deferred)(a:Act):Act:={ a with defers:=df }
def qLW(C:Ctx)(ids:List Nat)(k:Nat)(df:List Deferred)(g:Gh)(w:World):Ctx:=⟨C.P,C.n,w,k,{ g with df:=df },λi=>!(ids.contains i)⟩
theorem Sim.held(hs:Sim C st g a w)(ids:List Nat)(df:List Deferred):Sim (qLW C ids st.hp.length df g w) st g (Act.mark df a) w:={ hs with defers:=rfl,Xold:=λ_ h _=>h,os:=rfl,tape:=rfl,output:=rfl,drawn:=oA _,grown:=oA _,keep:=λ_ _ _=>rfl,own:=λi b hp _=>⟨(hs.lt i b hp).2.1,hp⟩,stay:=λ_ _ _ _ hp=>⟨rfl,hp⟩,kle:=oA _,laid:=hs.laidW }
theorem Sim.unheld{st':St}{g':Gh}{a':Act}{w':World}{df:List Deferred}(hs:Sim C st g a w)(h0:C.g0.df=[])(hk:C.k=0)(h:Sim (qLW C ids st.hp.length df g w) st' g' a' w'):Sim C st' g' (Act.mark [] a') w':=
  { h with
    defers:=h0.symm
    Xold:=λb hb hlt=>hs.Xold b (h.Xold b hb (Bl hlt hs.grown)) hlt
    os:=h.os.trans hs.os,tape:=h.tape.trans hs.tape,output:=h.output.trans hs.output,drawn:=eR hs.drawn h.drawn,grown:=eR hs.grown h.grown
    keep:=λb hb hk'=>(h.keep b (Bl hb hs.grown) λi _ hp=>hk' i (hs.own i b hp hb).1 (hs.own i b hp hb).2).trans (hs.keep b hb hk')
    own:=λi b hp hb=>hs.own i b (h.own i b hp (Bl hb hs.grown)).2 hb
    stay:=λi b hi=>absurd hi (by rw[hk];exact xJ i)
    kle:=by rw[hk];exact iF _
    laid:=hs.laid }
def Qe(ids:List Nat):List AV:=ids.map λi=>.mptr i 0 0 0
def DefC(P:Program)(G:FuncId)(hh:List Blk)(m:FrameMode)(hh':List Blk):Prop:=tR P G=true/\∀(w:World)(g:Gh)(vs:Array Value),Out ⟨P,0,w,hh.length,g,λ_=>false⟩ hh g w->Pw (ARep w g) (Qe (List.range hh.length)) vs.toList->CallsD P G vs m w λe u w'=>settle u=.returning/\∃v g',e=.returned v/\Out ⟨P,0,w,hh.length,g,λ_=>false⟩ hh' g' w'
def modeOf:Exit->Option FrameMode
  |.normal|.ret=>some .returning
  |.panic ch=>some (.panicking ch)
  |_=>none
def qHW(P:Program)(E:St->Prop)(ids:List Nat)(G:FuncId):Exit->St->Prop:=λe st=>∃m hh',modeOf e=some m/\ids.Nodup/\(∀j∈ids,dV st.hp j=true)/\DefC P G (vQ ids st.hp) m hh'/\E ⟨Fr.mapRef (lI (yj ids λ_=>false)) st.fr,wJ ids (st.hp.map (Blk.mapRef (lI (yj ids λ_=>false)))) hh'⟩
def QF(C:Ctx)(E:St->Prop):Exit->Act->World->Prop:=λe a w=>(∃st g,(e=.normal\/e=.ret)/\E st/\Sim C st g a w)\/∃st g ids G vs,a.defers=[{ target:=.fn (.func G) vs,args:=#[] }]/\Pw (ARep w g) (Qe ids) vs.toList/\qHW C.P E ids G e st/\Sim C st g (Act.mark [] a) w
def qQY(C:Ctx)(c:Code)(st:St)(E:St->Prop):Prop:=∀g a w,C.g0.df=[]->C.k=0->Sim C st g a w->c.wp C.P (QF C E) a w
def QR(E:St->Prop):Exit->St->Prop:=λe st=>(e=.normal\/e=.ret)/\E st
section
variable {E:St->Prop}
theorem f_seq{x y:Code}(h:TWp C x st (yV (λst'=>qQY C y st' E) (QR E))):qQY C (.seq x y) st E:=λg a w h0 hk hs=>by refine wp_seq (Go.wp_mono (h g a w hs) ?_);rintro e a' w' ⟨st',g',hQ,hs'⟩;cases e with|normal=>exact hQ g' a' w' h0 hk hs'|_=>exact .inl ⟨st',g',hQ.1,hQ.2,hs'⟩
variable {ops:Array Oper}
theorem f_rseq{id:Nat}{y:Code}(h:cP C ops ops.toList st (pn C [] λ_ st'=>qQY C y st' E)):qQY C (.seq (.region id ops false) y) st E:=f_seq (TG h)
def DefK(C:Ctx)(y:Code)(E:St->Prop)(dt:Nat)(st:St):Prop:=∃ids G,st.fr.get dt=.fnc G (Qe ids)/\∀g w df,TWp (qLW C ids st.hp.length df g w) y st (qHW C.P E ids G)
theorem f_defer{id:Nat}{y:Code}(n dt:Nat){l1:List Oper}{ts:Array TypeId}{ty:TypeId}{pos:String}{after:Array Edge}(h1:ops.toList.take n=l1)(h2:ops.toList.drop n=[⟨none,.defer { callee:=.value (.tmp dt),args:=#[],argTypes:=ts },ty,pos,after,none⟩])(h:cP C ops l1 st (pn C [] λ_ st'=>DefK C y E dt st')):qQY C (.seq (.region id ops false) y) st E:=by intro g a w h0 hk hs;refine wp_seq (wp_region_list ?_);rw[<- List.take_append_drop n ops.toList,h1,h2];refine xL (Q:=QN C (DefK C y E dt)) (λe a' w' he h=>by cases e with|normal=>exact absurd rfl he|_=>exact h.elim) (λa' w' hsat=>?_) l1 a w (h g a w hs);obtain⟨st',g',⟨ids,G,hfr,hgo⟩,hs'⟩:=hsat;have hv:=hs'.fr dt;rw[hfr]at hv;have hd0:=hs'.defers.trans h0;unfold wpList;rw[if_pos Iq];left;generalize hev:a'.tmps.getD dt undef=v at hv;cases hv with|fnc _ _ vs hl hcs=>have hr:(execOp a'.eval ⟨none,.defer { callee:=.value (.tmp dt),args:=#[],argTypes:=ts },ty,pos,after,none⟩).run C.P w'=.ok (.defer { target:=.fn (.func G) vs,args:=#[] }) w':=(by simp[execOp,resolve,Act.eval,hev,Deferred.ofValue]);simp only[Oper.wp,hr,Oper.upon_defer,Act.put,wpList,Exit.then];have hs1:=hs'.held ids [{ target:=.fn (.func G) vs,args:=#[] }];have e1:Act.mark [{ target:=.fn (.func G) vs,args:=#[] }] a'={ a' with defers:={ target:=.fn (.func G) vs,args:=#[] }::a'.defers }:=(by rw[hd0];rfl);rw[e1]at hs1;refine Go.wp_mono (hgo g' w' _ _ _ _ hs1) ?_;rintro e a₂ w₂ ⟨st₂,g₂,hQ,hs₂⟩;refine .inr ⟨st₂,g₂,ids,G,vs,hs₂.defers,⟨by simpa[Qe]using hl,λi x v hx hv=>?_⟩,hQ,hs'.unheld h0 hk hs₂⟩;have hx':=hx;simp only[Qe,vV,Wd]at hx';obtain⟨j,hj,rfl⟩:=hx';have h3:=hcs i _ v hx tZ;cases h3 with|mptr _ _ _ _ b hb=>have hlt:=(hs'.lt j b hb).2.1;exact .mptr _ _ _ _ b (hs₂.stay j b hlt (by simp[qLW,kK hj]) hb).2
theorem f_go{y:Code}{dt:Nat}{fr:Fr}{hp:List Blk}(ids:List Nat){G:FuncId}(h:fr.get dt=.fnc G (Qe ids))(hgo:∀g w df,TWp (qLW C ids hp.length df g w) y ⟨fr,hp⟩ (qHW C.P E ids G)):DefK C y E dt ⟨fr,hp⟩:=⟨ids,G,h,hgo⟩
end
theorem qJF(hc:tR P G=true)(vs args:Array Value):(invoke (.fn (.func G) vs) args).run P w=.ok (.enter G (args++vs)) w:=by simp only[invoke];exact Lo hc _ _
theorem qOT{r:AV}(hcb:tR P F=true)(hf:P.funcs[F]?=some fn)(hb:fn.body=some c)(hle:args.length<=fn.ntmps)(fin:∀st w g g' a' w',Sim ⟨P,fn.ntmps,w,0,g,λ_=>false⟩ st g' a' w'->g.df=[]->E st->∃v,(results fn a'.tmps).run P w'=.ok v w'/\∃g2,Out ⟨P,0,w,0,g,λ_=>false⟩ [] g2 w'/\ARep w' g2 r v)(h:∀w g,qQY ⟨P,fn.ntmps,w,0,g,λ_=>false⟩ c ⟨zZ args,[]⟩ E):Ret P F [] (λ_=>false) args r []:=by refine⟨hcb,?_⟩;intro w g vs hout hargs;have hsim:=Out.begin (fn:=fn) (hp:=[]) hout hargs hle;refine calls_of_wp_defers hf hb (Go.wp_mono (h w g g _ w hout.defers.symm rfl hsim) ?_);intro e a' w' hq;have done:∀(st':St)(g':Gh)(a₁:Act)(w₁:World),Sim ⟨P,fn.ntmps,w,0,g,λ_=>false⟩ st' g' a₁ w₁->E st'->Leaves P fn a₁.tmps (λe w'=>∃v g',e=.returned v/\Out ⟨P,0,w,0,g,λ_=>false⟩ [] g' w'/\ARep w' g' r v) [] .returning w₁:=(by intro st' g' a₁ w₁ hs' hE;obtain⟨v,hv,g2,h1,h2⟩:=fin _ _ _ _ _ _ hs' hout.defers.symm hE;exact⟨v,hv,v,g2,rfl,h1,h2⟩);rcases hq with⟨st',g',he,hE,hs'⟩|⟨st',g',ids,G,vs₁,hd,hvs,⟨m,hh',hm,hnd,hal,hdef,hE⟩,hs'⟩;(· have hdf:=hs'.defers.trans hout.defers.symm;rcases he with rfl|rfl;(· simp only[bodyPostD,hdf];exact done _ _ _ _ hs' hE);· simp only[bodyPostD,hdf];exact done _ _ _ _ hs' hE);· have hargs':Pw (ARep w' (g'.canon ids)) (Qe (List.range (vQ ids st'.hp).length)) vs₁.toList:=(by have hlen:(vQ ids st'.hp).length=ids.length:=(by simp[vQ]);rw[hlen];refine⟨by have:=hvs.1;simpa[Qe]using this,λi x v hx hv=>?_⟩;simp only[Qe,vV,Wd]at hx;obtain⟨j,hj,rfl⟩:=hx;obtain⟨hjl,hji⟩:=zQQ.1 hj;simp only[xx]at hjl;simp only[List.getElem_range]at hji;subst hji;have h3:=hvs.2 i (.mptr ids[i] 0 0 0) v (by simp[Qe,hjl]) hv;cases h3 with|mptr _ _ _ _ b hb=>exact .mptr _ _ _ _ b (by simp[Gh.canon,hjl,hb]));have go:∀m',m=m'->m'≠.run->Leaves P fn a'.tmps (λe w'=>∃v g',e=.returned v/\Out ⟨P,0,w,0,g,λ_=>false⟩ [] g' w'/\ARep w' g' r v) [{ target:=.fn (.func G) vs₁,args:=#[] }] m' w':=(by rintro m' rfl hne;refine leaves_cons hne (qJF hdef.1 _ _) ?_;have hc:=hdef.2 w' (g'.canon ids) vs₁ (hs'.handedM hnd _) hargs';simp only[Array.empty_append];refine hc.mono ?_;rintro e u w₂ ⟨hset,v,g₂,rfl,hout₂⟩;show Leaves P fn a'.tmps _ [] (settle u) w₂;rw[hset];exact done _ _ (Act.mark [] a') _ (hs'.backM _ hnd hal (λj hj=>absurd hj (xJ j)) hout₂) hE);cases e with|normal=>simp only[bodyPostD,hd];exact go _ (bO hm).symm (λe=>by cases e)|ret=>simp only[bodyPostD,hd];exact go _ (bO hm).symm (λe=>by cases e)|panic ch=>simp only[bodyPostD,hd];exact go _ (bO hm).symm (λe=>by cases e)|_=>cases hm
theorem qOS(hcb:tR P F=true)(hf:P.funcs[F]?=some fn)(hb:fn.body=some c)(hn:fn.ntmps=n)(hrs:fn.results.toList=rs)(hle:Nat.ble args.length n=true)(h:∀w g,qQY ⟨P,n,w,0,g,λ_=>false⟩ c ⟨zZ args,[]⟩ (EndsT P rs ds)):Ret P F [] (λ_=>false) args (.tup (ds.map .d)) []:=by subst hn;exact qOT hcb hf hb (iP hle) (λst w g g' a' w' hs h0 hE=>finT hrs hs h0 hE) h
theorem q_end{e:Exit}{m:FrameMode}{fr fr':Fr}{hp hp' hh':List Blk}(hm:modeOf e=some m)(hnd:jF ids=true)(hal:(ids.all λj=>dV hp j)=true)(hdef:DefC P G (vQ ids hp) m hh')(hfr:Fr.mapRef (lI (yj ids λ_=>false)) fr=fr')(hhp:wJ ids (hp.map (Blk.mapRef (lI (yj ids λ_=>false)))) hh'=hp')(h:E ⟨fr',hp'⟩):qHW P E ids G e ⟨fr,hp⟩:=by subst hfr hhp;exact⟨m,hh',hm,kJ hnd,λj hj=>zQT.1 hal j hj,hdef,h⟩
def RecM(m:FrameMode)(p:D):Prop:=(m=.returning/\p=.nilif)\/∃ch,m=.panicking ch/\qXM p ch
theorem Oe{ops : Array Oper}{cs : List Frame}{Q : Exit -> Act -> List Frame -> World -> Prop}(hq : ∀ a w, ¬ Q .outgrown a cs w) : ∀ (l : List Nat) (a : Act) (w : World), wpOps P ops (fun e a w => Q e a cs w) l a w -> wpOpsS P ops Q l a cs w
  |[],a,w,h=>h
  |i::l,a,w,h=>by
    have ih:=Oe (ops:=ops) hq l;simp only[wpOps]at h;simp only[wpOpsS]
    cases ho:ops[i]? with
    |none=>rw[ho]at h;exact ih a w h
    |some o=>
      rw[ho]at h;simp only at h⊢;by_cases hw:Region.wanted o (yielded ops a.tmps)=true;rw[if_pos hw]at h⊢;rcases h with h|⟨_,_,_,hl⟩
      unfold Oper.wp at h;generalize (execOp a.eval o).run P w=r at h⊢
      cases r with
      |ok x w'=>
        cases x with
        |value v=>exact ih _ _ h
        |skip=>exact ih _ _ h
        |defer d=>exact ih _ _ h
        |enter f args=>
          refine Calls.mono h ?_;intro e w'' he
          cases e with
          |returned v=>exact ih _ _ he
          |panicked ch=>exact he
          |outgrown=>obtain⟨_,_,hl⟩:=he;exact absurd hl (hq _ _)
        |row s args=>
          refine Rows.mono h ?_;intro v w'' he;exact ih _ _ he
        |_=>exact h.elim
      |halt x w'=>cases x<;>exact h
      exact absurd hl (hq _ _);have hw : Region.wanted o (yielded ops a.tmps) = false := by simpa using hw
      simp only[hw,kV,if_false]at h⊢;exact ih _ _ h
theorem qMF{y:Code}{hh hh':List Blk}{d:Nat}{m:FrameMode}{p:D}(hcb:tR P G=true)(hf:P.funcs[G]?=some fn)(hb:fn.body=some (.seq (.region id ops false) y))(hops:ops.toList=⟨some d,.call { callee:=.builtin .recover,args:=#[],argTypes:=#[] },ty,pos,after,none⟩::l)(hn:fn.ntmps=n)(hrs:fn.results.toList=[])(hle:Nat.ble hh.length n=true)(hd:decide (d<n)=true)(hm:RecM m p)(h:∀w g,cP ⟨P,n,w,hh.length,g,λ_=>false⟩ ops l ⟨(d,.d p)::zZ (Qe (List.range hh.length)),hh⟩ (pn ⟨P,n,w,hh.length,g,λ_=>false⟩ [.s y] (qTQ P hh.length [] (.tup []) hh'))):DefC P G hh m hh':=by subst hn;refine⟨hcb,λw g vs hout hargs=>?_⟩;have hsim:=Out.begin (fn:=fn) hout hargs (by simpa[Qe]using iP hle);refine callsD_of_wpS hf hb λc₀ cs hc=>wpS_seq (wpS_region ?_);have hsz:ops.size=l.length+1:=(by rw[<- Array.length_toList,hops];rfl);have h0:ops[0]?=some ⟨some d,.call { callee:=.builtin .recover,args:=#[],argTypes:=#[] },ty,pos,after,none⟩:=(by rw[<- Array.getElem?_toList,hops];rfl);have hrest:∀j,l[j]?=ops[1+j]?:=λj=>(by rw[<- Array.getElem?_toList,hops,Nat.add_comm];rfl);rw[hsz,List.range_eq_range',List.range'_succ];simp only[wpOpsS,h0];rw[if_pos Iq];generalize ha0:({ tmps:=vs++Array.replicate (fn.ntmps-vs.size) undef,defers:=[] }:Act)=a0 at hsim⊢;have hrun:(execOp a0.eval ⟨some d,.call { callee:=.builtin .recover,args:=#[],argTypes:=#[] },ty,pos,after,none⟩).run P w=.ok .recover w:=(by simp[execOp,resolve,invoke];rfl);simp only[hrun];have key:∀(v:Value)(cs':List Frame)(u:FrameMode),cs'={ c₀ with mode:=u }::cs->settle u=.returning->(∀w X,DRep w X p v)->wpOpsS P ops (Exit.thenS (y.wpS P (bodyPostS P fn c₀ cs λe u w'=>settle u=.returning/\∃v g',e=.returned v/\Out ⟨P,0,w,hh.length,g,λ_=>false⟩ hh' g' w')) (bodyPostS P fn c₀ cs λe u w'=>settle u=.returning/\∃v g',e=.returned v/\Out ⟨P,0,w,hh.length,g,λ_=>false⟩ hh' g' w')) (List.range' 1 l.length) (a0.put (some d) v) cs' w:=(by intro v cs' u hcs hu hv;refine Oe ?_ _ _ _ ?_;rintro a w' ⟨u',_,v',g',he,_⟩;cases he;rw[wpOps_eq_wpList l 1 hrest];have hs1:=hsim.put' (d:=some d) (v:=v) (x:=.d p) (show vC fn.ntmps (some d)=true from hd) (.d _ _ (hv _ _));refine xL (l2:=[]) (Q:=QN ⟨P,fn.ntmps,w,hh.length,g,λ_=>false⟩ (pn ⟨P,fn.ntmps,w,hh.length,g,λ_=>false⟩ [.s y] (qTQ P hh.length [] (.tup []) hh'))) (λe a' w' he h=>by cases e with|normal=>exact absurd rfl he|_=>exact h.elim) ?_ l _ w (h w g _ _ _ hs1) |> λh=>(by rwa [kU]at h);rintro a' w' ⟨st',g',hk,hs'⟩;refine wpS_of_wp (Go.wp_mono (hk g' a' w' hs') ?_);rintro e a₂ w₂ ⟨st₂,g₂,hQ,hs₂⟩;have fin:Ends P hh.length [] (.tup []) hh' st₂->a₂.defers=[]/\∃u',cs'={ c₀ with mode:=u' }::cs/\∃v,(results fn a₂.tmps).run P w₂=.ok v w₂/\settle u'=.returning/\∃v' g',Ending.returned v=.returned v'/\Out ⟨P,0,w,hh.length,g,λ_=>false⟩ hh' g' w₂:=(by rintro⟨x,ids,hx,hnd,hk,hr,hhp⟩;rw[<- hrs]at hx;obtain⟨v,hv,_⟩:=yD (P:=P) hs₂ hx;have ho:=(hs₂.canon [] ids hnd hk).out hout.defers.symm;simp only[St.canon]at ho;rw[hhp]at ho;exact⟨hs₂.defers.trans hout.defers.symm,u,hcs,v,hv,hu,v,_,rfl,ho⟩);cases e with|normal=>exact fin hQ|ret=>exact fin hQ|_=>exact hQ.elim);rcases hm with⟨rfl,rfl⟩|⟨ch,rfl,v,rfl,hv⟩;have hr:recoverD (c₀::cs)=none:=(by simp[recoverD,hc]);rw[hr];exact key .nilIface (c₀::cs) .returning (by rw[<- hc]) rfl λ_ _=>.nilif;have hr:recoverD (c₀::cs)=some (v,{ c₀ with mode:=.panicking [{ v:=v,recovered:=true }] }::cs):=(by simp[recoverD,hc]);rw[hr];exact key v _ (.panicking [{ v:=v,recovered:=true }]) rfl rfl hv
section
variable {C:Ctx}{st:St}{P:Program}{E:St->Prop}
theorem qIE{α β:Type}{rs:List ResultVar}{f:α->D}{E:β->St->Prop}{d:β}(h:E d st):Y5 P rs f E (.inr d) .ret st:=h
theorem W9{t:TypeId}{ms:Array (String×TypeId)}(hu:P.underlying t=some (.interface ms))(v:Value)(w:World)(hv:v=.nilIface\/∃t' u,v=.iface t' u):(binOp .neq t v .nilIface).run P w=.ok (.bool (match v with|.nilIface=>false|_=>true)) w:=by rcases hv with rfl|⟨t',u,rfl⟩;have h:(Op.equalIn (9999+1) t .nilIface .nilIface).run P w=.ok true w:=qNO;have h':(Op.equal t .nilIface .nilIface).run P w=.ok true w:=h;simp[binOp,h'];have h:(Op.equalIn (9999+1) t (.iface t' u) .nilIface).run P w=.ok false w:=qNO;have h':(Op.equal t (.iface t' u) .nilIface).run P w=.ok false w:=h;simp[binOp,h']
variable {o:Oper}{ev:Operand->AV}{hp:List Blk}{x:Operand}{t t':TypeId}{ms:Array (String×TypeId)}
theorem x_nilN(ho:o.op=.binOp .neq t x (.const .nilIface) t')(hu:C.P.underlying t=some (.interface ms))(hx:ev x=.d .nilif):RdOk C o ev hp (.d (.bool false)):=RdOk.mk λst hhp hag g a w hs=>by have h:=hs.ev x;rw[hag x fN,hx]at h;have hv:a.eval x=.nilIface:=(by generalize a.eval x=v at *;cases h with|d _ _ h=>cases h;rfl);refine⟨.bool false,?_,.d _ _ (.bool false)⟩;have he:a.eval (.const .nilIface)=.nilIface:=rfl;have hg:(eqGuard .neq t x (.const .nilIface) .nilIface .nilIface).run C.P w=.ok () w:=(by unfold eqGuard;simp);simp only[execOp,ho,hv,he,Sem.run_bind,hg,Result.andThen_ok,W9 hu _ w (.inl rfl)];rfl
theorem x_nilY{t2:TypeId}{d:D}(ho:o.op=.binOp .neq t x (.const .nilIface) t')(hu:C.P.underlying t=some (.interface ms))(hx:ev x=.d (.iface t2 d)):RdOk C o ev hp (.d (.bool true)):=RdOk.mk λst hhp hag g a w hs=>by have h:=hs.ev x;rw[hag x fN,hx]at h;obtain⟨u,hv⟩:∃u,a.eval x=.iface t2 u:=(by generalize a.eval x=v at *;cases h with|d _ _ h=>cases h;exact⟨_,rfl⟩);refine⟨.bool true,?_,.d _ _ (.bool true)⟩;have he:a.eval (.const .nilIface)=.nilIface:=rfl;have hg:(eqGuard .neq t x (.const .nilIface) (.iface t2 u) .nilIface).run C.P w=.ok () w:=(by unfold eqGuard;simp);simp only[execOp,ho,hv,he,Sem.run_bind,hg,Result.andThen_ok,W9 hu _ w (.inr ⟨_,_,rfl⟩)];rfl
end
section
variable {C:Ctx}{st:St}{g:Gh}{a:Act}{w:World}{P:Program}
variable {K:St->Prop}{T:Tab}{by' e id len n off sz ty:Nat}
theorem Sim.shr(h:Sim C st g a w){es:List D}(k:Nat)(hb:st.hp[id]?=some (.flat ty sz es)):Sim C ⟨st.fr,st.hp.set id (.flat ty sz (es.take k))⟩ g a w:=by have hin:∀(i:Nat)(B:Blk),(st.hp.set id (.flat ty sz (es.take k)))[i]?=some B->∃B',st.hp[i]?=some B'/\(B≠.dead->B'≠.dead):=(by intro i B hi;rw[iC]at hi;split at hi;rename_i e;subst e;exact⟨_,hb,λ_ e=>by cases e⟩;exact⟨B,hi,λh=>h⟩);have hsub:∀(j:Nat)(e:D),(es.take k)[j]?=some e->es[j]?=some e:=λj e hj=>(by rw[sI]at hj;split at hj;exact hj;cases hj);refine{ h with hp:=λi B hi=>?_,lt:=?_,inj:=?_,kle:=?_ };simp only[iC]at hi;split at hi;rename_i e;subst e;have hlt:=gJ hb;rw[if_pos hlt]at hi;cases hi;rcases h.hp _ _ hb with⟨e0,hn⟩|⟨b,cells,h1,h2,h3,h4,h5,h6,h7⟩;subst e0;exact .inl ⟨aN,hn⟩;refine .inr ⟨b,cells,h1,h2,h3,eR (sL _ iK) h4,λj e hj=>h5 j e (hsub j e hj),λj e q c hj hc=>h6 j e q c (hsub j e hj) hc,λj e q c hj hc=>h7 j e q c (hsub j e hj) hc⟩;exact h.hp i B hi;intro i b hp';have:=h.lt i b hp';simp only[zal95q];exact this;intro i j b Bi Bj hi hj di dj hpi hpj;obtain⟨Bi',hi',ei⟩:=hin i Bi hi;obtain⟨Bj',hj',ej⟩:=hin j Bj hj;exact h.inj i j b Bi' Bj' hi' hj' (ei di) (ej dj) hpi hpj;have:=h.kle;simp only[zal95q];exact this
theorem c_shr{α:Type}{f:α->D}{c:Code}{Q:Exit->St->Prop}{fr:Fr}{hp:List Blk}{xs:List α}(t id:Nat)(hb:hp[id]?=some (.flat ty sz (xs.map f)))(ht:fr.get t=.msl id sz 0 n)(hn:n<=xs.length)(h:TWp C c ⟨(t,.msl id sz 0 (xs.take n).length)::fr,hp.set id (.flat ty sz ((xs.take n).map f))⟩ Q):TWp C c ⟨fr,hp⟩ Q:=λg a w hs=>by have h1:=Sim.shr (st:=⟨fr,hp⟩) hs n hb;rw[<- List.map_take]at h1;refine h g a w { h1 with fr:=λu=>?_ };simp only[Fr.get];split;rename_i e;subst e;have:=h1.fr t;simp only at this;rw[ht]at this;rw[oF,Nat.min_eq_left hn];exact this;exact h1.fr u
variable {o:Oper}{ev:Operand->AV}{hp:List Blk}
theorem qNR{t:Nat}{x:Operand}{lo hi:Option Operand}{l r:Int}(hT:TabOk C.P T)(ho:o.op=.slice t x lo hi none)(hl:lk T.sel t=some (e,sz,by'))(ha:ev x=.msl id sz 0 n)(hlo:Nv 0 (lo.map ev)=some l)(hhi:Nv n (hi.map ev)=some r)(h:0<=l/\l<=r/\r<=(n:Int)):RdOk C o ev hp (.msl id sz l.toNat (r.toNat-l.toNat)):=by have h1:Nv ((0:Nat):Int).toNat (lo.map ev)=some ((l.toNat:Nat):Int):=(by rw[Mb h.1];exact hlo);have h2:Nv n (hi.map ev)=some ((r.toNat:Nat):Int):=(by rw[Mb aB];exact hhi);have:=Cf (hp:=hp) id sz by' 0 n l.toNat r.toNat ho (hT.sel hl) ha h1 h2 aB aB;simpa using this
theorem x_ixP{t:Nat}{x y:Operand}{k:IntKind}{i:Int}(hT:TabOk C.P T)(ho:o.op=.indexAddr t x y)(hl:lk T.sel t=some (e,sz,by'))(ha:ev x=.msl id sz off len)(hb:ev y=.d (.int k i))(h:0<=i/\i<(len:Int)):RdOk C o ev hp (.mptr id sz (off+i.toNat) 0):=qCB ho (hT.sel hl) ha hb h rfl
theorem ok_clear{t e:TypeId}{x:Operand}(id sz by' off len:Nat)(es:List D)(z:Value)(ho:o.op=.call { callee:=.builtin .clear,args:=#[x],argTypes:=#[t] })(hd:o.dst=none)(hl:sel C.P t=some (e,sz,by'))(hz:(C.P.info? e).bind (·.zero)=some z)(hzs:z.cells.size=sz)(hz1:∀u∈z.cells.toList,u.oneCell'=true)(hx:st.fr.ev x=.msl id sz off len)(hb:st.hp[id]?=some (.flat e sz es))(hle:off+len<=es.length)(hK:K ⟨st.fr,st.hp.set id (.flat e sz (es.take off))⟩):OpOk C o st K:=OpOk.change λg a w hsim=>by obtain⟨inf,hun,hi,hsz,hby⟩:=zB hl;have hvx:=hsim.ev x;rw[hx]at hvx;have hrun:∀vx v w',a.eval x=vx->(Builtin.clear_ #[t] o.type #[vx]).run C.P w=.ok v w'->(execOp a.eval o).run C.P w=.ok (.value v) w':=λvx v w' hex h=>(by rw[<- hex]at h;simp only[execOp,ho];simp[resolve,invoke,builtin,h]);obtain⟨inf',hinf',hz'⟩:=cx hz;generalize hex:a.eval x=vx at hvx;cases hvx with|msl0=>refine⟨.tuple #[],w,hrun _ _ _ hex ?_,_,g,hK,?_⟩;rename_i ad;cases ad<;>simp[Builtin.clear_,run_underlying hun];rw[hd];exact hsim.shr off hb|msl _ _ _ _ cap0 b hbp hc hpsz=>by_cases hn0:len=0;subst hn0;refine⟨.tuple #[],w,hrun _ _ _ hex ?_,_,g,hK,?_⟩;simp[Builtin.clear_,run_underlying hun];rw[hd];exact hsim.shr off hb;rcases hsim.hp id _ hb with⟨h0,hn'⟩|⟨b',cells,hp',hw,hpsi,hl',h0,h1,hr0⟩;rw[hbp]at hn';cases hn';cases hbp.symm.trans hp';have hmul2:(off+len)*sz<=es.length*sz:=sL _ hle;rw[sM]at hmul2;generalize hnews:(Builtin.zeroCells z.cells len).toList=news;have hl2:news.length=len*sz:=(by rw[<- hnews,<- hzs];simp[Builtin.zeroCells]);have h1c:∀u∈news,u.oneCell'=true:=(by intro u hu;rw[<- hnews]at hu;simp only[Builtin.zeroCells,fb,zal115q]at hu;obtain⟨i,hi',rfl⟩:=hu;have hlt:i<len*z.cells.size:=(by simpa using hi');have hpos:0<z.cells.size:=(by rcases Jq z.cells.size with h|h;rw[h]at hlt;omega;exact h);have hm:=Nat.mod_lt i hpos;rw[getElem!_pos z.cells _ hm];exact hz1 _ aN);have hst:=run_storeCells_at C.P b (off*sz) e news 0 cells w hw (by rw[hl2];omega) h1c;simp only[cg]at hst;obtain⟨m,rfl⟩:∃m,len=m+1:=⟨len-1,aB⟩;refine⟨.tuple #[],w.setRow b (spl cells.toList (off*sz) news).toArray,hrun _ _ _ hex ?_,_,g,hK,?_⟩;simp[Builtin.clear_,run_underlying hun,zeroValue,typeInfo,hinf',hz',hnews,hst,spl];rw[hd];have hX:∀b',g.X b'->b'≠b:=λb' hX e=>(hsim.lt id b hbp).2.2 (e ▸ hX);have hscell:∀m',m'<off*sz->(spl cells.toList (off*sz) news).toArray[m']?=cells[m']?:=λm' hm=>(by rw[Vy,spl_get _ _ _ (by rw[hl2];simp;omega),if_pos hm];simp);have hsub:∀(j:Nat)(e:D),(es.take off)[j]?=some e->j<off/\es[j]?=some e:=λj e hj=>(by rw[sI]at hj;split at hj;rename_i h;exact⟨h,hj⟩;cases hj);refine hsim.change (i:=id) (b:=b) hb (λe=>by cases e) hbp (w':=w.setRow b (spl cells.toList (off*sz) news).toArray) (eg _ _ _) rfl rfl rfl (oA _) (λb' hb'=>setRow_other w b b' _ hb') (B:=.flat e sz (es.take off)) (.inr ⟨b,_,hbp,setRow_heap w b cells _ e (0,0) hw,?_,?_,?_,?_,?_⟩);rw[hpsi];simp[spl];omega;have:(spl cells.toList (off*sz) news).toArray.size=cells.size:=(by simp[spl];omega);rw[this];exact eR (sL _ iK) hl';exact λk e' hk=>h0 k e' (hsub k e' hk).2;exact λk e' j c hk hj=>h1 k e' j c (hsub k e' hk).2 hj;intro k e' j c hk hj;obtain⟨hko,hk'⟩:=hsub k e' hk;have hjlt:j<sz:=(by rw[<- h0 k e' hk'];exact(gJ hj));obtain⟨v,hv,hdv⟩:=hr0 k e' j c hk' hj;have:=sL sz hko;rw[gl]at this;exact⟨v,by rw[hscell _ aB];exact hv,hdv.mono (λ_ h=>h) λb' hb'=>setRow_other w b b' _ (hX b' hb')⟩
theorem s_clear{α:Type}{f:α->D}{ops:Array Oper}{l:List Oper}{fr:Fr}{hp:List Blk}{xs:List α}{t:Nat}{x:Operand}{z:Value}{ty:TypeId}{pos:String}{after:Array Edge}(hT:TabOk C.P T)(hl:lk T.sel t=some (e,sz,by'))(hz:(C.P.info? e).bind (·.zero)=some z)(hzs:Nat.beq z.cells.size sz=true)(hz1:(z.cells.toList.all λu=>u.oneCell')=true)(hx:fr.ev x=.msl id sz off len)(hb:hp[id]?=some (.flat e sz (xs.map f)))(hle:off+len<=xs.length)(h:cP C ops l ⟨fr,hp.set id (.flat e sz ((xs.take off).map f))⟩ K):cP C ops (⟨none,.call { callee:=.builtin .clear,args:=#[x],argTypes:=#[t] },ty,pos,after,none⟩::l) ⟨fr,hp⟩ K:=by rw[wy]at h;exact gW rfl (ok_clear (st:=⟨fr,hp⟩) id sz by' off len (xs.map f) z rfl rfl (hT.sel hl) hz (eU hzs) (zQT.1 hz1) hx hb (by rw[yt];exact hle) h)
end
variable {C:Ctx}{st:St}{g:Gh}{a:Act}{w:World}{P:Program}
variable {C:Ctx}{st:St}{g:Gh}{a:Act}{w:World}{P:Program}
section find
variable {d:TypeDesc}{k:D}{es:List (D×AV)}{ents:Array MapEntry}
end find
section look
variable {o:Oper}{ev:Operand->AV}{hp:List Blk}{x y u:Operand}{t kt et kt' et':TypeId}{d:TypeDesc}{id:Nat}{es:List (D×AV)}{k zd:D}{v:AV}{z:Value}
end look
section ops
variable {ops:Array Oper}{l:List Oper}{K:St->Prop}{fr:Fr}{hp:List Blk}{ty:TypeId}{pos:String}{after:Array Edge}
end ops
variable {C:Ctx}{st:St}{g:Gh}{a:Act}{w:World}{P:Program}
section
variable {β:Type}(f:β->D)(ty sz kt vt:Nat)
end
section rules
variable {β:Type}{f:β->D}{ty sz kt vt:Nat}{fr:Fr}{t0 t2:Nat}{c0 c2:List AV}{G:List (Int×List β)}{c:Code}{Q:Exit->St->Prop}
end rules
variable {C:Ctx}{st:St}{g:Gh}{a:Act}{w:World}{P:Program}
section groups
variable {β:Type}(key:β->Int)
end groups
section loop
variable {β:Type}{f:β->D}{ty sz kt vt:Nat}{t0:Nat}{c0:List AV}{Q:Exit->St->Prop}
end loop
theorem qOE{P:Program}{w:World}{g:Gh}(hn:P.globalNamed name=some n)(hm:Gz[n]?=some (n,zs.map λz=>Value.int k z))(h:qNG w g):Lib.TabIs P w name k zs:=by obtain⟨⟨t,fz,e⟩,_⟩:=h _ (kK hm);simp only at e;unfold Lib.TabIs World.var?;rw[hn];simp only[Option.bind_some,e]
theorem qVC{P:Program}{s:ByteArray}(hcb:tR P F=true)(ht:∀w g,qNG w g->Lib.TabIs P w name k zs)(h:∀w,Lib.TabIs P w name k zs->Calls P F #[.int .i64 i] w λe w'=>e=.returned (.string s)/\∃k os,w'=Sort.grow (w.drewN k) os):RetN P F [.int .i64 i] (.str s):=by refine⟨λ_=>false,.d (.str s),[],⟨hcb,λw g vs hout hargs=>?_⟩,.d _,.d _ rfl,λB hB=>by simp at hB⟩;obtain⟨v0,rfl⟩:∃v0,vs=#[v0]:=(by have hl:vs.size=1:=(by have:=hargs.1;simpa using this.symm);exact⟨vs[0],by apply Array.ext;simp[hl];intro i h1 h2;match i,h2 with|0,_=>rfl⟩);have h0:=hargs.2 0 _ _ rfl rfl;rw[int_inv h0];refine(h w (ht w g (Sim.laidW hout))).mono ?_;rintro e w' ⟨rfl,n,os,rfl⟩;exact⟨_,g,rfl,Sim.grow hout n os,.d _ _ (.str _)⟩
section del
variable {α β:Type}[DecidableEq α]{dk:TypeDesc}{kf:α->D}{C:Ctx}{st:St}{o:Oper}{hp:List Blk}{x y:Operand}{t tk kt et kt' et':TypeId}{d:TypeDesc}{id:Nat}{es:List (D×D)}{k:D}
end del
theorem IZ{α β:Type}{m:Option β}{x:α ⊕ β}{o:β}{C:Prop}(h:aX m=some x)(hz:∀v,x=.inr v->v=o)(f:m=some o->C):C:=(II h).elim λv h=>f (hz v h.2 ▸ h.1)
theorem IX{α β:Type}{st:St}{i:Nat}{m:Option β}{x:α ⊕ β}{o:β}(h:aX m=some x)(hz:∀v,x=.inr v->v=o)(f:m=some o->Q (.exit i) st):yV next Q (.exit i) st:=IZ h hz f
theorem IR{α β:Type}{st:St}{m:Option β}{x:α ⊕ β}{o:β}(h:aX m=some x)(hz:∀v,x=.inr v->v=o)(f:m=some o->Q .ret st):yV next Q .ret st:=IZ h hz f
section wf
variable {C:Ctx}{T:Tab}{ops:Array Oper}{op:Op}{o:Oper}{ty:TypeId}{pos:String}{after:Array Edge}{gd:Option (Nat×Bool)}{l:List Oper}{K:St->Prop}{fr fr0:Fr}{hp hp0:List Blk}{acc:List Rec}{d:Nat}{v:AV}{α β γ:Type}{f:α->D}{xs:List α}
variable {A B x0 y0:Option γ}{Q:Exit->St->Prop}{S:γ->St}{ks:List Nat}{p:Prop}{q r z:γ}
theorem bB{op:BinOp}{t t':TypeId}{x y:Operand}{m n r:Int}{k:Option γ}(hm:aH (cI r) k=some q)(h:(decide (d<C.n),Oh ops gd fr,fr.ev x,fr.ev y,qCW op m n)=(true,some true,.d (.int .i64 m),.d (.int .i64 n),some r))
    (kk:k=some q->cP C ops l ⟨(d,.d (.int .i64 r))::fr,hp⟩ K):cP C ops (⟨some d,.binOp op t x y t',ty,pos,after,gd⟩::l) ⟨fr,hp⟩ K:=z_ar h (GI hm).1 (kk (GI hm).2)
theorem cA{t e sz by':Nat}{a b:Operand}{j:IntKind}{i:Int}{k:α->Option γ}(hT:TabOk C.P T)(hm:bL xs i k=some q)(h:(decide (d<C.n),Oh ops gd fr,lk T.sel t,fr.ev a,fr.ev b)=(true,some true,some (e,sz,by'),.d (.sl sz (xs.map f)),.d (.int j i)))
    (kk:∀x,k x=some q->cP C ops l ⟨(d,.d (.ptr (f x) 0))::fr,hp⟩ K):cP C ops (⟨some d,.indexAddr t a b,ty,pos,after,gd⟩::l) ⟨fr,hp⟩ K:=(GV hm).elim λx hx=>z_ix hT h hx.1 (kk x hx.2)
theorem qB[Decidable p](hT:TabOk C.P T)(h:Iv T C.n ops o fr0 hp0=some ((d,.d (.bool (decide p)))::fr,hp))(hm:(if p then A else B)=some q)(k0:B=some q->cP C ops l ⟨(d,.d (.bool false))::fr,hp⟩ K)(k1:A=some q->cP C ops l ⟨(d,.d (.bool true))::fr,hp⟩ K):cP C ops (o::l) ⟨fr0,hp0⟩ K:=SB hT h λb hb=>by
  cases b;exact k0 (JF hb hm);exact k1 (JT hb hm)
theorem Dg[Decidable p](hT:TabOk C.P T)(h:Iv T C.n ops o fr0 hp0=some ((d,.d (.bool (!decide p)))::fr,hp))(hm:(if p then B else A)=some q)(k0:B=some q->cP C ops l ⟨(d,.d (.bool false))::fr,hp⟩ K)(k1:A=some q->cP C ops l ⟨(d,.d (.bool true))::fr,hp⟩ K):cP C ops (o::l) ⟨fr0,hp0⟩ K:=SB hT h λb hb=>by
  cases b;exact k0 (qPZ hb hm);exact k1 (qPY hb hm)
theorem jY{p:Bool}(hT:TabOk C.P T)(h:Iv T C.n ops o fr0 hp0=some ((d,.d (.bool p))::fr,hp))(hm:(if p=true then A else B)=some q)(k0:B=some q->cP C ops l ⟨(d,.d (.bool false))::fr,hp⟩ K)(k1:A=some q->cP C ops l ⟨(d,.d (.bool true))::fr,hp⟩ K):cP C ops (o::l) ⟨fr0,hp0⟩ K:=SB hT h λb hb=>by
  cases b;exact k0 (JB hb hm);exact k1 (JA hb hm)
theorem Hv[Decidable p](rs:List Nat)(hT:TabOk C.P T)(h:drE T C.n ops o fr (Jc rs hp)=some (true,d,.d (.bool (decide p))))(hm:(if p then A else B)=some q)(k0:B=some q->TDr C ops K l ((d,.d (.bool false))::fr) hp (acc++[⟨true,d,.d (.bool false),rs,[]⟩]))(k1:A=some q->TDr C ops K l ((d,.d (.bool true))::fr) hp (acc++[⟨true,d,.d (.bool true),rs,[]⟩])):TDr C ops K (o::l) fr hp acc:=d_b rs hT h λb hb=>by
  cases b;exact k0 (JF hb hm);exact k1 (JT hb hm)
theorem Yr{p:Bool}(rs:List Nat)(hT:TabOk C.P T)(h:drE T C.n ops o fr (Jc rs hp)=some (true,d,.d (.bool p)))(hm:(if p=true then A else B)=some q)(k0:B=some q->TDr C ops K l ((d,.d (.bool false))::fr) hp (acc++[⟨true,d,.d (.bool false),rs,[]⟩]))(k1:A=some q->TDr C ops K l ((d,.d (.bool true))::fr) hp (acc++[⟨true,d,.d (.bool true),rs,[]⟩])):TDr C ops K (o::l) fr hp acc:=d_b rs hT h λb hb=>by
  cases b;exact k0 (JB hb hm);exact k1 (JA hb hm)
theorem d_biN[Decidable p](rs:List Nat)(hT:TabOk C.P T)(h:drE T C.n ops o fr (Jc rs hp)=some (true,d,.d (.bool (!decide p))))(hm:(if p then B else A)=some q)(k0:B=some q->TDr C ops K l ((d,.d (.bool false))::fr) hp (acc++[⟨true,d,.d (.bool false),rs,[]⟩]))(k1:A=some q->TDr C ops K l ((d,.d (.bool true))::fr) hp (acc++[⟨true,d,.d (.bool true),rs,[]⟩])):TDr C ops K (o::l) fr hp acc:=d_b rs hT h λb hb=>by
  cases b;exact k0 (qPZ hb hm);exact k1 (qPY hb hm)
theorem dP(h:cP C ops l ⟨fr,hp⟩ K)(hE:Lh ops.toList acc.length (acc.map Rec.d) (acc.map yE)=true:=by kernel_rfl):TDr C ops K l fr hp acc:=DT h hE
theorem bZ[Decidable p]{o:Operand}{x y:Code}{st:St}(hm:(if p then x0 else y0)=some r)(hc:st.fr.ev o=.d (.bool (decide p)))(h1:x0=some r->TWp C x st Q)(h2:y0=some r->TWp C y st Q):TWp C (.cond o x y) st Q:=qXC hm hc (λ_=>h1) λ_=>h2
theorem cG{p:Bool}{o:Operand}{x y:Code}{st:St}(hm:(if p=true then x0 else y0)=some r)(hc:st.fr.ev o=.d (.bool p))(h1:x0=some r->TWp C x st Q)(h2:y0=some r->TWp C y st Q):TWp C (.cond o x y) st Q:=qTP hm hc (λ_=>h1) λ_=>h2
theorem sB[Decidable p]{o:Operand}{x y:Code}{st:St}(hm:(if p then y0 else x0)=some r)(hc:st.fr.ev o=.d (.bool (!decide p)))(h1:x0=some r->TWp C x st Q)(h2:y0=some r->TWp C y st Q):TWp C (.cond o x y) st Q:=c_ifN hm hc (λ_=>h1) λ_=>h2
theorem kP{x:γ}(ids:List Nat){st:St}{k:Nat}(hm:some x=some z)(h1:jF ids=true:=by rfl)(h2:∀i,i<k->ids[i]?=some i:=by exact kB rfl)(h3:st.canon ks ids=S x:=by rfl):∃j ids',z=j/\jF ids'=true/\(∀i,i<k->ids'[i]?=some i)/\st.canon ks ids'=S j:=e_j ids hm h1 h2 h3
theorem bD{x:γ}(ids:List Nat){st:St}(hm:some x=some z)(h1:jF ids=true:=by rfl)(h3:st.canon ks ids=S x:=by rfl):∃j ids',z=j/\jF ids'=true/\(∀i,i<0->ids'[i]?=some i)/\st.canon ks ids'=S j:=qAH ids hm h1 h3
theorem lF{x:γ}{z:γ ⊕ β}(ids:List Nat){st:St}{k:Nat}(hm:some (.inl x)=some z)(h1:jF ids=true:=by rfl)(h2:∀i,i<k->ids[i]?=some i:=by exact kB rfl)(h3:st.canon ks ids=S x:=by rfl):∃j ids',z=.inl j/\jF ids'=true/\(∀i,i<k->ids'[i]?=some i)/\st.canon ks ids'=S j:=e_l ids hm h1 h2 h3
theorem bM{x:γ}{z:γ ⊕ β}(ids:List Nat){st:St}(hm:some (.inl x)=some z)(h1:jF ids=true:=by rfl)(h3:st.canon ks ids=S x:=by rfl):∃j ids',z=.inl j/\jF ids'=true/\(∀i,i<0->ids'[i]?=some i)/\st.canon ks ids'=S j:=e_l0 ids hm h1 h3
theorem bA{P:Program}{f:γ->D}{x:γ}{rs:List ResultVar}{st:St}(hm:some x=some r)(h:Er st.fr rs=some (.d (f x)):=by rfl):EndsS P rs (f r) st:=e_one hm h
theorem gL{st:St}{t:Nat}{b b':Bool}{fr':Fr}{hp':List Blk}(ids:List Nat)(h3:st.canon ks ids=⟨(t,.d (.bool b))::fr',hp'⟩:=by rfl)(h1:jF ids=true:=by rfl)(q:b=b'):∃ids',jF ids'=true/\(∀i,i<0->ids'[i]?=some i)/\st.canon ks ids'=⟨(t,.d (.bool b'))::fr',hp'⟩:=by
  subst q;exact⟨ids,h1,λi hi=>absurd hi (xJ i),h3⟩
def dRun(T:Tab)(n:Nat)(ops:Array Oper)(rs:List Nat)(hp:List Blk):Nat->List Oper->Fr->List Rec->Option (List Oper×Fr×List Rec)
  |0,l,fr,acc=>some (l,fr,acc)
  |_+1,[],_,_=>none
  |k+1,o::l,fr,acc=>match drE T n ops o fr hp with
    |some (on,d,v)=>dRun T n ops rs hp k l ((d,v)::fr) (acc++[⟨on,d,v,bif on then rs else[],[]⟩])
    |none=>none
theorem dW(k:Nat)(rs:List Nat)(hT:TabOk C.P T){l l':List Oper}{fr fr':Fr}{acc acc':List Rec}(h:dRun T C.n ops rs (Jc rs hp) k l fr acc=some (l',fr',acc'))(kk:TDr C ops K l' fr' hp acc'):TDr C ops K l fr hp acc:=by
  induction k generalizing l fr acc with
  |zero=>cases h;exact kk
  |succ k ih=>
    cases l with
    |nil=>cases h
    |cons o l=>
      simp only[dRun]at h;split at h;rename_i e;exact DA rs hT e (ih h);cases h
end wf
end Go.TL
set_option maxHeartbeats 8000000
set_option linter.unusedSimpArgs false
set_option linter.unusedVariables false
set_option maxRecDepth 20000
namespace Go.Proofs.YtandcfplaooadaaGreatDoor
open Go Go.TL
abbrev BA := ByteArray
abbrev cW(x:Int):AV:=.d (.int .i64 x)
abbrev nA(x:Bool):AV:=.d (.bool x)
abbrev dS:Int->D:=D.int .i64
abbrev mC(x:Int):D:=.int .i64 x
structure A7 where
 name:BA
 kind:Int
 length:Int
 grade:Int
 speed:Int
 slow:Int
 A8:Int
deriving DecidableEq,Inhabited
def A7.enc(x:A7):D:=.agg [.str x.name,.int .i64 x.kind,.int .i64 x.length,.int .i64 x.grade,.int .i64 x.speed,.int .i64 x.slow,.int .i64 x.A8]
structure A7.Wf (x:A7):Prop where
 name:x.name.size<=reachBytes
 kind:cI x.kind
 length:cI x.length
 grade:cI x.grade
 speed:cI x.speed
 slow:cI x.slow
 A8:cI x.A8
structure End where
 el:Int
 side:Int
deriving DecidableEq,Inhabited
def End.enc(x:End):D:=.agg [.int .i64 x.el,.int .i64 x.side]
structure End.Wf (x:End):Prop where
 el:cI x.el
 side:cI x.side
structure Pb where
 a:End
 b:End
deriving DecidableEq,Inhabited
def Pb.enc(x:Pb):D:=.agg [.int .i64 x.a.el,.int .i64 x.a.side,.int .i64 x.b.el,.int .i64 x.b.side]
structure Pb.Wf (x:Pb):Prop where
 a:End.Wf x.a
 b:End.Wf x.b
structure Fd where
 name:BA
 atV:End
 overlap:Int
deriving DecidableEq,Inhabited
def Fd.enc(x:Fd):D:=.agg [.str x.name,.int .i64 x.atV.el,.int .i64 x.atV.side,.int .i64 x.overlap]
structure Fd.Wf (x:Fd):Prop where
 name:x.name.size<=reachBytes
 atV:End.Wf x.atV
 overlap:cI x.overlap
structure Pa where
 id:Int
 el:Int
 offset:Int
deriving DecidableEq,Inhabited
def Pa.enc(x:Pa):D:=.agg [.int .i64 x.id,.int .i64 x.el,.int .i64 x.offset]
structure Pa.Wf (x:Pa):Prop where
 id:cI x.id
 el:cI x.el
 offset:cI x.offset
structure Ar where
 name:BA
 Aa:(List BA)
 Ap:(List A7)
 joints:(List Pb)
 Al:(List Fd)
 balises:(List Pa)
deriving DecidableEq,Inhabited
def Ar.enc(x:Ar):D:=.agg [.str x.name,.sl 1 (x.Aa.map D.str),.sl 7 (x.Ap.map A7.enc),.sl 4 (x.joints.map Pb.enc),.sl 4 (x.Al.map Fd.enc),.sl 3 (x.balises.map Pa.enc)]
structure Ar.Wf (x:Ar):Prop where
 name:x.name.size<=reachBytes
 Aa:x.Aa.length<=reachBytes/\∀y∈x.Aa,y.size<=reachBytes
 Ap:x.Ap.length<=reachBytes/\∀y∈x.Ap,A7.Wf y
 joints:x.joints.length<=reachBytes/\∀y∈x.joints,Pb.Wf y
 Al:x.Al.length<=reachBytes/\∀y∈x.Al,Fd.Wf y
 balises:x.balises.length<=reachBytes/\∀y∈x.balises,Pa.Wf y
structure Pe where
 kind:Int
 inV:Int
 out:Int
 need:Int
deriving DecidableEq,Inhabited
def Pe.enc(x:Pe):D:=.agg [.int .i64 x.kind,.int .i64 x.inV,.int .i64 x.out,.int .i64 x.need]
structure As where
 el:Int
 inV:Int
 out:Int
deriving DecidableEq,Inhabited
def As.enc(x:As):D:=.agg [.int .i64 x.el,.int .i64 x.inV,.int .i64 x.out]
inductive Fn282 where
 |c230 (a0:Ar)
deriving DecidableEq
instance:Inhabited Fn282:=⟨.c230 default⟩
def Fn282.enc:Fn282->D
 |.c230 a0=>.clo 230 [.ptr a0.enc 0]
structure Ac where
 el:Int
 pos:Int
deriving DecidableEq,Inhabited
def Ac.enc(x:Ac):D:=.agg [.int .i64 x.el,.int .i64 x.pos]
structure Aj where
 name:BA
 entry:Int
 exit:Int
 path:(List As)
 Af:(List Ac)
 Aa:(List Int)
 A1:Int
 length:Int
 over:(List As)
 Am:(List Ac)
 Ae:(List Int)
 A4:(List Ac)
 guards:(List Int)
 gaps:(List End)
deriving DecidableEq,Inhabited
def Aj.enc(x:Aj):D:=.agg [.str x.name,.int .i64 x.entry,.int .i64 x.exit,.sl 3 (x.path.map As.enc),.sl 2 (x.Af.map Ac.enc),.sl 1 (x.Aa.map (D.int .i64)),.int .i64 x.A1,.int .i64 x.length,.sl 3 (x.over.map As.enc),.sl 2 (x.Am.map Ac.enc),.sl 1 (x.Ae.map (D.int .i64)),.sl 2 (x.A4.map Ac.enc),.sl 1 (x.guards.map (D.int .i64)),.sl 2 (x.gaps.map End.enc)]
structure Id where
 l:Ar
 paths:(List (List As))
deriving DecidableEq,Inhabited
structure Gap where
 endV:End
deriving DecidableEq,Inhabited
def Gap.enc(x:Gap):D:=.agg [.int .i64 x.endV.el,.int .i64 x.endV.side]
structure Ah where
 Ab:(List Aj)
 Af:(List Int)
 A9:(List Int)
 Aa:Int
 Al:Int
deriving DecidableEq,Inhabited
def Ah.enc(x:Ah):D:=.agg [.sl 14 (x.Ab.map Aj.enc),.sl 1 (x.Af.map (D.int .i64)),.sl 1 (x.A9.map (D.int .i64)),.int .i64 x.Aa,.int .i64 x.Al]
structure Au where
 occupied:(List Bool)
 detected:(List Int)
 closed:(List Bool)
 claimed:(List Bool)
 passed:(List Bool)
 calls:(List Int)
 cancels:(List Int)
deriving DecidableEq,Inhabited
def Au.enc(x:Au):D:=.agg [.sl 1 (x.occupied.map D.bool),.sl 1 (x.detected.map (D.int .i64)),.sl 1 (x.closed.map D.bool),.sl 1 (x.claimed.map D.bool),.sl 1 (x.passed.map D.bool),.sl 1 (x.calls.map (D.int .i64)),.sl 1 (x.cancels.map (D.int .i64))]
structure Au.Wf (x:Au):Prop where
 occupied:x.occupied.length<=reachBytes/\∀y∈x.occupied,True
 detected:x.detected.length<=reachBytes/\∀y∈x.detected,cI y
 closed:x.closed.length<=reachBytes/\∀y∈x.closed,True
 claimed:x.claimed.length<=reachBytes/\∀y∈x.claimed,True
 passed:x.passed.length<=reachBytes/\∀y∈x.passed,True
 calls:x.calls.length<=reachBytes/\∀y∈x.calls,cI y
 cancels:x.cancels.length<=reachBytes/\∀y∈x.cancels,cI y
structure A5 where
 t:Ah
 inputs:Int
 Pj:(List Int)
 extra:Int
 count:Int
deriving DecidableEq,Inhabited
def A5.enc(x:A5):D:=.agg [.sl 14 (x.t.Ab.map Aj.enc),.sl 1 (x.t.Af.map (D.int .i64)),.sl 1 (x.t.A9.map (D.int .i64)),.int .i64 x.t.Aa,.int .i64 x.t.Al,.int .i64 x.inputs,.sl 1 (x.Pj.map (D.int .i64)),.int .i64 x.extra,.int .i64 x.count]
structure Ad where
 op:Int
 var:Int
 args:(List Ad)
instance:Inhabited Ad:=⟨⟨default,default,[]⟩⟩
mutual
def Ad.A0:Ad->D
 |⟨a0,a1,a2⟩=>.agg [.int .i64 a0,.int .i64 a1,.sl 3 (Ad.Pi a2)]
def Ad.Pi:List Ad->List D
 |[]=>[]
 |e::r=>Ad.A0 e::Ad.Pi r
end
theorem Ad.encsR_map:∀xs:List Ad,Ad.Pi xs=xs.map Ad.A0
 |[]=>by simp[Ad.Pi]
 |e::r=>by simp[Ad.Pi,Ad.encsR_map r]
def Ad.enc(x:Ad):D:=.agg [.int .i64 x.op,.int .i64 x.var,.sl 3 (x.args.map Ad.A0)]
theorem Ad.An(x:Ad):x.A0=x.enc:=by cases x;simp[Ad.A0,Ad.enc,Ad.encsR_map]
theorem Ad.Aq(x:Ad):x.A0.cells.length=3:=by rw[Ad.An];rfl
mutual
def Ad.beq:Ad->Ad->Bool
 |⟨a0,a1,a2⟩,⟨b0,b1,b2⟩=>decide (a0=b0)&&decide (a1=b1)&&Ad.beqs a2 b2
def Ad.beqs:List Ad->List Ad->Bool
 |[],[]=>true
 |x::xs,y::ys=>Ad.beq x y&&Ad.beqs xs ys
 |_,_=>false
end
mutual
theorem Ad.beq_iff:∀a b:Ad,Ad.beq a b=true↔a=b
 |⟨a0,a1,a2⟩,⟨b0,b1,b2⟩=>by simp[Ad.beq,Ad.beqs_iff a2 b2,and_assoc]
theorem Ad.beqs_iff:∀a b:List Ad,Ad.beqs a b=true↔a=b
 |[],[]=>by simp[Ad.beqs]
 |[],_::_=>by simp[Ad.beqs]
 |_::_,[]=>by simp[Ad.beqs]
 |x::xs,y::ys=>by simp[Ad.beqs,Ad.beq_iff x y,Ad.beqs_iff xs ys]
end
instance:DecidableEq Ad:=λa b=>decidable_of_iff _ (Ad.beq_iff a b)
structure Ay where
 kind:Int
 var:Int
 Fn:Int
 expr:Ad
deriving DecidableEq,Inhabited
def Ay.enc(x:Ay):D:=.agg [.int .i64 x.kind,.int .i64 x.var,.int .i64 x.Fn,.int .i64 x.expr.op,.int .i64 x.expr.var,.sl 3 (x.expr.args.map Ad.A0)]
structure At where
 Ai:A5
 Ao:(List Ay)
deriving DecidableEq,Inhabited
structure Program where
 names:(List BA)
 inputs:Int
 Ao:(List Ay)
deriving DecidableEq,Inhabited
def Program.enc(x:Program):D:=.agg [.sl 1 (x.names.map D.str),.int .i64 x.inputs,.sl 6 (x.Ao.map Ay.enc)]
structure Ak where
 name:BA
 expr:Ad
deriving DecidableEq,Inhabited
def Ak.enc(x:Ak):D:=.agg [.str x.name,.int .i64 x.expr.op,.int .i64 x.expr.var,.sl 3 (x.expr.args.map Ad.A0)]
structure Aw where
 A6:Ah
 vars:(List (BA×Int))
 list:(List Ak)
deriving DecidableEq,Inhabited
structure Machine where
 vars:(List Bool)
 counts:(List Int)
 halted:Bool
deriving DecidableEq,Inhabited
def Machine.enc(x:Machine):D:=.agg [.sl 1 (x.vars.map D.bool),.sl 1 (x.counts.map (D.int .i64)),.bool x.halted]
inductive Fn111 where
 |c128
 |c129 (a0:Ay)
deriving DecidableEq
instance:Inhabited Fn111:=⟨.c128⟩
def Fn111.enc:Fn111->D
 |.c128=>.fn 128
 |.c129 a0=>.clo 129 [.ptr a0.enc 0]
structure Pg where
 act:Fn111
deriving DecidableEq,Inhabited
def Pg.enc(x:Pg):D:=.agg [x.act.enc]
structure Pc where
 tid:Nat
 e:Ad
deriving DecidableEq,Inhabited
def Pc.enc(x:Pc):D:=.iface x.tid (.agg [.ptr x.e.enc 0])
structure Ag where
 state:Int
 rel:Int
 timer:Int
deriving DecidableEq,Inhabited
def Ag.enc(x:Ag):D:=.agg [.int .i64 x.state,.int .i64 x.rel,.int .i64 x.timer]
structure Av where
 Ab:(List Ag)
 lies:(List Int)
deriving DecidableEq,Inhabited
def Av.enc(x:Av):D:=.agg [.sl 3 (x.Ab.map Ag.enc),.sl 1 (x.lies.map (D.int .i64))]
structure Ax where
 a0:Int
 a1:Int
deriving DecidableEq,Inhabited
def Ax.enc(x:Ax):D:=.agg [.int .i64 x.a0,.int .i64 x.a1]
structure Ph where
 t:Ah
 inV:Au
 route:Aj
 old:Ag
 claimed:Bool
 passed:Bool
 cancelled:Bool
 emptied:Bool
deriving DecidableEq,Inhabited
def Ph.enc(x:Ph):D:=.agg [.sl 14 (x.t.Ab.map Aj.enc),.sl 1 (x.t.Af.map (D.int .i64)),.sl 1 (x.t.A9.map (D.int .i64)),.int .i64 x.t.Aa,.int .i64 x.t.Al,.sl 1 (x.inV.occupied.map D.bool),.sl 1 (x.inV.detected.map (D.int .i64)),.sl 1 (x.inV.closed.map D.bool),.sl 1 (x.inV.claimed.map D.bool),.sl 1 (x.inV.passed.map D.bool),.sl 1 (x.inV.calls.map (D.int .i64)),.sl 1 (x.inV.cancels.map (D.int .i64)),.str x.route.name,.int .i64 x.route.entry,.int .i64 x.route.exit,.sl 3 (x.route.path.map As.enc),.sl 2 (x.route.Af.map Ac.enc),.sl 1 (x.route.Aa.map (D.int .i64)),.int .i64 x.route.A1,.int .i64 x.route.length,.sl 3 (x.route.over.map As.enc),.sl 2 (x.route.Am.map Ac.enc),.sl 1 (x.route.Ae.map (D.int .i64)),.sl 2 (x.route.A4.map Ac.enc),.sl 1 (x.route.guards.map (D.int .i64)),.sl 2 (x.route.gaps.map End.enc),.int .i64 x.old.state,.int .i64 x.old.rel,.int .i64 x.old.timer,.bool x.claimed,.bool x.passed,.bool x.cancelled,.bool x.emptied]
structure Pd where
 clear:(List Bool)
 lies:(List Int)
 refused:(List Int)
deriving DecidableEq,Inhabited
def Pd.enc(x:Pd):D:=.agg [.sl 1 (x.clear.map D.bool),.sl 1 (x.lies.map (D.int .i64)),.sl 1 (x.refused.map (D.int .i64))]
structure Pf where
 inter:Av
 t:Ah
 inV:Au
 refused:(List Int)
deriving DecidableEq,Inhabited
def Ac.ok(x:Ac):Prop:=cI x.el/\cI x.pos
instance (x:Ac):Decidable (Ac.ok x):=by unfold Ac.ok;infer_instance
theorem Lz(x y:Ac):([.int .i64 x.el,.int .i64 x.pos]:List Lit)=[.int .i64 y.el,.int .i64 y.pos]↔decide (x=y)=true:=by
 rw[decide_eq_true_eq]
 obtain⟨_,_⟩:=x
 obtain⟨_,_⟩:=y
 simp[Ac.mk.injEq,Jk,and_assoc]
def End.ok(x:End):Prop:=cI x.el/\cI x.side
instance (x:End):Decidable (End.ok x):=by unfold End.ok;infer_instance
def End.okb(x:End):Bool:=decide (End.ok x)
theorem End_lits(x y:End):([.int .i64 x.el,.int .i64 x.side]:List Lit)=[.int .i64 y.el,.int .i64 y.side]↔decide (x=y)=true:=by
 rw[decide_eq_true_eq]
 obtain⟨_,_⟩:=x
 obtain⟨_,_⟩:=y
 simp[End.mk.injEq,Jk,and_assoc]
def Ax.ok(x:Ax):Prop:=cI x.a0/\cI x.a1
instance (x:Ax):Decidable (Ax.ok x):=by unfold Ax.ok;infer_instance
theorem qNH(x y:Ax):([.int .i64 x.a0,.int .i64 x.a1]:List Lit)=[.int .i64 y.a0,.int .i64 y.a1]↔decide (x=y)=true:=by
 rw[decide_eq_true_eq]
 obtain⟨_,_⟩:=x
 obtain⟨_,_⟩:=y
 simp[Ax.mk.injEq,Jk,and_assoc]
noncomputable abbrev TP := Tryz.prog
def cb_l:List Nat:=[3,4,5,6,7,8,9,10,11,12,13,14,15,16,17,18,19,20,21,22,23,24,25,26,27,28,29,30,31,32,33,34,35,36,37,38,39,40,41,42,43,44,45,46,47,48,49,50,51,52,53,54,55,56,57,58,59,60,61,62,63,64,65,66,67,68,69,70,71,72,73,74,75,76,77,78,79,80,81,82,83,84,85,86,87,88,89,90,91,92,93,94,95,96,97,98,99,100,101,102,103,104,105,106,107,108,109,110,111,112,113,114,115,116,117,118,119,120,121,122,123,124,125,126,127,128,129,130,131,132,133,134,135,136,137,138,139,140,141,142,143,144,145,148,150,151,152,153,154,155,156,157,158,159,160,161,162,163,164,166,167,168,169,170,171,172,173,174,175,176,177,178,179,180,181,182,183,184,185,186,187,188,189,190,210,211,212,213,214,216,217,218,219,220,229,230]
theorem cb_all:cb_l.all (tR TP)=true:=aZ
theorem bH{F:Nat}(h:cb_l.elem F=true):tR TP F=true:=zQT.1 cb_all F (List.elem_iff.1 h)
theorem follows:TP.follows .mixedOrders=true:=aZ
theorem own:ownKnob TP.godebug=none:=aZ
theorem laidOut:laidOutB TP=true:=aZ
def qXS:Tab where
 lay:=[(3,false,1),(4,false,1),(9,false,1),(22,false,1),(23,false,1),(24,false,1),(25,false,1),(26,false,1),(28,true,6),(30,false,1),(31,false,1),(33,true,5),(39,false,1),(41,true,3),(44,false,1),(47,false,1),(49,true,2),(51,false,1),(53,true,3),(56,true,3),(60,true,7),(67,false,1),(68,false,1),(69,false,1),(71,true,14),(77,true,9),(81,true,10),(85,false,1),(87,true,3),(92,false,1),(94,true,7),(101,true,15),(103,true,3),(109,true,6),(113,true,1),(122,true,4),(128,true,3),(131,true,2),(135,true,2),(147,true,7),(149,true,4),(151,true,4),(152,false,1),(167,true,4),(176,false,1),(183,true,33),(189,false,1),(197,false,1),(199,true,7),(232,true,2),(242,true,1),(243,true,1),(244,true,1),(245,true,1),(253,true,3),(257,true,4),(258,true,40)]
 fs:=[(28,[(0,false,1),(1,false,1),(2,false,1),(3,false,1),(4,false,1),(5,false,1)]),(33,[(0,false,1),(1,false,1),(2,false,1),(3,false,1),(4,false,1)]),(41,[(0,false,1),(1,false,1),(2,false,1)]),(49,[(0,false,1),(1,false,1)]),(53,[(0,false,1),(1,false,1),(2,false,1)]),(56,[(0,false,1),(1,false,1),(2,false,1)]),(60,[(0,false,1),(1,false,1),(2,false,1),(3,false,1),(4,false,1),(5,false,1),(6,false,1)]),(71,[(0,false,1),(1,false,1),(2,false,1),(3,false,1),(4,false,1),(5,false,1),(6,false,1),(7,false,1),(8,false,1),(9,false,1),(10,false,1),(11,false,1),(12,false,1),(13,false,1)]),(77,[(0,true,5),(5,false,1),(6,false,1),(7,false,1),(8,false,1)]),(81,[(0,true,9),(9,false,1)]),(87,[(0,false,1),(1,false,1),(2,false,1)]),(94,[(0,true,5),(5,false,1),(6,false,1)]),(101,[(0,true,2),(2,true,5),(7,true,7),(14,false,1)]),(103,[(0,false,1),(1,false,1),(2,false,1)]),(109,[(0,false,1),(1,false,1),(2,false,1),(3,true,3)]),(113,[(0,false,1)]),(122,[(0,false,1),(1,true,3)]),(128,[(0,false,1),(1,false,1),(2,false,1)]),(131,[(0,false,1),(1,false,1)]),(135,[(0,false,1),(1,false,1)]),(147,[(0,false,1),(1,false,1),(2,false,1),(3,false,1),(4,false,1),(5,false,1),(6,false,1)]),(149,[(0,false,1),(1,true,2),(3,false,1)]),(151,[(0,true,2),(2,true,2)]),(183,[(0,true,5),(5,true,7),(12,true,14),(26,true,3),(29,false,1),(30,false,1),(31,false,1),(32,false,1)]),(199,[(0,true,6),(6,false,1)]),(242,[(0,false,1)]),(243,[(0,false,1)]),(244,[(0,false,1)]),(245,[(0,false,1)]),(253,[(0,false,1),(1,false,1),(2,false,1)]),(257,[(0,false,1),(1,false,1),(2,false,1),(3,false,1)])]
 sel:=[(22,9,1,16),(23,147,7,64),(24,151,4,32),(25,149,4,40),(26,253,3,24),(29,60,7,168),(30,71,14,264),(31,3,1,8),(39,109,6,64),(44,122,4,56),(47,103,3,24),(51,4,1,1),(67,128,3,24),(68,131,2,16),(69,135,2,16),(85,87,3,40),(175,176,1,24),(176,232,2,16),(197,67,1,24),(221,31,1,24),(247,22,1,24),(284,68,1,24)]
 str:=[(9,())]
 boo:=[(4,())]
 con:=[(242,()),(243,()),(244,()),(245,()),(262,()),(291,())]
theorem TK:TabOk TP qXS:=tabB_ok aZ
section
variable {n k:Nat}{w:World}{g:Gh}{mv:Nat->Bool}{x y:Code}{ops ops':Array Oper}{l l':List Oper}{e e':Exit}{fr fr':Fr}{hp hp':List Blk}{ks kt:List Kt}{Q:Exit->St->Prop}
theorem cD(j:Nat)(h:run qXS n j (.kc x fr hp [])=.kc y fr' hp' kt)(hk:TWp ⟨TP,n,w,k,g,mv⟩ y ⟨fr',hp'⟩ (post ⟨TP,n,w,k,g,mv⟩ kt Q)):TWp ⟨TP,n,w,k,g,mv⟩ x ⟨fr,hp⟩ Q:=qo (C:=⟨TP,n,w,k,g,mv⟩) (Q:=Q) (m:=.kc x fr hp []) TK h hk
theorem aY(j:Nat)(h:run qXS n j (.kc x fr hp [])=.ko ops' l' fr' hp' kt)(hk:cP ⟨TP,n,w,k,g,mv⟩ ops' l' ⟨fr',hp'⟩ (pn ⟨TP,n,w,k,g,mv⟩ kt Q)):TWp ⟨TP,n,w,k,g,mv⟩ x ⟨fr,hp⟩ Q:=qo (C:=⟨TP,n,w,k,g,mv⟩) (Q:=Q) (m:=.kc x fr hp []) TK h hk
theorem r_px(j:Nat)(h:run qXS n j (.kc x fr hp [])=.kx e' fr' hp' kt)(hk:post ⟨TP,n,w,k,g,mv⟩ kt Q e' ⟨fr',hp'⟩):TWp ⟨TP,n,w,k,g,mv⟩ x ⟨fr,hp⟩ Q:=qo (C:=⟨TP,n,w,k,g,mv⟩) (Q:=Q) (m:=.kc x fr hp []) TK h hk
theorem cJ(j:Nat)(h:run qXS n j (.kc x fr hp ks)=.kc y fr' hp' kt)(hk:TWp ⟨TP,n,w,k,g,mv⟩ y ⟨fr',hp'⟩ (post ⟨TP,n,w,k,g,mv⟩ kt Q)):TWp ⟨TP,n,w,k,g,mv⟩ x ⟨fr,hp⟩ (post ⟨TP,n,w,k,g,mv⟩ ks Q):=qo (C:=⟨TP,n,w,k,g,mv⟩) (Q:=Q) (m:=.kc x fr hp ks) TK h hk
theorem aO(j:Nat)(h:run qXS n j (.kc x fr hp ks)=.ko ops' l' fr' hp' kt)(hk:cP ⟨TP,n,w,k,g,mv⟩ ops' l' ⟨fr',hp'⟩ (pn ⟨TP,n,w,k,g,mv⟩ kt Q)):TWp ⟨TP,n,w,k,g,mv⟩ x ⟨fr,hp⟩ (post ⟨TP,n,w,k,g,mv⟩ ks Q):=qo (C:=⟨TP,n,w,k,g,mv⟩) (Q:=Q) (m:=.kc x fr hp ks) TK h hk
theorem aQ(j:Nat)(h:run qXS n j (.kc x fr hp ks)=.kx e' fr' hp' kt)(hk:post ⟨TP,n,w,k,g,mv⟩ kt Q e' ⟨fr',hp'⟩):TWp ⟨TP,n,w,k,g,mv⟩ x ⟨fr,hp⟩ (post ⟨TP,n,w,k,g,mv⟩ ks Q):=qo (C:=⟨TP,n,w,k,g,mv⟩) (Q:=Q) (m:=.kc x fr hp ks) TK h hk
theorem aJ(j:Nat)(h:run qXS n j (.ko ops l fr hp ks)=.kc y fr' hp' kt)(hk:TWp ⟨TP,n,w,k,g,mv⟩ y ⟨fr',hp'⟩ (post ⟨TP,n,w,k,g,mv⟩ kt Q)):cP ⟨TP,n,w,k,g,mv⟩ ops l ⟨fr,hp⟩ (pn ⟨TP,n,w,k,g,mv⟩ ks Q):=qo (C:=⟨TP,n,w,k,g,mv⟩) (Q:=Q) (m:=.ko ops l fr hp ks) TK h hk
theorem aM(j:Nat)(h:run qXS n j (.ko ops l fr hp ks)=.ko ops' l' fr' hp' kt)(hk:cP ⟨TP,n,w,k,g,mv⟩ ops' l' ⟨fr',hp'⟩ (pn ⟨TP,n,w,k,g,mv⟩ kt Q)):cP ⟨TP,n,w,k,g,mv⟩ ops l ⟨fr,hp⟩ (pn ⟨TP,n,w,k,g,mv⟩ ks Q):=qo (C:=⟨TP,n,w,k,g,mv⟩) (Q:=Q) (m:=.ko ops l fr hp ks) TK h hk
theorem aL(j:Nat)(h:run qXS n j (.ko ops l fr hp ks)=.kx e' fr' hp' kt)(hk:post ⟨TP,n,w,k,g,mv⟩ kt Q e' ⟨fr',hp'⟩):cP ⟨TP,n,w,k,g,mv⟩ ops l ⟨fr,hp⟩ (pn ⟨TP,n,w,k,g,mv⟩ ks Q):=qo (C:=⟨TP,n,w,k,g,mv⟩) (Q:=Q) (m:=.ko ops l fr hp ks) TK h hk
theorem r_xo(j:Nat)(h:run qXS n j (.kx e fr hp ks)=.ko ops' l' fr' hp' kt)(hk:cP ⟨TP,n,w,k,g,mv⟩ ops' l' ⟨fr',hp'⟩ (pn ⟨TP,n,w,k,g,mv⟩ kt Q)):post ⟨TP,n,w,k,g,mv⟩ ks Q e ⟨fr,hp⟩:=qo (C:=⟨TP,n,w,k,g,mv⟩) (Q:=Q) (m:=.kx e fr hp ks) TK h hk
theorem bV(j:Nat)(h:run qXS n j (.kx e fr hp ks)=.kx e' fr' hp' kt)(hk:post ⟨TP,n,w,k,g,mv⟩ kt Q e' ⟨fr',hp'⟩):post ⟨TP,n,w,k,g,mv⟩ ks Q e ⟨fr,hp⟩:=qo (C:=⟨TP,n,w,k,g,mv⟩) (Q:=Q) (m:=.kx e fr hp ks) TK h hk
end
theorem qTS:qNC TP 228=some (24,1):=aZ
theorem Lt:qNC TP 232=some (2,1):=aZ
theorem qTJ:Nt TP 242=true:=aZ
theorem qTI:Nt TP 243=true:=aZ
theorem qTH:Nt TP 244=true:=aZ
theorem qTG:Nt TP 245=true:=aZ
theorem qSX:(TP.keyTypeAt 30 131&&!TP.eqGuardType TP.depth 131&&(match TP.underlying 131 with|some (.struct _)=>true|_=>false)&&[TypeDesc.int .i64,TypeDesc.int .i64].length == TP.cellsOf 131)=true:=aZ
theorem keyt135:(TP.keyTypeAt 30 135&&!TP.eqGuardType TP.depth 135&&(match TP.underlying 135 with|some (.struct _)=>true|_=>false)&&[TypeDesc.int .i64,TypeDesc.int .i64].length == TP.cellsOf 135)=true:=aZ
theorem keytA232:(TP.keyTypeAt 30 232&&!TP.eqGuardType TP.depth 232)=true:=aZ
theorem qLI:Dl TP 30 131=some [.int .i64,.int .i64]:=aZ
theorem kinds135:Dl TP 30 135=some [.int .i64,.int .i64]:=aZ
theorem qWM:X6 TP 232=some (List.replicate 2 (TypeDesc.int .i64)):=aZ
theorem lay257:lay TP 257=some (true,4):=aZ
theorem lay258:lay TP 258=some (true,40):=aZ
theorem lay3:lay TP 3=some (false,1):=aZ
theorem lay31:lay TP 31=some (false,1):=aZ
theorem lay67:lay TP 67=some (false,1):=aZ
theorem lay68:lay TP 68=some (false,1):=aZ
theorem lay9:lay TP 9=some (false,1):=aZ
theorem qGK:Vh TP 173=some (9,.string,4):=aZ
theorem Cr:Vh TP 191=some (135,(TP.underlying 135).getD .bool,135):=aZ
theorem qGJ:Vh TP 219=some (3,.int .i64,4):=aZ
theorem qKP:Vh TP 92=some (9,.string,3):=aZ
theorem plc101:Gt TP 101=some [(0,2),(2,5),(7,7),(14,1)]:=aZ
theorem wH:Gt TP 103=some [(0,1),(1,1),(2,1)]:=aZ
theorem qPH:Gt TP 109=some [(0,1),(1,1),(2,1),(3,3)]:=aZ
theorem plc113:Gt TP 113=some [(0,1)]:=aZ
theorem plc122:Gt TP 122=some [(0,1),(1,3)]:=aZ
theorem plc128:Gt TP 128=some [(0,1),(1,1),(2,1)]:=aZ
theorem Cj:Gt TP 131=some [(0,1),(1,1)]:=aZ
theorem bm:Gt TP 135=some [(0,1),(1,1)]:=aZ
theorem plc147:Gt TP 147=some [(0,1),(1,1),(2,1),(3,1),(4,1),(5,1),(6,1)]:=aZ
theorem qPG:Gt TP 149=some [(0,1),(1,2),(3,1)]:=aZ
theorem plc151:Gt TP 151=some [(0,2),(2,2)]:=aZ
theorem qFR:Gt TP 183=some [(0,5),(5,7),(12,14),(26,3),(29,1),(30,1),(31,1),(32,1)]:=aZ
theorem plc199:Gt TP 199=some [(0,6),(6,1)]:=aZ
theorem plc242:Gt TP 242=some [(0,1)]:=aZ
theorem plc243:Gt TP 243=some [(0,1)]:=aZ
theorem plc244:Gt TP 244=some [(0,1)]:=aZ
theorem plc245:Gt TP 245=some [(0,1)]:=aZ
theorem qFQ:Gt TP 262=some [(0,2)]:=aZ
theorem plc28:Gt TP 28=some [(0,1),(1,1),(2,1),(3,1),(4,1),(5,1)]:=aZ
theorem plc291:Gt TP 291=some [(0,1)]:=aZ
theorem plc33:Gt TP 33=some [(0,1),(1,1),(2,1),(3,1),(4,1)]:=aZ
theorem plc41:Gt TP 41=some [(0,1),(1,1),(2,1)]:=aZ
theorem plc49:Gt TP 49=some [(0,1),(1,1)]:=aZ
theorem qJZ:Gt TP 53=some [(0,1),(1,1),(2,1)]:=aZ
theorem plc56:Gt TP 56=some [(0,1),(1,1),(2,1)]:=aZ
theorem plc60:Gt TP 60=some [(0,1),(1,1),(2,1),(3,1),(4,1),(5,1),(6,1)]:=aZ
theorem plc71:Gt TP 71=some [(0,1),(1,1),(2,1),(3,1),(4,1),(5,1),(6,1),(7,1),(8,1),(9,1),(10,1),(11,1),(12,1),(13,1)]:=aZ
theorem plc77:Gt TP 77=some [(0,5),(5,1),(6,1),(7,1),(8,1)]:=aZ
theorem plc81:Gt TP 81=some [(0,9),(9,1)]:=aZ
theorem Ob:Gt TP 87=some [(0,1),(1,1),(2,1)]:=aZ
theorem plc94:Gt TP 94=some [(0,5),(5,1),(6,1)]:=aZ
theorem Em:sel TP 197=some (67,1,24):=aZ
theorem El:sel TP 221=some (31,1,24):=aZ
theorem Ek:sel TP 284=some (68,1,24):=aZ
theorem H2:sel TP 31=some (3,1,8):=aZ
theorem H1:sel TP 67=some (128,3,24):=aZ
theorem H0:sel TP 68=some (131,2,16):=aZ
theorem gw:SKey TP 135 [.int .i64,.int .i64]:=sKey 3 aP aZ aZ
theorem qRH:(TP.info? 101).bind (·.zero)=Option.some (Go.Value.agg #[Go.Value.slice Option.none 0 0,Go.Value.slice Option.none 0 0,Go.Value.slice Option.none 0 0,Go.Value.slice Option.none 0 0,Go.Value.slice Option.none 0 0,Go.Value.int Go.IntKind.i64 0,Go.Value.int Go.IntKind.i64 0,Go.Value.slice Option.none 0 0,Go.Value.slice Option.none 0 0,Go.Value.slice Option.none 0 0,Go.Value.slice Option.none 0 0,Go.Value.slice Option.none 0 0,Go.Value.slice Option.none 0 0,Go.Value.slice Option.none 0 0,Go.Value.slice Option.none 0 0]):=aZ
theorem jS:(TP.info? 103).bind (·.zero)=Option.some (Go.Value.agg #[Go.Value.int Go.IntKind.i64 0,Go.Value.int Go.IntKind.i64 0,Go.Value.int Go.IntKind.i64 0]):=aZ
theorem vH:(TP.info? 109).bind (·.zero)=Option.some (Go.Value.agg #[Go.Value.int Go.IntKind.i64 0,Go.Value.int Go.IntKind.i64 0,Go.Value.int Go.IntKind.i64 0,Go.Value.int Go.IntKind.i64 0,Go.Value.int Go.IntKind.i64 0,Go.Value.slice Option.none 0 0]):=aZ
theorem qDG:(TP.info? 113).bind (·.zero)=Option.some (Go.Value.agg #[Go.Value.nilFunc]):=aZ
theorem Qw:(TP.info? 122).bind (·.zero)=Option.some (Go.Value.agg #[Go.Value.string { data:=#[] },Go.Value.int Go.IntKind.i64 0,Go.Value.int Go.IntKind.i64 0,Go.Value.slice Option.none 0 0]):=aZ
theorem mI:(TP.info? 128).bind (·.zero)=Option.some (Go.Value.agg #[Go.Value.int Go.IntKind.i64 0,Go.Value.int Go.IntKind.i64 0,Go.Value.int Go.IntKind.i64 0]):=aZ
theorem fB:(TP.info? 131).bind (·.zero)=Option.some (Go.Value.agg #[Go.Value.int Go.IntKind.i64 0,Go.Value.int Go.IntKind.i64 0]):=aZ
theorem fH:(TP.info? 135).bind (·.zero)=Option.some (Go.Value.agg #[Go.Value.int Go.IntKind.i64 0,Go.Value.int Go.IntKind.i64 0]):=aZ
theorem Ba:(TP.info? 147).bind (·.zero)=Option.some (Go.Value.agg #[Go.Value.string { data:=#[] },Go.Value.int Go.IntKind.i64 0,Go.Value.int Go.IntKind.i64 0,Go.Value.int Go.IntKind.i64 0,Go.Value.int Go.IntKind.i64 0,Go.Value.int Go.IntKind.i64 0,Go.Value.int Go.IntKind.i64 0]):=aZ
theorem wV:(TP.info? 149).bind (·.zero)=Option.some (Go.Value.agg #[Go.Value.string { data:=#[] },Go.Value.int Go.IntKind.i64 0,Go.Value.int Go.IntKind.i64 0,Go.Value.int Go.IntKind.i64 0]):=aZ
theorem wu:(TP.info? 151).bind (·.zero)=Option.some (Go.Value.agg #[Go.Value.int Go.IntKind.i64 0,Go.Value.int Go.IntKind.i64 0,Go.Value.int Go.IntKind.i64 0,Go.Value.int Go.IntKind.i64 0]):=aZ
theorem qRG:(TP.info? 167).bind (·.zero)=Option.some (Go.Value.agg #[Go.Value.string { data:=#[] },Go.Value.string { data:=#[] },Go.Value.string { data:=#[] },Go.Value.string { data:=#[] }]):=aZ
theorem qRF:(TP.info? 176).bind (·.zero)=Option.some (Go.Value.slice Option.none 0 0):=aZ
theorem wt:(TP.info? 183).bind (·.zero)=Option.some (Go.Value.agg #[Go.Value.slice Option.none 0 0,Go.Value.slice Option.none 0 0,Go.Value.slice Option.none 0 0,Go.Value.int Go.IntKind.i64 0,Go.Value.int Go.IntKind.i64 0,Go.Value.slice Option.none 0 0,Go.Value.slice Option.none 0 0,Go.Value.slice Option.none 0 0,Go.Value.slice Option.none 0 0,Go.Value.slice Option.none 0 0,Go.Value.slice Option.none 0 0,Go.Value.slice Option.none 0 0,Go.Value.string { data:=#[] },Go.Value.int Go.IntKind.i64 0,Go.Value.int Go.IntKind.i64 0,Go.Value.slice Option.none 0 0,Go.Value.slice Option.none 0 0,Go.Value.slice Option.none 0 0,Go.Value.int Go.IntKind.i64 0,Go.Value.int Go.IntKind.i64 0,Go.Value.slice Option.none 0 0,Go.Value.slice Option.none 0 0,Go.Value.slice Option.none 0 0,Go.Value.slice Option.none 0 0,Go.Value.slice Option.none 0 0,Go.Value.slice Option.none 0 0,Go.Value.int Go.IntKind.i64 0,Go.Value.int Go.IntKind.i64 0,Go.Value.int Go.IntKind.i64 0,Go.Value.bool Bool.false,Go.Value.bool Bool.false,Go.Value.bool Bool.false,Go.Value.bool Bool.false]):=aZ
theorem qRE:(TP.info? 199).bind (·.zero)=Option.some (Go.Value.agg #[Go.Value.string { data:=#[] },Go.Value.slice Option.none 0 0,Go.Value.slice Option.none 0 0,Go.Value.slice Option.none 0 0,Go.Value.slice Option.none 0 0,Go.Value.slice Option.none 0 0,Go.Value.slice Option.none 0 0]):=aZ
theorem zero22:(TP.info? 22).bind (·.zero)=Option.some (Go.Value.slice Option.none 0 0):=aZ
theorem zero228:(TP.info? 228).bind (·.zero)=Option.some (Go.Value.agg #[Go.Value.bool Bool.false,Go.Value.bool Bool.false,Go.Value.bool Bool.false,Go.Value.bool Bool.false,Go.Value.bool Bool.false,Go.Value.bool Bool.false,Go.Value.bool Bool.false,Go.Value.bool Bool.false,Go.Value.bool Bool.false,Go.Value.bool Bool.false,Go.Value.bool Bool.false,Go.Value.bool Bool.false,Go.Value.bool Bool.false,Go.Value.bool Bool.false,Go.Value.bool Bool.false,Go.Value.bool Bool.false,Go.Value.bool Bool.false,Go.Value.bool Bool.false,Go.Value.bool Bool.false,Go.Value.bool Bool.false,Go.Value.bool Bool.false,Go.Value.bool Bool.false,Go.Value.bool Bool.false,Go.Value.bool Bool.false]):=aZ
theorem cd:(TP.info? 232).bind (·.zero)=Option.some (Go.Value.agg #[Go.Value.int Go.IntKind.i64 0,Go.Value.int Go.IntKind.i64 0]):=aZ
theorem qDF:(TP.info? 242).bind (·.zero)=Option.some (Go.Value.agg #[Go.Value.pointer Option.none]):=aZ
theorem qDE:(TP.info? 243).bind (·.zero)=Option.some (Go.Value.agg #[Go.Value.pointer Option.none]):=aZ
theorem qDD:(TP.info? 244).bind (·.zero)=Option.some (Go.Value.agg #[Go.Value.pointer Option.none]):=aZ
theorem qDC:(TP.info? 245).bind (·.zero)=Option.some (Go.Value.agg #[Go.Value.pointer Option.none]):=aZ
theorem qRD:(TP.info? 253).bind (·.zero)=Option.some (Go.Value.agg #[Go.Value.int Go.IntKind.i64 0,Go.Value.int Go.IntKind.i64 0,Go.Value.int Go.IntKind.i64 0]):=aZ
theorem qRC:(TP.info? 257).bind (·.zero)=Option.some (Go.Value.agg #[Go.Value.int Go.IntKind.i64 0,Go.Value.int Go.IntKind.i64 0,Go.Value.int Go.IntKind.i64 0,Go.Value.int Go.IntKind.i64 0]):=aZ
theorem Qv:(TP.info? 262).bind (·.zero)=Option.some (Go.Value.agg #[Go.Value.int Go.IntKind.i64 0,Go.Value.int Go.IntKind.i64 0]):=aZ
theorem qNJ:(TP.info? 28).bind (·.zero)=Option.some (Go.Value.agg #[Go.Value.string { data:=#[] },Go.Value.slice Option.none 0 0,Go.Value.slice Option.none 0 0,Go.Value.slice Option.none 0 0,Go.Value.slice Option.none 0 0,Go.Value.slice Option.none 0 0]):=aZ
theorem qRB:(TP.info? 291).bind (·.zero)=Option.some (Go.Value.agg #[Go.Value.pointer Option.none]):=aZ
theorem gG:(TP.info? 3).bind (·.zero)=Option.some (Go.Value.int Go.IntKind.i64 0):=aZ
theorem L7:(TP.info? 31).bind (·.zero)=Option.some (Go.Value.slice Option.none 0 0):=aZ
theorem L6:(TP.info? 33).bind (·.zero)=Option.some (Go.Value.agg #[Go.Value.slice Option.none 0 0,Go.Value.slice Option.none 0 0,Go.Value.slice Option.none 0 0,Go.Value.int Go.IntKind.i64 0,Go.Value.int Go.IntKind.i64 0]):=aZ
theorem uQ:(TP.info? 4).bind (·.zero)=Option.some (Go.Value.bool Bool.false):=aZ
theorem L1:(TP.info? 41).bind (·.zero)=Option.some (Go.Value.agg #[Go.Value.slice Option.none 0 0,Go.Value.int Go.IntKind.i64 0,Go.Value.slice Option.none 0 0]):=aZ
theorem z8:(TP.info? 49).bind (·.zero)=Option.some (Go.Value.agg #[Go.Value.slice Option.none 0 0,Go.Value.slice Option.none 0 0]):=aZ
theorem ba:(TP.info? 53).bind (·.zero)=Option.some (Go.Value.agg #[Go.Value.slice Option.none 0 0,Go.Value.slice Option.none 0 0,Go.Value.bool Bool.false]):=aZ
theorem Vv:(TP.info? 56).bind (·.zero)=Option.some (Go.Value.agg #[Go.Value.slice Option.none 0 0,Go.Value.slice Option.none 0 0,Go.Value.slice Option.none 0 0]):=aZ
theorem zero60:(TP.info? 60).bind (·.zero)=Option.some (Go.Value.agg #[Go.Value.slice Option.none 0 0,Go.Value.slice Option.none 0 0,Go.Value.slice Option.none 0 0,Go.Value.slice Option.none 0 0,Go.Value.slice Option.none 0 0,Go.Value.slice Option.none 0 0,Go.Value.slice Option.none 0 0]):=aZ
theorem qDB:(TP.info? 67).bind (·.zero)=Option.some (Go.Value.slice Option.none 0 0):=aZ
theorem zero68:(TP.info? 68).bind (·.zero)=Option.some (Go.Value.slice Option.none 0 0):=aZ
theorem kE:(TP.info? 71).bind (·.zero)=Option.some (Go.Value.agg #[Go.Value.string { data:=#[] },Go.Value.int Go.IntKind.i64 0,Go.Value.int Go.IntKind.i64 0,Go.Value.slice Option.none 0 0,Go.Value.slice Option.none 0 0,Go.Value.slice Option.none 0 0,Go.Value.int Go.IntKind.i64 0,Go.Value.int Go.IntKind.i64 0,Go.Value.slice Option.none 0 0,Go.Value.slice Option.none 0 0,Go.Value.slice Option.none 0 0,Go.Value.slice Option.none 0 0,Go.Value.slice Option.none 0 0,Go.Value.slice Option.none 0 0]):=aZ
theorem Ii:(TP.info? 77).bind (·.zero)=Option.some (Go.Value.agg #[Go.Value.slice Option.none 0 0,Go.Value.slice Option.none 0 0,Go.Value.slice Option.none 0 0,Go.Value.int Go.IntKind.i64 0,Go.Value.int Go.IntKind.i64 0,Go.Value.int Go.IntKind.i64 0,Go.Value.slice Option.none 0 0,Go.Value.int Go.IntKind.i64 0,Go.Value.int Go.IntKind.i64 0]):=aZ
theorem zero81:(TP.info? 81).bind (·.zero)=Option.some (Go.Value.agg #[Go.Value.slice Option.none 0 0,Go.Value.slice Option.none 0 0,Go.Value.slice Option.none 0 0,Go.Value.int Go.IntKind.i64 0,Go.Value.int Go.IntKind.i64 0,Go.Value.int Go.IntKind.i64 0,Go.Value.slice Option.none 0 0,Go.Value.int Go.IntKind.i64 0,Go.Value.int Go.IntKind.i64 0,Go.Value.slice Option.none 0 0]):=aZ
theorem bS:(TP.info? 87).bind (·.zero)=Option.some (Go.Value.agg #[Go.Value.int Go.IntKind.i64 0,Go.Value.int Go.IntKind.i64 0,Go.Value.slice Option.none 0 0]):=aZ
theorem zT:(TP.info? 9).bind (·.zero)=Option.some (Go.Value.string { data:=#[] }):=aZ
theorem zero94:(TP.info? 94).bind (·.zero)=Option.some (Go.Value.agg #[Go.Value.slice Option.none 0 0,Go.Value.slice Option.none 0 0,Go.Value.slice Option.none 0 0,Go.Value.int Go.IntKind.i64 0,Go.Value.int Go.IntKind.i64 0,Go.Value.map Option.none,Go.Value.slice Option.none 0 0]):=aZ
theorem plcA167:plcA TP 167=some [(0,1),(1,1),(2,1),(3,1)]:=aZ
theorem qFP:plcA TP 232=some [(0,1),(1,1)]:=aZ
variable {a b:Operand}{ev:Operand->AV}{g:Gh}{hp:List Blk}{k n:Nat}{mv:Nat->Bool}{o:Oper}{t':TypeId}{w:World}{x y:Ac}
theorem Zj(ho:o.op=.binOp .eql 131 a b t')(hx:ev a=.d x.enc)(hy:ev b=.d y.enc)(h1:x.ok)(h2:y.ok):RdOk ⟨TP,n,w,k,g,mv⟩ o ev hp (.d (.bool (decide (x=y)))):=eq_yes ho hx hy qLI qSX rfl rfl ⟨⟨rfl,h1.1⟩,⟨rfl,h1.2⟩,trivial⟩ ⟨⟨rfl,h2.1⟩,⟨rfl,h2.2⟩,trivial⟩ (Lz x y)
theorem Jm(ho:o.op=.binOp .neq 131 a b t')(hx:ev a=.d x.enc)(hy:ev b=.d y.enc)(h1:x.ok)(h2:y.ok):RdOk ⟨TP,n,w,k,g,mv⟩ o ev hp (.d (.bool (!decide (x=y)))):=eq_not ho hx hy qLI qSX rfl rfl ⟨⟨rfl,h1.1⟩,⟨rfl,h1.2⟩,trivial⟩ ⟨⟨rfl,h2.1⟩,⟨rfl,h2.2⟩,trivial⟩ (Lz x y)
theorem Zq{x y:End}(ho:o.op=.binOp .eql 135 a b t')(hx:ev a=.d x.enc)(hy:ev b=.d y.enc)(h1:x.ok)(h2:y.ok):RdOk ⟨TP,n,w,k,g,mv⟩ o ev hp (.d (.bool (decide (x=y)))):=eq_yes ho hx hy kinds135 keyt135 rfl rfl ⟨⟨rfl,h1.1⟩,⟨rfl,h1.2⟩,trivial⟩ ⟨⟨rfl,h2.1⟩,⟨rfl,h2.2⟩,trivial⟩ (End_lits x y)
theorem qXR{x y:Ax}(ho:o.op=.binOp .eql 232 a b t')(hx:ev a=.d x.enc)(hy:ev b=.d y.enc)(h1:x.ok)(h2:y.ok):RdOk ⟨TP,n,w,k,g,mv⟩ o ev hp (.d (.bool (decide (x=y)))):=eqA_yes ho hx hy qWM keytA232 rfl rfl ⟨⟨rfl,h1.1⟩,⟨rfl,h1.2⟩,trivial⟩ ⟨⟨rfl,h2.1⟩,⟨rfl,h2.2⟩,trivial⟩ (qNH x y)
theorem ke:KeyG [.int .i64,.int .i64] End.enc End.okb:=⟨λx h=>by
 have h:End.ok x:=of_decide_eq_true h
 exact⟨_,[.int .i64 x.el,.int .i64 x.side],rfl,rfl,⟨⟨rfl,h.1⟩,⟨rfl,h.2⟩,trivial⟩⟩,λa b h=>by
 cases a;cases b;simpa[End.enc]using h⟩
abbrev tcA(t:Ah)(r:List AV):List AV:=.d (.sl 14 (t.Ab.map Aj.enc))::.d (.sl 1 (t.Af.map (D.int .i64)))::.d (.sl 1 (t.A9.map (D.int .i64)))::.d (.int .i64 t.Aa)::.d (.int .i64 t.Al)::r
abbrev z6(t:Ah)(m i n:Nat):Blk:=.box 94 (tcA t [.mmap m,.msl i 4 0 n])
abbrev gi(p:A5)(i n:Nat):Blk:=.box 81 (tcA p.t [.d (.int .i64 p.inputs),.d (.sl 1 (p.Pj.map (D.int .i64))),.d (.int .i64 p.extra),.d (.int .i64 p.count),.msl i 6 0 n])
abbrev bxF(l:Ar)(i n:Nat):Blk:=.box 199 [.d (.str l.name),.d (.sl 1 (l.Aa.map D.str)),.d (.sl 7 (l.Ap.map A7.enc)),.d (.sl 4 (l.joints.map Pb.enc)),.d (.sl 4 (l.Al.map Fd.enc)),.d (.sl 3 (l.balises.map Pa.enc)),.msl i 1 0 n]
end Go.Proofs.YtandcfplaooadaaGreatDoor
set_option maxHeartbeats 1000000
set_option maxRecDepth 100000
namespace Go.Proofs.YtandcfplaooadaaGreatDoor
open Go Go.TL Go.Lib
theorem ldN : TP.globalNamed "signalling/rail.passages" = some 0 := by kernel_rfl
theorem ldY:(TP.globals[0]?).map (·.type)=some 258:=aZ
theorem ldNs : TP.globalNamed "signalling/rail.sides" = some 1 := by kernel_rfl
theorem ldYs:(TP.globals[1]?).map (·.type)=some 259:=aZ
theorem ldNp : TP.globalNamed "internal/strconv.uint64pow10" = some 2 := by kernel_rfl
theorem ldYp:(TP.globals[2]?).map (·.type)=some 311:=aZ
theorem ldCA:TP.cellsOf 258=40:=aZ
theorem ldCS:TP.cellsOf 257=4:=aZ
theorem ldC3:TP.cellsOf 3=1:=aZ
theorem ldCs:TP.cellsOf 259=4:=aZ
theorem ldCp:TP.cellsOf 311=20:=aZ
theorem ldCu:TP.cellsOf 275=1:=aZ
def passZ:List (List Int):=[[1,0,1,0],[1,1,0,0],[2,0,1,1],[2,0,2,2],[2,1,0,1],[2,2,0,2],[3,0,1,0],[3,1,0,0],[3,2,3,0],[3,3,2,0]]
theorem passZ_at:∀m:Fin 40,(passZ.getD (m.val/4) [])[m.val%4]?=passZ.flatten[m.val]?:=aP
theorem datum:(Rows.laid_signalling_rail_passages:DataW _root_.Unit)=.agg (passZ.map λr=>.agg (r.map λz=>.lit (.int .i64 z))):=rfl
def powZ:List Int:=[1,10,100,1000,10000,100000,1000000,10000000,100000000,1000000000,10000000000,100000000000,1000000000000,10000000000000,100000000000000,1000000000000000,10000000000000000,100000000000000000,1000000000000000000,10000000000000000000]
theorem datumS:(Rows.laid_signalling_rail_sides:DataW _root_.Unit)=tabData .i64 [0,2,3,4]:=rfl
theorem datumP:(Rows.laid_internal_strconv_uint64pow10:DataW _root_.Unit)=tabData .u64 powZ:=rfl
variable {W:Go.World}{cs:Array Value}
theorem Wo{n:String}{g:Nat}(hn:TP.globalNamed n=some g)(h:W.var? TP n=some cs):∃t fz,W.heap[g]?=some (.cells cs t fz):=by unfold World.var? at h;rw[hn]at h;simp only[Option.bind_some]at h;split at h;rename_i cs' t fz hh;cases h;exact⟨t,fz,hh⟩;cases h
theorem qPJ{fuel:Nat}{p:List MemPlace}(hd:DataW.trod (λ_=>()) TP W 0 (λ_=>true) false fuel 258 cs.toList=some (Rows.laid_signalling_rail_passages,p)):cs.toList=passZ.flatten.map λz=>Value.int .i64 z:=by rw[datum]at hd;have hlen:cs.toList.length=40:=(by cases fuel with|zero=>simp[DataW.trod]at hd|succ fuel=>simp only[DataW.trod,Tryz.underlying258]at hd;split at hd;rename_i e;rw[e];exact ldCA;cases hd);have hrow:∀i,i<10->∀zs,passZ[i]?=some zs->(cs.toList.drop (i*4)).take 4=zs.map λz=>Value.int .i64 z:=λi hi zs hz=>(by obtain⟨fuel',d,q,hdi,he⟩:=array_elem Tryz.underlying258 hd i hi;rw[vV,hz]at hdi;cases hdi;rw[ldCS]at he;exact ints_of_struct Tryz.underlying257 (λj f hj=>by match j,hj with|0,hj=>cases hj;exact⟨Tryz.underlying3,rfl,ldC3⟩|1,hj=>cases hj;exact⟨Tryz.underlying3,rfl,ldC3⟩|2,hj=>cases hj;exact⟨Tryz.underlying3,rfl,ldC3⟩|3,hj=>cases hj;exact⟨Tryz.underlying3,rfl,ldC3⟩|j+4,hj=>simp at hj) (by rw[ldCS];rfl) he);apply uS;intro m;by_cases hm:m<40;have hi:m/4<10:=aB;have hz:passZ[m/4]?=some (passZ.getD (m/4) []):=(by rw[fx,iG (show m/4<passZ.length from hi)];rfl);have h1:=congrArg (·[m%4]?) (hrow (m/4) hi _ hz);simp only[sI,if_pos (Nat.mod_lt m (show 0<4 by decide)),nC]at h1;rw[show m/4*4+m%4=m by omega]at h1;rw[h1];rw[vV,vV,passZ_at ⟨m,hm⟩];rw[zLn,nB (by simp only[yt];show 40<=m;omega)]
theorem qWJ(W:Go.World)(h:laidMetH TP Rows.topMachineRow.laid W):qNG W (hU λb=>b<W.heap.size):=by
 have h:laidMet TP Rows.topMachineRow.laid W:=h
 obtain ⟨g, t, cs, fuel, p, hg, hty, hvar, hd⟩ := laidMet.reads h (n := "signalling/rail.passages") (d := Rows.laid_signalling_rail_passages) (.tail _ (.tail _ (.tail _ (.tail _ (.head _)))));obtain rfl:=bO (ldN.symm.trans hg);obtain rfl:=bO (ldY.symm.trans hty);have h0:=qPJ hd
 obtain ⟨g1, t1, cs1, fuel1, p1, hg1, hty1, hvar1, hd1⟩ := laidMet.reads h (n := "signalling/rail.sides") (d := Rows.laid_signalling_rail_sides) (.tail _ (.tail _ (.tail _ (.head _))));obtain rfl:=bO (ldNs.symm.trans hg1);obtain rfl:=bO (ldYs.symm.trans hty1);have h1:=cells_of_tab Tryz.underlying259 Tryz.underlying3 ldC3 ldCs (datumS ▸ hd1)
 obtain ⟨g2, t2, cs2, fuel2, p2, hg2, hty2, hvar2, hd2⟩ := laidMet.reads h (n := "internal/strconv.uint64pow10") (d := Rows.laid_internal_strconv_uint64pow10) (.tail _ (.tail _ (.head _)));obtain rfl:=bO (ldNp.symm.trans hg2);obtain rfl:=bO (ldYp.symm.trans hty2);have h2:=cells_of_tab Tryz.underlying311 Tryz.underlying275 ldCu ldCp (datumP ▸ hd2);obtain⟨t0',z0,e0⟩:=Wo ldN hvar;obtain⟨t1',z1,e1⟩:=Wo ldNs hvar1;obtain⟨t2',z2,e2⟩:=Wo ldNp hvar2;have fin:∀{cs:Array Value}{l:List Value},cs.toList=l->cs=l.toArray:=λh=>Array.toList_inj.1 (by rw[h]);intro x hx;simp only[Gz,zQB,eE,or_false]at hx;rcases hx with rfl|rfl|rfl
 exact⟨⟨t0',z0,by rw[e0,fin h0];rfl⟩,λi hp=>by simp[hU]at hp⟩;exact⟨⟨t1',z1,by rw[e1,fin h1];rfl⟩,λi hp=>by simp[hU]at hp⟩;exact⟨⟨t2',z2,by rw[e2,fin h2];rfl⟩,λi hp=>by simp[hU]at hp⟩
end Go.Proofs.YtandcfplaooadaaGreatDoor
set_option maxHeartbeats 8000000
set_option linter.unusedSimpArgs false
set_option linter.unusedVariables false
set_option maxRecDepth 20000
namespace Go.Proofs.YtandcfplaooadaaGreatDoor
open Go Go.TL
variable {cs:List D}{i n:Nat}{p:Prop}{α β:Type}{k:Option α}{l:List α}
theorem HasTy.fld{P:Go.Program}{fs:Array Field}(h2:∀(i:Nat)(f:Field),fs[i]?=some f->HasTy P f.type ((cs.drop f.offset).take (P.cellsOf f.type))){off:Nat}{f:Field}{t:TypeId}(hf:fs[i]?=some f)(ht:f.type=t)(ho:f.offset=off)(hc:P.cellsOf t=n):HasTy P t ((cs.drop off).take n):=by have:=h2 i f hf;rw[ht,ho,hc]at this;exact this
theorem ty9(cs:List D)(h:HasTy TP 9 cs):∃x:BA,(λs=>s.size<=reachBytes) x/\eI TP 9 cs=D.str x:=by obtain⟨x,rfl,w⟩:=h.str_inv Tryz.underlying9;exact⟨x,w,by simp[eI,Tryz.underlying9]⟩
theorem qHQ:TP.cellsOf 9=1:=aZ
theorem ty3(cs:List D)(h:HasTy TP 3 cs):∃x:Int,cI x/\eI TP 3 cs=(D.int .i64) x:=by obtain⟨x,rfl,w⟩:=h.int_inv Tryz.underlying3;exact⟨x,w,by simp[eI,Tryz.underlying3]⟩
theorem qMS:TP.cellsOf 147=7:=aZ
theorem xX:TP.cellsOf 3=1:=aZ
theorem qSU(h:cs.length=7):∃a0 a1 a2 a3 a4 a5 a6,cs=[a0,a1,a2,a3,a4,a5,a6]:=by match cs,h with|[a0,a1,a2,a3,a4,a5,a6],_=>exact⟨a0,a1,a2,a3,a4,a5,a6,rfl⟩
theorem ty147c(cs:List D)(h:HasTy TP 147 cs):∃x:A7,x.Wf/\cs=[.str x.name,.int .i64 x.kind,.int .i64 x.length,.int .i64 x.grade,.int .i64 x.speed,.int .i64 x.slow,.int .i64 x.A8]:=by obtain⟨h1,h2⟩:=h.struct_inv Tryz.underlying147;rw[qMS]at h1;obtain⟨a0,a1,a2,a3,a4,a5,a6,rfl⟩:=qSU h1;obtain⟨x0,e0,w0⟩:=(show HasTy TP 9 [a0]from HasTy.fld h2 (i:=0) rfl rfl rfl qHQ).str_inv Tryz.underlying9;replace e0:[a0]=[D.str x0]:=e0;simp only[jJ,and_true]at e0;obtain⟨x1,e1,w1⟩:=(show HasTy TP 3 [a1]from HasTy.fld h2 (i:=1) rfl rfl rfl xX).int_inv Tryz.underlying3;replace e1:[a1]=[D.int .i64 x1]:=e1;simp only[jJ,and_true]at e1;obtain⟨x2,e2,w2⟩:=(show HasTy TP 3 [a2]from HasTy.fld h2 (i:=2) rfl rfl rfl xX).int_inv Tryz.underlying3;replace e2:[a2]=[D.int .i64 x2]:=e2;simp only[jJ,and_true]at e2;obtain⟨x3,e3,w3⟩:=(show HasTy TP 3 [a3]from HasTy.fld h2 (i:=3) rfl rfl rfl xX).int_inv Tryz.underlying3;replace e3:[a3]=[D.int .i64 x3]:=e3;simp only[jJ,and_true]at e3;obtain⟨x4,e4,w4⟩:=(show HasTy TP 3 [a4]from HasTy.fld h2 (i:=4) rfl rfl rfl xX).int_inv Tryz.underlying3;replace e4:[a4]=[D.int .i64 x4]:=e4;simp only[jJ,and_true]at e4;obtain⟨x5,e5,w5⟩:=(show HasTy TP 3 [a5]from HasTy.fld h2 (i:=5) rfl rfl rfl xX).int_inv Tryz.underlying3;replace e5:[a5]=[D.int .i64 x5]:=e5;simp only[jJ,and_true]at e5;obtain⟨x6,e6,w6⟩:=(show HasTy TP 3 [a6]from HasTy.fld h2 (i:=6) rfl rfl rfl xX).int_inv Tryz.underlying3;replace e6:[a6]=[D.int .i64 x6]:=e6;simp only[jJ,and_true]at e6;subst e0 e1 e2 e3 e4 e5 e6;exact⟨⟨x0,x1,x2,x3,x4,x5,x6⟩,⟨w0,w1,w2,w3,w4,w5,w6⟩,rfl⟩
theorem ty147(cs:List D)(h:HasTy TP 147 cs):∃x:A7,x.Wf/\eI TP 147 cs=x.enc:=by obtain⟨x,w,rfl⟩:=ty147c cs h;exact⟨x,w,by simp[eI,Tryz.underlying147,A7.enc]⟩
theorem Lm:TP.cellsOf 135=2:=aZ
theorem len_is2(h:cs.length=2):∃a0 a1,cs=[a0,a1]:=by match cs,h with|[a0,a1],_=>exact⟨a0,a1,rfl⟩
theorem qOA(cs:List D)(h:HasTy TP 135 cs):∃x:End,x.Wf/\cs=[.int .i64 x.el,.int .i64 x.side]:=by obtain⟨h1,h2⟩:=h.struct_inv Tryz.underlying135;rw[Lm]at h1;obtain⟨a0,a1,rfl⟩:=len_is2 h1;obtain⟨x0,e0,w0⟩:=(show HasTy TP 3 [a0]from HasTy.fld h2 (i:=0) rfl rfl rfl xX).int_inv Tryz.underlying3;replace e0:[a0]=[D.int .i64 x0]:=e0;simp only[jJ,and_true]at e0;obtain⟨x1,e1,w1⟩:=(show HasTy TP 3 [a1]from HasTy.fld h2 (i:=1) rfl rfl rfl xX).int_inv Tryz.underlying3;replace e1:[a1]=[D.int .i64 x1]:=e1;simp only[jJ,and_true]at e1;subst e0 e1;exact⟨⟨x0,x1⟩,⟨w0,w1⟩,rfl⟩
theorem qMQ:TP.cellsOf 151=4:=aZ
theorem qSV(h:cs.length=4):∃a0 a1 a2 a3,cs=[a0,a1,a2,a3]:=by match cs,h with|[a0,a1,a2,a3],_=>exact⟨a0,a1,a2,a3,rfl⟩
theorem ty151c(cs:List D)(h:HasTy TP 151 cs):∃x:Pb,x.Wf/\cs=[.int .i64 x.a.el,.int .i64 x.a.side,.int .i64 x.b.el,.int .i64 x.b.side]:=by obtain⟨h1,h2⟩:=h.struct_inv Tryz.underlying151;rw[qMQ]at h1;obtain⟨a0,a1,a2,a3,rfl⟩:=qSV h1;obtain⟨x0,w0,e0⟩:=qOA _ (show HasTy TP 135 [a0,a1]from HasTy.fld h2 (i:=0) rfl rfl rfl Lm);replace e0:[a0,a1]=[D.int .i64 x0.el,D.int .i64 x0.side]:=e0;simp only[jJ,and_true]at e0;obtain⟨f0x0,f0x1⟩:=e0;obtain⟨x1,w1,e1⟩:=qOA _ (show HasTy TP 135 [a2,a3]from HasTy.fld h2 (i:=1) rfl rfl rfl Lm);replace e1:[a2,a3]=[D.int .i64 x1.el,D.int .i64 x1.side]:=e1;simp only[jJ,and_true]at e1;obtain⟨f1x0,f1x1⟩:=e1;subst f0x0 f0x1 f1x0 f1x1;exact⟨⟨x0,x1⟩,⟨w0,w1⟩,rfl⟩
theorem ty151(cs:List D)(h:HasTy TP 151 cs):∃x:Pb,x.Wf/\eI TP 151 cs=x.enc:=by obtain⟨x,w,rfl⟩:=ty151c cs h;exact⟨x,w,by simp[eI,Tryz.underlying151,Pb.enc]⟩
theorem qMR:TP.cellsOf 149=4:=aZ
theorem ty149c(cs:List D)(h:HasTy TP 149 cs):∃x:Fd,x.Wf/\cs=[.str x.name,.int .i64 x.atV.el,.int .i64 x.atV.side,.int .i64 x.overlap]:=by obtain⟨h1,h2⟩:=h.struct_inv Tryz.underlying149;rw[qMR]at h1;obtain⟨a0,a1,a2,a3,rfl⟩:=qSV h1;obtain⟨x0,e0,w0⟩:=(show HasTy TP 9 [a0]from HasTy.fld h2 (i:=0) rfl rfl rfl qHQ).str_inv Tryz.underlying9;replace e0:[a0]=[D.str x0]:=e0;simp only[jJ,and_true]at e0;obtain⟨x1,w1,e1⟩:=qOA _ (show HasTy TP 135 [a1,a2]from HasTy.fld h2 (i:=1) rfl rfl rfl Lm);replace e1:[a1,a2]=[D.int .i64 x1.el,D.int .i64 x1.side]:=e1;simp only[jJ,and_true]at e1;obtain⟨f1x0,f1x1⟩:=e1;obtain⟨x2,e2,w2⟩:=(show HasTy TP 3 [a3]from HasTy.fld h2 (i:=2) rfl rfl rfl xX).int_inv Tryz.underlying3;replace e2:[a3]=[D.int .i64 x2]:=e2;simp only[jJ,and_true]at e2;subst e0 f1x0 f1x1 e2;exact⟨⟨x0,x1,x2⟩,⟨w0,w1,w2⟩,rfl⟩
theorem ty149(cs:List D)(h:HasTy TP 149 cs):∃x:Fd,x.Wf/\eI TP 149 cs=x.enc:=by obtain⟨x,w,rfl⟩:=ty149c cs h;exact⟨x,w,by simp[eI,Tryz.underlying149,Fd.enc]⟩
theorem qMP:TP.cellsOf 253=3:=aZ
theorem len_is3(h:cs.length=3):∃a0 a1 a2,cs=[a0,a1,a2]:=by match cs,h with|[a0,a1,a2],_=>exact⟨a0,a1,a2,rfl⟩
theorem ty253c(cs:List D)(h:HasTy TP 253 cs):∃x:Pa,x.Wf/\cs=[.int .i64 x.id,.int .i64 x.el,.int .i64 x.offset]:=by obtain⟨h1,h2⟩:=h.struct_inv Tryz.underlying253;rw[qMP]at h1;obtain⟨a0,a1,a2,rfl⟩:=len_is3 h1;obtain⟨x0,e0,w0⟩:=(show HasTy TP 3 [a0]from HasTy.fld h2 (i:=0) rfl rfl rfl xX).int_inv Tryz.underlying3;replace e0:[a0]=[D.int .i64 x0]:=e0;simp only[jJ,and_true]at e0;obtain⟨x1,e1,w1⟩:=(show HasTy TP 3 [a1]from HasTy.fld h2 (i:=1) rfl rfl rfl xX).int_inv Tryz.underlying3;replace e1:[a1]=[D.int .i64 x1]:=e1;simp only[jJ,and_true]at e1;obtain⟨x2,e2,w2⟩:=(show HasTy TP 3 [a2]from HasTy.fld h2 (i:=2) rfl rfl rfl xX).int_inv Tryz.underlying3;replace e2:[a2]=[D.int .i64 x2]:=e2;simp only[jJ,and_true]at e2;subst e0 e1 e2;exact⟨⟨x0,x1,x2⟩,⟨w0,w1,w2⟩,rfl⟩
theorem ty253(cs:List D)(h:HasTy TP 253 cs):∃x:Pa,x.Wf/\eI TP 253 cs=x.enc:=by obtain⟨x,w,rfl⟩:=ty253c cs h;exact⟨x,w,by simp[eI,Tryz.underlying253,Pa.enc]⟩
theorem cells28:TP.cellsOf 28=6:=aZ
theorem cells22:TP.cellsOf 22=1:=aZ
theorem cells23:TP.cellsOf 23=1:=aZ
theorem cells24:TP.cellsOf 24=1:=aZ
theorem cells25:TP.cellsOf 25=1:=aZ
theorem cells26:TP.cellsOf 26=1:=aZ
theorem len_is6(h:cs.length=6):∃a0 a1 a2 a3 a4 a5,cs=[a0,a1,a2,a3,a4,a5]:=by match cs,h with|[a0,a1,a2,a3,a4,a5],_=>exact⟨a0,a1,a2,a3,a4,a5,rfl⟩
theorem ty28c(cs:List D)(h:HasTy TP 28 cs):∃x:Ar,x.Wf/\cs=[.str x.name,.sl 1 (x.Aa.map D.str),.sl 7 (x.Ap.map A7.enc),.sl 4 (x.joints.map Pb.enc),.sl 4 (x.Al.map Fd.enc),.sl 3 (x.balises.map Pa.enc)]:=by obtain⟨h1,h2⟩:=h.struct_inv Tryz.underlying28;rw[cells28]at h1;obtain⟨a0,a1,a2,a3,a4,a5,rfl⟩:=len_is6 h1;obtain⟨x0,e0,w0⟩:=(show HasTy TP 9 [a0]from HasTy.fld h2 (i:=0) rfl rfl rfl qHQ).str_inv Tryz.underlying9;replace e0:[a0]=[D.str x0]:=e0;simp only[jJ,and_true]at e0;obtain⟨x1,e1,l1,m1⟩:=(show HasTy TP 22 [a1]from HasTy.fld h2 (i:=1) rfl rfl rfl cells22).list Tryz.underlying22 D.str (λs=>s.size<=reachBytes) (λcs _ h=>ty9 cs h);rw[qHQ]at e1;have w1:=C7 l1 m1;replace e1:[a1]=[D.sl 1 (x1.map D.str)]:=e1;simp only[jJ,and_true]at e1;obtain⟨x2,e2,l2,m2⟩:=(show HasTy TP 23 [a2]from HasTy.fld h2 (i:=2) rfl rfl rfl cells23).list Tryz.underlying23 A7.enc A7.Wf (λcs _ h=>ty147 cs h);rw[qMS]at e2;have w2:=C7 l2 m2;replace e2:[a2]=[D.sl 7 (x2.map A7.enc)]:=e2;simp only[jJ,and_true]at e2;obtain⟨x3,e3,l3,m3⟩:=(show HasTy TP 24 [a3]from HasTy.fld h2 (i:=3) rfl rfl rfl cells24).list Tryz.underlying24 Pb.enc Pb.Wf (λcs _ h=>ty151 cs h);rw[qMQ]at e3;have w3:=C7 l3 m3;replace e3:[a3]=[D.sl 4 (x3.map Pb.enc)]:=e3;simp only[jJ,and_true]at e3;obtain⟨x4,e4,l4,m4⟩:=(show HasTy TP 25 [a4]from HasTy.fld h2 (i:=4) rfl rfl rfl cells25).list Tryz.underlying25 Fd.enc Fd.Wf (λcs _ h=>ty149 cs h);rw[qMR]at e4;have w4:=C7 l4 m4;replace e4:[a4]=[D.sl 4 (x4.map Fd.enc)]:=e4;simp only[jJ,and_true]at e4;obtain⟨x5,e5,l5,m5⟩:=(show HasTy TP 26 [a5]from HasTy.fld h2 (i:=5) rfl rfl rfl cells26).list Tryz.underlying26 Pa.enc Pa.Wf (λcs _ h=>ty253 cs h);rw[qMP]at e5;have w5:=C7 l5 m5;replace e5:[a5]=[D.sl 3 (x5.map Pa.enc)]:=e5;simp only[jJ,and_true]at e5;subst e0 e1 e2 e3 e4 e5;exact⟨⟨x0,x1,x2,x3,x4,x5⟩,⟨w0,w1,w2,w3,w4,w5⟩,rfl⟩
theorem ty28(cs:List D)(h:HasTy TP 28 cs):∃x:Ar,x.Wf/\eI TP 28 cs=x.enc:=by obtain⟨x,w,rfl⟩:=ty28c cs h;exact⟨x,w,by simp[eI,Tryz.underlying28,Ar.enc]⟩
theorem ty4(cs:List D)(h:HasTy TP 4 cs):∃x:Bool,(λ_=>True) x/\eI TP 4 cs=D.bool x:=by obtain⟨x,rfl⟩:=h.bool_inv Tryz.underlying4;exact⟨x,trivial,by simp[eI,Tryz.underlying4]⟩
theorem qHR:TP.cellsOf 4=1:=aZ
theorem qTO:TP.cellsOf 60=7:=aZ
theorem Vp:TP.cellsOf 51=1:=aZ
theorem qHS:TP.cellsOf 31=1:=aZ
theorem ty60c(cs:List D)(h:HasTy TP 60 cs):∃x:Au,x.Wf/\cs=[.sl 1 (x.occupied.map D.bool),.sl 1 (x.detected.map (D.int .i64)),.sl 1 (x.closed.map D.bool),.sl 1 (x.claimed.map D.bool),.sl 1 (x.passed.map D.bool),.sl 1 (x.calls.map (D.int .i64)),.sl 1 (x.cancels.map (D.int .i64))]:=by obtain⟨h1,h2⟩:=h.struct_inv Tryz.underlying60;rw[qTO]at h1;obtain⟨a0,a1,a2,a3,a4,a5,a6,rfl⟩:=qSU h1;obtain⟨x0,e0,l0,m0⟩:=(show HasTy TP 51 [a0]from HasTy.fld h2 (i:=0) rfl rfl rfl Vp).list Tryz.underlying51 D.bool (λ_=>True) (λcs _ h=>ty4 cs h);rw[qHR]at e0;have w0:=C7 l0 m0;replace e0:[a0]=[D.sl 1 (x0.map D.bool)]:=e0;simp only[jJ,and_true]at e0;obtain⟨x1,e1,l1,m1⟩:=(show HasTy TP 31 [a1]from HasTy.fld h2 (i:=1) rfl rfl rfl qHS).list Tryz.underlying31 (D.int .i64) cI (λcs _ h=>ty3 cs h);rw[xX]at e1;have w1:=C7 l1 m1;replace e1:[a1]=[D.sl 1 (x1.map (D.int .i64))]:=e1;simp only[jJ,and_true]at e1;obtain⟨x2,e2,l2,m2⟩:=(show HasTy TP 51 [a2]from HasTy.fld h2 (i:=2) rfl rfl rfl Vp).list Tryz.underlying51 D.bool (λ_=>True) (λcs _ h=>ty4 cs h);rw[qHR]at e2;have w2:=C7 l2 m2;replace e2:[a2]=[D.sl 1 (x2.map D.bool)]:=e2;simp only[jJ,and_true]at e2;obtain⟨x3,e3,l3,m3⟩:=(show HasTy TP 51 [a3]from HasTy.fld h2 (i:=3) rfl rfl rfl Vp).list Tryz.underlying51 D.bool (λ_=>True) (λcs _ h=>ty4 cs h);rw[qHR]at e3;have w3:=C7 l3 m3;replace e3:[a3]=[D.sl 1 (x3.map D.bool)]:=e3;simp only[jJ,and_true]at e3;obtain⟨x4,e4,l4,m4⟩:=(show HasTy TP 51 [a4]from HasTy.fld h2 (i:=4) rfl rfl rfl Vp).list Tryz.underlying51 D.bool (λ_=>True) (λcs _ h=>ty4 cs h);rw[qHR]at e4;have w4:=C7 l4 m4;replace e4:[a4]=[D.sl 1 (x4.map D.bool)]:=e4;simp only[jJ,and_true]at e4;obtain⟨x5,e5,l5,m5⟩:=(show HasTy TP 31 [a5]from HasTy.fld h2 (i:=5) rfl rfl rfl qHS).list Tryz.underlying31 (D.int .i64) cI (λcs _ h=>ty3 cs h);rw[xX]at e5;have w5:=C7 l5 m5;replace e5:[a5]=[D.sl 1 (x5.map (D.int .i64))]:=e5;simp only[jJ,and_true]at e5;obtain⟨x6,e6,l6,m6⟩:=(show HasTy TP 31 [a6]from HasTy.fld h2 (i:=6) rfl rfl rfl qHS).list Tryz.underlying31 (D.int .i64) cI (λcs _ h=>ty3 cs h);rw[xX]at e6;have w6:=C7 l6 m6;replace e6:[a6]=[D.sl 1 (x6.map (D.int .i64))]:=e6;simp only[jJ,and_true]at e6;subst e0 e1 e2 e3 e4 e5 e6;exact⟨⟨x0,x1,x2,x3,x4,x5,x6⟩,⟨w0,w1,w2,w3,w4,w5,w6⟩,rfl⟩
theorem ty60(cs:List D)(h:HasTy TP 60 cs):∃x:Au,x.Wf/\eI TP 60 cs=x.enc:=by obtain⟨x,w,rfl⟩:=ty60c cs h;exact⟨x,w,by simp[eI,Tryz.underlying60,Au.enc]⟩
theorem ty29(cs:List D)(h:HasTy TP 29 cs):∃l:(List Au),(λl=>l.length<=reachBytes/\∀x∈l,Au.Wf x) l/\eI TP 29 cs=(λ(l:List Au)=>D.sl 7 (l.map Au.enc)) l:=by obtain⟨l,rfl,h1,h2⟩:=h.list Tryz.underlying29 Au.enc Au.Wf (λcs _ h=>ty60 cs h);exact⟨l,⟨h1,h2⟩,by simp[eI,Tryz.underlying29,qTO]⟩
def passages:List Pe:=[⟨1,0,1,0⟩,⟨1,1,0,0⟩,⟨2,0,1,1⟩,⟨2,0,2,2⟩,⟨2,1,0,1⟩,⟨2,2,0,2⟩,⟨3,0,1,0⟩,⟨3,1,0,0⟩,⟨3,2,3,0⟩,⟨3,3,2,0⟩]
def sides:List Int:=[0,2,3,4]
def fM(a:Int)(b:Int)(c:Int):Option Bool:=some ((decide (b<=a))&&(decide (a<=c)))
def vO(a:Ar):Option Bool:=aE (aE (fM (a.Ap.length:Int) (1:Int) (32:Int)) λb=>if b=true then aE (fM (a.Aa.length:Int) (1:Int) (24:Int)) λc=>if c=true then if(a.Al.length:Int)<=20 then some (decide ((a.balises.length:Int)<=24)) else some false else some false else some false) λd=>some d
def qg(a:BA):Option Bool:=aE (if a=(⟨#[]⟩:BA)then some true else if 12<(a.size:Int)then some true else bL a.data.toList (0:Int) λc=>if(c.toNat:Int)<97 then some true else bL a.data.toList (0:Int) λd=>some (decide (122<(d.toNat:Int)))) λe=>if e=true then some false else dZ (bK (λb=>if b<a.size then if(bif decide (((Utf8.decode a b).1:Int)<97)then(bif decide (((Utf8.decode a b).1:Int)<48)then !(decide (((Utf8.decode a b).1:Int)=95))else((decide (57<((Utf8.decode a b).1:Int)))&&(!(decide (((Utf8.decode a b).1:Int)=95)))))else((decide (122<((Utf8.decode a b).1:Int)))&&(bif decide (((Utf8.decode a b).1:Int)<48)then !(decide (((Utf8.decode a b).1:Int)=95))else((decide (57<((Utf8.decode a b).1:Int)))&&(!(decide (((Utf8.decode a b).1:Int)=95)))))))=true then aX (aX (some false)) else some (.inl (b+(Utf8.decode a b).2)) else aX (some (.inl ()))) (0:Nat)) λ_=>some true
def uN(a:Ar):Option Int:=aH (0<=(a.Ap.length:Int)/\(a.Ap.length:Int)<=1000000000) <|aE (bK (λ(j,l)=>if j<(a.Ap.length:Int)then bL a.Ap j λm=>aH ((l++([m.name]:List BA)).length<=1000000000) <|aH (cI (j+1)) <|some (.inl ((j+1),(l++([m.name]:List BA)))) else aX (some l)) ((0:Int),([]:List BA))) λc=>aH (0<=(a.Al.length:Int)/\(a.Al.length:Int)<=1000000000) <|aE (bK (λ(e,k)=>if e<(a.Al.length:Int)then bL a.Al e λn=>aH ((k++([n.name]:List BA)).length<=1000000000) <|aH (cI (e+1)) <|some (.inl ((e+1),(k++([n.name]:List BA)))) else aX (some k)) ((0:Int),([]:List BA))) λb=>dZ (bK (λf=>if f<(([([a.name]:List BA),a.Aa,c,b]:List (List BA)).length:Int)then dZ (bL ([([a.name]:List BA),a.Aa,c,b]:List (List BA)) f λo=>bK (λg=>if g<(o.length:Int)then bL o g λr=>aE (qg r) λs=>if(!(s))=true then aX (aX (aX (aX (some (3:Int))))) else aH (cI (g+1)) <|some (.inl (g+1)) else aX (some (.inl ()))) (0:Int)) λ_=>aH (cI (f+1)) <|some (.inl (f+1)) else aX (some (.inl ()))) (0:Int)) λ_=>dZ (bK (λh=>if h<(([([a.name]:List BA),a.Aa,c,b]:List (List BA)).length:Int)then dZ (bL ([([a.name]:List BA),a.Aa,c,b]:List (List BA)) h λp=>bK (λ(i,d)=>if i<(p.length:Int)then bL p i λq=>aH (d.map (·.1)).Nodup <|if(((cZ d q).getD false))=true then aX (aX (aX (aX (some (8:Int))))) else aH (d.map (·.1)).Nodup <|aH (cI (i+1)) <|some (.inl ((i+1),(tK d q true))) else aX (some (.inl ()))) ((0:Int),([]:List (BA×Bool)))) λ_=>aH (cI (h+1)) <|some (.inl (h+1)) else aX (some (.inl ()))) (0:Int)) λ_=>some (0:Int)
def sX(b:Ar):Option Bool:=dZ (bK (λc=>if c<(b.Ap.length:Int)then bL b.Ap c λa=>aE (aE (fM a.kind (1:Int) (3:Int)) λi=>if(!(i))=true then some true else aE (fM a.length (500:Int) (1000000:Int)) λd=>if(!(d))=true then some true else aE (fM a.grade (-50:Int) (50:Int)) λe=>if(!(e))=true then some true else aE (fM a.speed (100:Int) (10000:Int)) λf=>if(!(f))=true then some true else aH (cI ((b.Aa.length:Int)-1)) <|aE (fM a.A8 (0:Int) ((b.Aa.length:Int)-1)) λg=>some (!(g))) λk=>if k=true then aX (aX (some false)) else aE (if a.kind=2 then aE (fM a.slow (100:Int) a.speed) λh=>if(!(h))=true then some true else if a.kind=2 then some false else some (!(decide (a.slow=0))) else if a.kind=2 then some false else some (!(decide (a.slow=0)))) λj=>if j=true then aX (aX (some false)) else aH (cI (c+1)) <|some (.inl (c+1)) else aX (some (.inl ()))) (0:Int)) λ_=>some true
def zJ(c:Ar)(d:Int):Option ((List Int)):=if((decide (d<0))||(decide ((c.Aa.length:Int)<=d)))=true then some ([]:List Int) else aE (bK (λ(a,b)=>if a<(c.Ap.length:Int)then bL c.Ap a λf=>if f.A8=d then aH ((b++([a]:List Int)).length<=1000000000) <|aH (cI (a+1)) <|some (.inl ((a+1),(b++([a]:List Int)))) else aH (cI (a+1)) <|some (.inl ((a+1),b)) else aX (some b)) ((0:Int),([]:List Int))) λe=>some e
def rP(b:Ar):Option Bool:=dZ (bK (λa=>if a<(b.Aa.length:Int)then aE (zJ b a) λc=>if(c.length:Int)=0 then aX (aX (some false)) else aH (cI (a+1)) <|some (.inl (a+1)) else aX (some (.inl ()))) (0:Int)) λ_=>some true
def qw(a:Int):Option Int:=if((decide (a<0))||(decide (4<=a)))=true then some (0:Int) else bL sides a λb=>some b
def tT(a:Ar)(b:End):Option Bool:=aE (aH (cI ((a.Ap.length:Int)-1)) <|aE (fM b.el (0:Int) ((a.Ap.length:Int)-1)) λe=>if e=true then bL a.Ap b.el λd=>aE (qw d.kind) λc=>aH (cI (c-1)) <|aE (fM b.side (0:Int) (c-1)) λf=>some f else some false) λg=>some g
def tN(f:Ar):Option (Option (List (End×End))×Int):=dZ (bK (λh=>if h<(f.joints.length:Int)then bL f.joints h λe=>aE (aE (tT f e.a) λk=>if(!(k))=true then some true else aE (tT f e.b) λj=>if(!(j))=true then some true else aH (End.ok e.a/\End.ok e.b) <|some (decide (e.a=e.b))) λl=>if l=true then aX (aX (some (none,(1:Int)))) else aH (cI (h+1)) <|some (.inl (h+1)) else aX (some (.inl ()))) (0:Int)) λ_=>dZ (bK (λ(g,d)=>if g<(f.joints.length:Int)then bL f.joints g λc=>aH (vj End.okb d c.a) <|aH (vj End.okb d c.b) <|if(((cZ d c.a).isSome)||((cZ d c.b).isSome))=true then aX (aX (some (none,(8:Int)))) else aH (vj End.okb d c.a) <|aH (vj End.okb (tK d c.a c.b) c.b) <|aH (cI (g+1)) <|some (.inl ((g+1),(tK (tK d c.a c.b) c.b c.a))) else aX (some (.inl d))) ((0:Int),([]:List (End×End)))) λi=>some (some i,(0:Int))
def rF(c:Ar)(d:End):Option Int:=dZ (bK (λa=>if a<(c.Al.length:Int)then bL c.Al a λb=>aH (End.ok b.atV/\End.ok d) <|if b.atV=d then aX (aX (some a)) else aH (cI (a+1)) <|some (.inl (a+1)) else aX (some (.inl ()))) (0:Int)) λ_=>some (-1:Int)
def gB(b:Ar)(a:Int):Option Int:=if((decide (a<0))||(decide ((b.Ap.length:Int)<=a)))=true then some (-1:Int) else bL b.Ap a λc=>some c.A8
def rR(a:Ar):Option Int:=dZ (bK (λe=>if e<(a.balises.length:Int)then bL a.balises e λc=>aE (aE (fM c.id (1:Int) (1073741824:Int)) λj=>if(!(j))=true then some true else aH (cI ((a.Ap.length:Int)-1)) <|aE (fM c.el (0:Int) ((a.Ap.length:Int)-1)) λh=>if(!(h))=true then some true else bL a.Ap c.el λg=>aE (fM c.offset (0:Int) g.length) λi=>some (!(i))) λk=>if k=true then aX (aX (some (1:Int))) else aH (cI (e+1)) <|some (.inl (e+1)) else aX (some (.inl ()))) (0:Int)) λ_=>dZ (bK (λ(d,b)=>if d<(a.balises.length:Int)then bL a.balises d λf=>aH (b.map (·.1)).Nodup <|if(((cZ b f.id).getD false))=true then aX (aX (some (8:Int))) else aH (b.map (·.1)).Nodup <|aH (cI (d+1)) <|some (.inl ((d+1),(tK b f.id true))) else aX (some (.inl b))) ((0:Int),([]:List (Int×Bool)))) λl=>some (0:Int)
def rQ(a:Ar)(f:(List (End×End))):Option Int:=dZ (bK (λd=>if d<(a.Al.length:Int)then bL a.Al d λg=>aE (aE (tT a g.atV) λm=>if(!(m))=true then some true else aE (fM g.overlap (0:Int) (1000000:Int)) λi=>some (!(i))) λo=>if o=true then aX (aX (some (1:Int))) else aH (cI (d+1)) <|some (.inl (d+1)) else aX (some (.inl ()))) (0:Int)) λ_=>dZ (bK (λb=>if b<(a.Al.length:Int)then bL a.Al b λh=>aE (rF a h.atV) λj=>if j=b then aH (cI (b+1)) <|some (.inl (b+1)) else aX (aX (some (8:Int))) else aX (some (.inl ()))) (0:Int)) λ_=>dZ (bK (λe=>if e<(a.Al.length:Int)then bL a.Al e λc=>aH (vj End.okb f c.atV) <|aE (if(!((cZ f c.atV).isSome))=true then some true else aE (gB a (((cZ f c.atV).getD (⟨(0:Int),(0:Int)⟩:End)).el)) λk=>aE (gB a c.atV.el) λl=>some (decide (k=l))) λn=>if n=true then aX (aX (some (14:Int))) else aH (cI (e+1)) <|some (.inl (e+1)) else aX (some (.inl ()))) (0:Int)) λ_=>some (0:Int)
def kb(a:Ar):Option Int:=aE (vO a) λg=>if(!(g))=true then some (2:Int) else aE (uN a) λd=>if d=0 then aE (aE (sX a) λi=>if(!(i))=true then some true else aE (rP a) λj=>some (!(j))) λk=>if k=true then some (1:Int) else aE (tN a) λ(e,b)=>match e with|none=>if b=0 then none else some b|some f=>if b=0 then aE (rQ a f) λc=>if c=0 then aE (rR a) λh=>some h else some c else some b else some d
def oZ(f:Ar)(d:End):Option (End×Bool):=dZ (bK (λe=>if e<(f.joints.length:Int)then bL f.joints e λc=>aH (End.ok c.a/\End.ok d) <|if c.a=d then aX (aX (some (c.b,true))) else aH (End.ok c.b/\End.ok d) <|if c.b=d then aX (aX (some (c.a,true))) else aH (cI (e+1)) <|some (.inl (e+1)) else aX (some (.inl ()))) (0:Int)) λ_=>some ((⟨(0:Int),(0:Int)⟩:End),false)
def uT(b:Ar)(a:Int):Option Bool:=some ((decide (0<=a))&&(decide (a<(b.Ap.length:Int))))
def kw(e:Int)(f:Int):Option ((List Int)):=aE (bK (λ(a,b)=>if a<10 then bL passages a λc=>if((decide (c.kind=e))&&(decide (c.inV=f)))=true then aH ((b++([c.out]:List Int)).length<=1000000000) <|aH (cI (a+1)) <|some (.inl ((a+1),(b++([c.out]:List Int)))) else aH (cI (a+1)) <|some (.inl ((a+1),b)) else aX (some b)) ((0:Int),([]:List Int))) λd=>some d
def wO(e:Ar)(a:End):Option ((List As)):=aE (uT e a.el) λi=>if(!(i))=true then some ([]:List As) else aE (bL e.Ap a.el λh=>aE (kw h.kind a.side) λf=>bK (λ(b,c)=>if b<(f.length:Int)then bL f b λd=>aH ((c++([(⟨a.el,a.side,d⟩:As)]:List As)).length<=1000000000) <|aH (cI (b+1)) <|some (.inl ((b+1),(c++([(⟨a.el,a.side,d⟩:As)]:List As)))) else aX (some c)) ((0:Int),([]:List As))) λg=>some g
def qr(a:(List As)):Option End:=aH (cI ((a.length:Int)-1)) <|bL a ((a.length:Int)-1) λb=>some (⟨b.el,b.out⟩:End)
def tE(a:As)(b:Ar):Option (End×Bool):=aE (oZ b (⟨a.el,a.out⟩:End)) λ(c,d)=>some (c,d)
def B4(a:Ar):Option Fn282:=some (Fn282.c230 a)
def ku(a:Ar)(b:As):Option (End×Bool):=aE (B4 a) λc=>(match c with|.c230 f=>aE (tE b f) λ(d,e)=>some (d,e))
def jC(a:(List As)):Option ((List As)):=Fh a (some ([]:List As)) (aH ((([]:List As)++a).length<=1000000000) <|some (([]:List As)++a))
def bj(c:Int)(d:Int)(e:Int):Option (Int×Bool):=dZ (bK (λb=>if b<10 then bL passages b λa=>if((decide (a.kind=c))&&((decide (a.inV=d))&&(decide (a.out=e))))=true then aX (aX (some (a.need,true))) else aH (cI (b+1)) <|some (.inl (b+1)) else aX (some (.inl ()))) (0:Int)) λ_=>some ((0:Int),false)
def wL(b:Ar)(a:As):Option (Int×Bool):=aE (uT b a.el) λd=>if(!(d))=true then some ((0:Int),false) else bL b.Ap a.el λc=>aE (bj c.kind a.inV a.out) λ(e,f)=>some (e,f)
def cu(a:Int):Option Bool:=some (!(decide (a=a)))
def kR(a:Int)(b:Int):Option Int:=aE (cu a) λd=>aE (cu b) λc=>if d=true then if c=true then some (0:Int) else some (-1:Int) else if c=true then some (1:Int) else if a<b then some (-1:Int) else if b<a then some (1:Int) else some (0:Int)
def bx(c:(List Int)):Option Int:=dZ (bK (λa=>if a<(c.length:Int)then bL c a λb=>if b=0 then aH (cI (a+1)) <|some (.inl (a+1)) else aX (aX (some b)) else aX (some (.inl ()))) (0:Int)) λ_=>some (0:Int)
def gT(a:Ac)(b:Ac):Option Int:=aE (kR a.el b.el) λc=>aE (kR a.pos b.pos) λd=>aE (bx ([c,d]:List Int)) λe=>some e
def lU(a:(List Ac)):Option ((List Ac)):=if(a.length:Int)<2 then some a else dZ (bK (λk4=>if k4<(a.length:Int)then dZ (bL a k4 λg=>aH (cI (k4-1)) <|bL a (k4-1) λd=>aH (Ac.ok g/\Ac.ok d) <|if g=d then aH (0<=k4/\k4<=((a.length:Nat):Int)/\((a.length:Nat):Int)<=((a.length:Nat):Int)) <|aE (bK (λ(k23,k24,c)=>if k24<(((((a.length:Nat):Int).toNat-k4.toNat):Nat):Int)then aH (0<=k24/\k24<(((((a.length:Nat):Int).toNat-k4.toNat):Nat):Int)) <|bL c (((k4.toNat+k24.toNat):Nat):Int) λe=>aH (cI (k24-1)) <|aH (0<=(k24-1)/\(k24-1)<(((((a.length:Nat):Int).toNat-k4.toNat):Nat):Int)) <|bL c (((k4.toNat+(k24-1).toNat):Nat):Int) λf=>aH (Ac.ok e/\Ac.ok f) <|if e=f then aH (cI (k24+1)) <|some (.inl (k23,(k24+1),c)) else aH (0<=k24/\k24<(((((a.length:Nat):Int).toNat-k4.toNat):Nat):Int)) <|bL c (((k4.toNat+k24.toNat):Nat):Int) λh=>bL c k23 λi=>aH (cI (k23+1)) <|aH (cI (k24+1)) <|some (.inl ((k23+1),(k24+1),(c.set k23.toNat h))) else aX (some (k23,c))) (k4,(1:Int),a)) λ(k15,b)=>aH (0<=k15/\k15<=((b.length:Nat):Int)/\((b.length:Nat):Int)<=((b.length:Nat):Int)) <|aH (k15.toNat+(((b.length:Nat):Int).toNat-k15.toNat)<=b.length) <|aH (0<=(0:Int)/\0<=k15/\k15<=((b.length:Nat):Int)) <|aH (k15.toNat<=(b.take k15.toNat).length) <|aX (aX (aX (some ((b.take k15.toNat).take k15.toNat)))) else some (.inl ())) λ_=>aH (cI (k4+1)) <|some (.inl (k4+1)) else aX (some (.inl ()))) (1:Int)) λ_=>some a
def wM(e:Ar)(f:(List As)):Option ((List Ac)):=aE (bK (λ(a,b)=>if a<(f.length:Int)then bL f a λc=>aE (wL e c) λ(g,i)=>aE (if i=true then bL e.Ap c.el λh=>some (decide (h.kind=2)) else some false) λk=>if k=true then aH ((b++([(⟨c.el,g⟩:Ac)]:List Ac)).length<=1000000000) <|aH (cI (a+1)) <|some (.inl ((a+1),(b++([(⟨c.el,g⟩:Ac)]:List Ac)))) else aH (cI (a+1)) <|some (.inl ((a+1),b)) else aX (some b)) ((0:Int),([]:List Ac))) λd=>aH (d.length<=1000000000) <|aE (lU (tG gT d)) λj=>some j
def wN(f:Ar)(g:(List As)):Option ((List Int)):=aE (bK (λ(a,c,b)=>if a<(g.length:Int)then bL g a λe=>aE (uT f e.el) λi=>if(!(i))=true then aH (cI (a+1)) <|some (.inl ((a+1),c,b)) else bL f.Ap e.el λd=>aH (b.map (·.1)).Nodup <|if(!(((cZ b d.A8).getD false)))=true then aH (b.map (·.1)).Nodup <|aH ((c++([d.A8]:List Int)).length<=1000000000) <|aH (cI (a+1)) <|some (.inl ((a+1),(c++([d.A8]:List Int)),(tK b d.A8 true))) else aH (cI (a+1)) <|some (.inl ((a+1),c,b)) else aX (some (c,b))) ((0:Int),([]:List Int),([]:List (Int×Bool)))) λ(h,j)=>some h
def ea(e:Ar)(f:(List As)):Option Int:=aE (bK (λ(b,a)=>if a<(f.length:Int)then bL f a λd=>aE (uT e d.el) λg=>if g=true then bL e.Ap d.el λc=>aH (cI (b+c.length)) <|aH (cI (a+1)) <|some (.inl ((b+c.length),(a+1))) else aH (cI (a+1)) <|some (.inl (b,(a+1))) else aX (some b)) ((0:Int),(0:Int))) λh=>some h
def xb(a:Ar)(e:Int)(b:(List As)):Option Aj:=bL a.Al e λc=>aE (qr b) λk=>aE (rF a k) λd=>aE (if 0<=d then bL a.Al d λf=>some f.name else some (⟨#[101,110,100]⟩:BA)) λname4=>aH (c.name.size+(⟨#[45]⟩:BA).size<=9223372036854775807) <|aH ((c.name++(⟨#[45]⟩:BA)).size+name4.size<=9223372036854775807) <|aE (wM a b) λg=>aE (wN a b) λh=>aE (gB a c.atV.el) λi=>aE (ea a b) λj=>some (⟨((c.name++(⟨#[45]⟩:BA))++name4),e,d,b,g,h,i,j,([]:List As),([]:List Ac),([]:List Int),([]:List Ac),([]:List Int),([]:List End)⟩:Aj)
def ep(n:Nat):BA:=⟨(Go.Lib.decDigits n).toArray⟩
def qLN(n:Int):BA:=⟨(Go.Lib.itoa n).toArray⟩
def strconv_Itoa(a:Int):Option BA:=aH (cI a) <|some (qLN a)
def uK(b:Id)(c:(List As))(e:Int):Option Bool:=aE (gB b.l e) λf=>dZ (bK (λa=>if a<(c.length:Int)then bL c a λd=>if d.el=e then aX (aX (some false)) else aE (if 0<a then aH (cI (a-1)) <|bL c (a-1) λg=>aE (gB b.l g.el) λh=>if h=f then aE (gB b.l d.el) λi=>some (!(decide (i=f))) else some false else some false) λj=>if j=true then aX (aX (some false)) else aH (cI (a+1)) <|some (.inl (a+1)) else aX (some (.inl ()))) (0:Int)) λ_=>some true
def qP(a:Id)(b:(List As)):Option (End×Id):=dZ (aE (qr b) λe=>aE (rF a.l e) λf=>if f<0 then aH (cI ((b.length:Int)-1)) <|bL b ((b.length:Int)-1) λd=>aE (ku a.l d) λ(g,h)=>if h=true then aX (some (g,a)) else some (.inl ()) else some (.inl ())) λ_=>aE (jC b) λc=>aH ((a.paths++([c]:List (List As))).length<=1000000000) <|some ((⟨(-1:Int),(0:Int)⟩:End),(⟨a.l,(a.paths++([c]:List (List As)))⟩:Id))
def mN:Nat->Id->(List As)->End->Option (Id×(List As))|0,_,_,_=>none|fu+1,b,r,m=>bK (λ(k,q,d,a)=>aE (if(a.length:Int)=12 then some true else aE (uK (⟨b.l,d⟩:Id) a k) λs=>some (!(s))) λu=>if u=true then aX (some ((⟨b.l,d⟩:Id),a)) else aE (wO b.l (⟨k,q⟩:End)) λf=>if(f.length:Int)=1 then bL f (0:Int) λe=>aH ((a++([e]:List As)).length<=1000000000) <|aE (qP (⟨b.l,d⟩:Id) (a++([e]:List As))) λ(h,n)=>if 0<=h.el then some (.inl (h.el,h.side,n.paths,(a++([e]:List As)))) else aX (some ((⟨b.l,n.paths⟩:Id),(a++([e]:List As)))) else bK (λ(c,j)=>if c<(f.length:Int)then bL f c λg=>aE (jC a) λi=>aH ((i++([g]:List As)).length<=1000000000) <|aE (qP (⟨b.l,j⟩:Id) (i++([g]:List As))) λ(o,p)=>if 0<=o.el then aE ((mN fu) (⟨b.l,p.paths⟩:Id) (i++([g]:List As)) o) λ(t,v)=>aH (cI (c+1)) <|some (.inl ((c+1),t.paths)) else aH (cI (c+1)) <|some (.inl ((c+1),p.paths)) else aX (aX (some ((⟨b.l,j⟩:Id),a)))) ((0:Int),d)) (m.el,m.side,b.paths,r)
def wG(a:Id)(b:(List As))(c:End):Option (Id×(List As)):=mN oM a b c
def Ce(c:Ar)(d:Int):Option ((List Aj)):=if((decide (d<0))||(decide ((c.Al.length:Int)<=d)))=true then some ([]:List Aj) else bL c.Al d λl=>aE (oZ c l.atV) λ(m,n)=>if(!(n))=true then some ([]:List Aj) else aE (wG (⟨c,([]:List (List As))⟩:Id) ([]:List As) m) λ(i,p)=>aE (bK (λ(e,f,b)=>if e<(i.paths.length:Int)then bL i.paths e λk=>aE (xb c d k) λa=>aH (b.map (·.1)).Nodup <|aH (cI (((cZ b a.name).getD (0:Int))+1)) <|aH (b.map (·.1)).Nodup <|aE (aH ((tK b a.name (((cZ b a.name).getD (0:Int))+1)).map (·.1)).Nodup <|if 1<((cZ (tK b a.name (((cZ b a.name).getD (0:Int))+1)) a.name).getD (0:Int))then aE (strconv_Itoa ((cZ (tK b a.name (((cZ b a.name).getD (0:Int))+1)) a.name).getD (0:Int))) λg=>aH ((⟨#[46]⟩:BA).size+g.size<=9223372036854775807) <|aH (a.name.size+((⟨#[46]⟩:BA)++g).size<=9223372036854775807) <|some (a.name++((⟨#[46]⟩:BA)++g)) else some a.name) λh=>aH ((f++([(⟨h,a.entry,a.exit,a.path,a.Af,a.Aa,a.A1,a.length,a.over,a.Am,a.Ae,a.A4,a.guards,a.gaps⟩:Aj)]:List Aj)).length<=1000000000) <|aH (cI (e+1)) <|some (.inl ((e+1),(f++([(⟨h,a.entry,a.exit,a.path,a.Af,a.Aa,a.A1,a.length,a.over,a.Am,a.Ae,a.A4,a.guards,a.gaps⟩:Aj)]:List Aj)),(tK b a.name (((cZ b a.name).getD (0:Int))+1)))) else aX (some (f,b))) ((0:Int),([]:List Aj),([]:List (BA×Int)))) λ(j,o)=>some j
def Gp(c:Ar):Option ((List Aj)×Int):=aE (kb c) λe=>if e=0 then aE (bK (λ(a,b)=>if a<(c.Al.length:Int)then aE (Ce c a) λf=>aH ((b++f).length<=1000000000) <|aH (cI (a+1)) <|some (.inl ((a+1),(b++f))) else aX (some b)) ((0:Int),([]:List Aj))) λd=>if 48<(d.length:Int)then some (([]:List Aj),(2:Int)) else some (d,(0:Int)) else some (([]:List Aj),e)
def pK(b:Ar)(a:Aj):Option (Fd×Bool):=if((decide (a.exit<0))||(decide ((b.Al.length:Int)<=a.exit)))=true then some ((⟨(⟨#[]⟩:BA),(⟨(0:Int),(0:Int)⟩:End),(0:Int)⟩:Fd),false) else bL b.Al a.exit λc=>some (c,true)
def xg(a:As)(b:Int):Option Bool:=some (decide (a.el=b))
def uC(b:(List As))(d:As->Option Bool):Option Int:=dZ (bK (λa=>if a<(b.length:Int)then bL b a λc=>aE (d c) λe=>if e=true then aX (aX (some a)) else aH (cI (a+1)) <|some (.inl (a+1)) else aX (some (.inl ()))) (0:Int)) λ_=>some (-1:Int)
def iT(a:(List As))(b:As->Option Bool):Option Bool:=aE (uC a b) λc=>some (decide (0<=c))
def zF(b:(List As))(c:Int):Option Bool:=aE (iT b (λa=>xg a c)) λd=>some d
def eT(b:(List Int))(d:Int):Option Int:=dZ (bK (λa=>if a<(b.length:Int)then bL b a λc=>if d=c then aX (aX (some a)) else aH (cI (a+1)) <|some (.inl (a+1)) else aX (some (.inl ()))) (0:Int)) λ_=>some (-1:Int)
def cO(a:(List Int))(b:Int):Option Bool:=aE (eT a b) λc=>some (decide (0<=c))
def sS(a:Int)(b:(List Int)):Option Bool:=aE (cO b a) λc=>some c
def cr(c:Ar)(g:Aj):Option ((List As)):=aE (pK c g) λ(h,n)=>if(!(n))=true then some ([]:List As) else aE (oZ c h.atV) λ(j,s)=>aE (bK (λ(ok17,b,d,a)=>aE (if ok17=true then aE (ea c a) λm=>if m<h.overlap then some (decide ((a.length:Int)<12)) else some false else some false) λt=>if t=true then aE (aE (zF a b) λo=>if o=true then some true else aE (gB c b) λp=>aE (sS p g.Aa) λq=>some q) λu=>if u=true then aX (some (a,b,d)) else aE (wO c (⟨b,d⟩:End)) λe=>if(e.length:Int)=0 then aX (some (a,b,d)) else bL e (0:Int) λf=>aH ((a++([f]:List As)).length<=1000000000) <|bL e (0:Int) λl=>aE (ku c l) λ(i,r)=>some (.inl (r,i.el,i.side,(a++([f]:List As)))) else aX (some (a,b,d))) (s,j.el,j.side,([]:List As))) λ(k,w,v)=>some k
def jM(a:(List Ac)):Option ((List Ac)):=Fh a (some ([]:List Ac)) (aH ((([]:List Ac)++a).length<=1000000000) <|some (([]:List Ac)++a))
def dH(a:(List Int)):Option ((List Int)):=Fh a (some ([]:List Int)) (aH ((([]:List Int)++a).length<=1000000000) <|some (([]:List Int)++a))
def vK(a:(List End)):Option ((List End)):=Fh a (some ([]:List End)) (aH ((([]:List End)++a).length<=1000000000) <|some (([]:List End)++a))
def g9(b:Ar)(a:Aj):Option Aj:=aE (cr b a) λc=>aE (jC a.path) λd=>aE (jM a.Af) λe=>aE (dH a.Aa) λf=>aE (jM a.A4) λg=>aE (dH a.guards) λh=>aE (vK a.gaps) λi=>aE (wM b c) λj=>aE (wN b c) λk=>some (⟨a.name,a.entry,a.exit,d,e,f,a.A1,a.length,c,j,k,g,h,i⟩:Aj)
def xO(a:List (List As)):Option (List As):=aH (a.length<=1000/\a.flatten.length<=1000000000) <|some a.flatten
def ki(e:Ar)(a:As):Option ((List End)):=if((decide (a.el<0))||(decide ((e.Ap.length:Int)<=a.el)))=true then some ([]:List End) else bL e.Ap a.el λd=>aE (bj d.kind a.inV a.out) λ(i,h)=>if(!(h))=true then some ([]:List End) else aE (aE (qw d.kind) λg=>bK (λ(b,c)=>if b<g then if((!(decide (b=a.inV)))&&(!(decide (b=a.out))))=true then aH ((c++([(⟨a.el,b⟩:End)]:List End)).length<=1000000000) <|aH (cI (b+1)) <|some (.inl ((b+1),(c++([(⟨a.el,b⟩:End)]:List End)))) else aH (cI (b+1)) <|some (.inl ((b+1),c)) else aX (some c)) ((0:Int),([]:List End))) λf=>some f
def fp(a:As)(b:Int):Option Bool:=some (decide (a.el=b))
def kh(b:Aj)(c:Int):Option Bool:=aE (aE (iT b.path (λa=>fp a c)) λd=>if d=true then some true else aE (iT b.over (λa=>fp a c)) λe=>some e) λf=>some f
def nF(c:(List Ac))(d:Ac):Option Int:=dZ (bK (λa=>if a<(c.length:Int)then bL c a λb=>aH (Ac.ok d/\Ac.ok b) <|if d=b then aX (aX (some a)) else aH (cI (a+1)) <|some (.inl (a+1)) else aX (some (.inl ()))) (0:Int)) λ_=>some (-1:Int)
def cK(a:(List Ac))(b:Ac):Option Bool:=aE (nF a b) λc=>some (decide (0<=c))
def xm(a:Aj)(b:Ac):Option Bool:=aE (aE (cK a.Af b) λc=>if c=true then some true else aE (cK a.Am b) λd=>if d=true then some true else aE (cK a.A4 b) λe=>some e) λf=>some f
def C2(c:Aj)(a:End):Option (Gap ⊕ Ac):=aE (bj (2:Int) a.side (0:Int)) λ(b,d)=>aE (if(!(d))=true then some true else aE (xm c (⟨a.el,b⟩:Ac)) λe=>some e) λf=>if f=true then some (.inl (⟨a⟩:Gap)) else aH (cI ((3:Int)-b)) <|some (.inr (⟨a.el,((3:Int)-b)⟩:Ac))
def vR(d:Ar)(g:Aj)(h:End):Option (Gap ⊕ (Ac×Int)):=dZ (bK (λ(k,e,b,c)=>if e<4 then aE (oZ d (⟨b,c⟩:End)) λ(a,o)=>if(!(o))=true then aX (aX (some (.inr ((⟨(0:Int),(0:Int)⟩:Ac),(-1:Int))))) else aE (rF d a) λi=>if 0<=i then aX (aX (some (.inr ((⟨(0:Int),(0:Int)⟩:Ac),i)))) else aE (kh g a.el) λp=>if p=true then aX (aX (some (.inr ((⟨(0:Int),(0:Int)⟩:Ac),(-1:Int))))) else if((decide (a.el<0))||(decide ((d.Ap.length:Int)<=a.el)))=true then aX (aX (some (.inl (⟨(⟨b,c⟩:End)⟩:Gap)))) else bL d.Ap a.el λf=>if f.kind=2 then aE (C2 g a) λq=>match q with|.inl s=>aX (aX (some (.inl s)))|.inr r=>aX (aX (some (.inr (r,(-1:Int))))) else aE (kw f.kind a.side) λj=>if(j.length:Int)=0 then aX (aX (some (.inl (⟨(⟨b,c⟩:End)⟩:Gap)))) else bL j (0:Int) λn=>aH (cI (e+1)) <|some (.inl (k,(e+1),a.el,n)) else aX (some (.inl (k,b,c)))) ((0:Int),(0:Int),h.el,h.side)) λ(t,l,m)=>some (.inl (⟨(⟨l,m⟩:End)⟩:Gap))
def xo(a:Ac)(b:Int)(c:Bool)(pv:Gap):Option (Ac×Int×Bool):=some ((⟨(0:Int),(0:Int)⟩:Ac),(-1:Int),false)
def xn(a:Ac)(b:Int)(c:Bool):Option (Ac×Int×Bool):=some (a,b,c)
def kj(b:Ar)(c:Aj)(d:End):Option (Ac×Int×Bool):=aE (vR b c d) λh=>match h with|.inl l=>aE (xo (⟨(0:Int),(0:Int)⟩:Ac) (0:Int) false l) λ(i,j,k)=>some (i,j,k)|.inr a=>aE (xn a.1 a.2 true) λ(e,f,g)=>some (e,f,g)
def lM(a:Ac)(b:Ac):Option Int:=aE (kR a.el b.el) λc=>aE (kR a.pos b.pos) λd=>aE (bx ([c,d]:List Int)) λe=>some e
def C3(q:Ar)(a:Aj):Option Aj:=aE (jC a.path) λj=>aE (jM a.Af) λs=>aE (dH a.Aa) λu=>aE (jC a.over) λk=>aE (jM a.Am) λv=>aE (dH a.Ae) λw=>aE (aE (xO ([j,k]:List (List As))) λr=>bK (λ(g,m,n,o)=>if g<(r.length:Int)then aE (bL r g λB=>aE (ki q B) λt=>bK (λ(b,c,d,e)=>if b<(t.length:Int)then bL t b λi=>aE (kj q (⟨a.name,a.entry,a.exit,j,s,u,a.A1,a.length,k,v,w,c,d,e⟩:Aj) i) λ(f,l,C)=>if(!(C))=true then aH ((e++([i]:List End)).length<=1000000000) <|aH (cI (b+1)) <|some (.inl ((b+1),c,d,(e++([i]:List End)))) else if 0<=l then aH ((d++([l]:List Int)).length<=1000000000) <|aH (cI (b+1)) <|some (.inl ((b+1),c,(d++([l]:List Int)),e)) else aH (Ac.ok f/\Ac.ok (⟨(0:Int),(0:Int)⟩:Ac)) <|if f=(⟨(0:Int),(0:Int)⟩:Ac)then aH (cI (b+1)) <|some (.inl ((b+1),c,d,e)) else aH ((c++([f]:List Ac)).length<=1000000000) <|aH (cI (b+1)) <|some (.inl ((b+1),(c++([f]:List Ac)),d,e)) else aX (some (c,d,e))) ((0:Int),m,n,o)) λ(x,y,z)=>aH (cI (g+1)) <|some (.inl ((g+1),x,y,z)) else aX (some (m,n,o))) ((0:Int),([]:List Ac),([]:List Int),([]:List End))) λ(p,h,A)=>aH (p.length<=1000000000) <|aE (lU (tG lM p)) λE=>aH (h.length<=1000000000) <|aH ((uU h).length<=1000000000) <|some (⟨a.name,a.entry,a.exit,j,s,u,a.A1,a.length,k,v,w,E,(Go.Lib.compact (uU h)),A⟩:Aj)
def ct(c:Ar):Option ((List Int)):=aE (bK (λ(a,b)=>if a<(c.Ap.length:Int)then bL c.Ap a λe=>if e.kind=2 then aH ((b++([a]:List Int)).length<=1000000000) <|aH (cI (a+1)) <|some (.inl ((a+1),(b++([a]:List Int)))) else aH (cI (a+1)) <|some (.inl ((a+1),b)) else aX (some b)) ((0:Int),([]:List Int))) λd=>some d
def eb(a:Ar):Option (Ah×Int):=aE (Gp a) λ(i,k)=>if k=0 then aE (bK (λ(b,d)=>if b<(i.length:Int)then bL i b λp=>aE (g9 a p) λq=>aE (C3 a q) λh=>aH ((d++([h]:List Aj)).length<=1000000000) <|aH (cI (b+1)) <|some (.inl ((b+1),(d++([h]:List Aj)))) else aX (some d)) ((0:Int),([]:List Aj))) λo=>aE (aE (ct a) λj=>bK (λ(c,e,f)=>if c<(j.length:Int)then bL j c λg=>aH ((e++([g]:List Int)).length<=1000000000) <|aE (gB a g) λl=>aH ((f++([l]:List Int)).length<=1000000000) <|aH (cI (c+1)) <|some (.inl ((c+1),(e++([g]:List Int)),(f++([l]:List Int)))) else aX (some (e,f))) ((0:Int),([]:List Int),([]:List Int))) λ(m,n)=>some ((⟨o,m,n,(a.Aa.length:Int),(a.Al.length:Int)⟩:Ah),(0:Int)) else some ((⟨([]:List Aj),([]:List Int),([]:List Int),(0:Int),(0:Int)⟩:Ah),k)
def Gk(c:Ar)(b:(List Au)):Option Bool:=if((decide (40<(c.Ap.length:Int)))||((decide (80<(c.joints.length:Int)))||((decide (30<(c.Al.length:Int)))||((decide (40<(c.balises.length:Int)))||((decide (40<(c.Aa.length:Int)))||(decide (16<(b.length:Int))))))))=true then some false else dZ (bK (λa=>if a<(b.length:Int)then aE (bL b a λd=>if 100<(d.occupied.length:Int)then some true else bL b a λe=>if 100<(e.detected.length:Int)then some true else bL b a λf=>if 100<(f.closed.length:Int)then some true else bL b a λg=>if 100<(g.claimed.length:Int)then some true else bL b a λh=>if 100<(h.passed.length:Int)then some true else bL b a λi=>if 60<(i.calls.length:Int)then some true else bL b a λj=>some (decide (60<(j.cancels.length:Int)))) λk=>if k=true then aX (aX (some false)) else aH (cI (a+1)) <|some (.inl (a+1)) else aX (some (.inl ()))) (0:Int)) λ_=>some true
def qIO:Option Ar:=aE (bK (λ(a,b)=>if a<(([(⟨#[97]⟩:BA),(⟨#[98]⟩:BA),(⟨#[99]⟩:BA)]:List BA).length:Int)then bL ([(⟨#[97]⟩:BA),(⟨#[98]⟩:BA),(⟨#[99]⟩:BA)]:List BA) a λc=>aH ((b++([(⟨c,(1:Int),(20000:Int),(0:Int),(1000:Int),(0:Int),a⟩:A7)]:List A7)).length<=1000000000) <|aH (cI (a+1)) <|some (.inl ((a+1),(b++([(⟨c,(1:Int),(20000:Int),(0:Int),(1000:Int),(0:Int),a⟩:A7)]:List A7)))) else aX (some b)) ((0:Int),([]:List A7))) λd=>some (⟨(⟨#[108,105,110,101]⟩:BA),([(⟨#[97]⟩:BA),(⟨#[98]⟩:BA),(⟨#[99]⟩:BA)]:List BA),d,([(⟨(⟨(0:Int),(1:Int)⟩:End),(⟨(1:Int),(0:Int)⟩:End)⟩:Pb),(⟨(⟨(1:Int),(1:Int)⟩:End),(⟨(2:Int),(0:Int)⟩:End)⟩:Pb)]:List Pb),([(⟨(⟨#[115,49]⟩:BA),(⟨(0:Int),(1:Int)⟩:End),(0:Int)⟩:Fd),(⟨(⟨#[115,50]⟩:BA),(⟨(1:Int),(1:Int)⟩:End),(0:Int)⟩:Fd)]:List Fd),([]:List Pa)⟩:Ar)
def iH(a:Int)(b:Int):Option Bool:=some ((decide (0<=a))&&(decide (a<b)))
def uI(a:Ah):Option Bool:=if(a.A9.length:Int)=(a.Af.length:Int)then dZ (bK (λb=>if b<(a.Af.length:Int)then bL a.Af b λc=>aE (if c<0 then some true else if 0<b then aH (cI (b-1)) <|bL a.Af (b-1) λe=>if c<=e then some true else bL a.A9 b λf=>aE (iH f a.Aa) λh=>some (!(h)) else bL a.A9 b λd=>aE (iH d a.Aa) λg=>some (!(g))) λi=>if i=true then aX (aX (some false)) else aH (cI (b+1)) <|some (.inl (b+1)) else aX (some (.inl ()))) (0:Int)) λ_=>some true else some false
def lT(a:List (List Int)):Option (List Int):=aH (a.length<=1000/\a.flatten.length<=1000000000) <|some a.flatten
def rU(d:Ah)(a:Aj):Option Bool:=aE (aE (iH a.entry d.Al) λi=>if(!(i))=true then some true else if a.exit=(-1:Int)then some false else aE (iH a.exit d.Al) λk=>some (!(k))) λl=>if l=true then some false else if((decide ((a.path.length:Int)<1))||((decide (12<(a.path.length:Int)))||(decide ((a.Aa.length:Int)=0))))=true then some false else dZ (aE (lT ([a.Aa,a.Ae]:List (List Int))) λf=>bK (λ(e,c)=>if e<(f.length:Int)then bL f e λb=>aE (aE (iH b d.Aa) λh=>if(!(h))=true then some true else aH (b<24) <|bL c b λg=>some g) λm=>if m=true then aX (aX (some false)) else aH (b<24) <|bL c b λp=>aH (cI (e+1)) <|some (.inl ((e+1),(c.set b.toNat true))) else aX (some (.inl c))) ((0:Int),(List.replicate 24 false))) λo=>aE (aE (iH a.A1 d.Aa) λj=>if j=true then some (decide (1<=a.length)) else some false) λn=>some n
def gM(a:Ah)(b:Int):Option Int:=aE (eT a.Af b) λc=>some c
def gO(d:Ah)(c:(List Ac)):Option Bool:=dZ (bK (λa=>if a<(c.length:Int)then bL c a λb=>aE (if 0<a then aH (cI (a-1)) <|bL c (a-1) λe=>if b.el<=e.el then some true else aE (gM d b.el) λg=>some (decide (g<0)) else aE (gM d b.el) λf=>some (decide (f<0))) λh=>if h=true then aX (aX (some false)) else if((!(decide (b.pos=1)))&&(!(decide (b.pos=2))))=true then aX (aX (some false)) else aH (cI (a+1)) <|some (.inl (a+1)) else aX (some (.inl ()))) (0:Int)) λ_=>some true
def kQ(e:(List Ac))(f:(List Ac)):Option Bool:=dZ (bK (λa=>if a<(e.length:Int)then dZ (bL e a λd=>bK (λb=>if b<(f.length:Int)then bL f b λc=>if((decide (d.el=c.el))&&(!(decide (d.pos=c.pos))))=true then aX (aX (aX (aX (some false)))) else aH (cI (b+1)) <|some (.inl (b+1)) else aX (some (.inl ()))) (0:Int)) λ_=>aH (cI (a+1)) <|some (.inl (a+1)) else aX (some (.inl ()))) (0:Int)) λ_=>some true
def oW(a:Ah):Option Int:=aE (if 48<(a.Ab.length:Int)then some true else if 32<(a.Af.length:Int)then some true else aE (iH a.Aa (25:Int)) λp=>if(!(p))=true then some true else aE (iH a.Al (21:Int)) λs=>some (!(s))) λu=>if u=true then some (2:Int) else aE (uI a) λt=>if(!(t))=true then some (1:Int) else dZ (bK (λd=>if d<(a.Ab.length:Int)then bL a.Ab d λj=>aE (rU a j) λk=>if(!(k))=true then aX (aX (some (1:Int))) else aH (cI (d+1)) <|some (.inl (d+1)) else aX (some (.inl ()))) (0:Int)) λ_=>dZ (bK (λe=>if e<(a.Ab.length:Int)then bL a.Ab e λh=>aE (aE (gO a h.Af) λl=>if(!(l))=true then some true else aE (gO a h.Am) λm=>if(!(m))=true then some true else aE (gO a h.A4) λn=>some (!(n))) λv=>if v=true then aX (aX (some (1:Int))) else aH (cI (e+1)) <|some (.inl (e+1)) else aX (some (.inl ()))) (0:Int)) λ_=>dZ (bK (λf=>if f<(a.Ab.length:Int)then bL a.Ab f λb=>aE (aE (kQ b.Af b.Am) λo=>if(!(o))=true then some true else aE (kQ b.Af b.A4) λq=>if(!(q))=true then some true else aE (kQ b.Am b.A4) λr=>some (!(r))) λw=>if w=true then aX (aX (some (10:Int))) else aH (cI (f+1)) <|some (.inl (f+1)) else aX (some (.inl ()))) (0:Int)) λ_=>dZ (bK (λ(g,c)=>if g<(a.Ab.length:Int)then bL a.Ab g λi=>aH (c.map (·.1)).Nodup <|if(((cZ c i.name).getD false))=true then aX (aX (some (8:Int))) else aH (c.map (·.1)).Nodup <|aH (cI (g+1)) <|some (.inl ((g+1),(tK c i.name true))) else aX (some (.inl c))) ((0:Int),([]:List (BA×Bool)))) λx=>some (0:Int)
def cS(b:A5)(c:Int):Option Int:=bL b.t.Ab c λa=>aH (cI ((a.Aa.length:Int)-1)) <|some ((a.Aa.length:Int)-1)
def sA(a:Ah):Option (A5×Int):=aE (oW a) λg=>if g=0 then aH (cI (2*a.Aa)) <|aH (cI (2*(a.Af.length:Int))) <|aH (cI ((2*a.Aa)+(2*(a.Af.length:Int)))) <|aH (cI (4*(a.Ab.length:Int))) <|aH (cI (((2*a.Aa)+(2*(a.Af.length:Int)))+(4*(a.Ab.length:Int)))) <|aH (cI ((((2*a.Aa)+(2*(a.Af.length:Int)))+(4*(a.Ab.length:Int)))+(a.Af.length:Int))) <|aE (bK (λ(f,b,c)=>if f<(a.Ab.length:Int)then aH ((c++([b]:List Int)).length<=1000000000) <|aE (cS (⟨a,(((2*a.Aa)+(2*(a.Af.length:Int)))+(4*(a.Ab.length:Int))),(c++([b]:List Int)),b,(0:Int)⟩:A5) f) λe=>aH (cI (4+e)) <|aH (cI ((4+e)+2)) <|aH (cI (b+((4+e)+2))) <|aH (cI (f+1)) <|some (.inl ((f+1),(b+((4+e)+2)),(c++([b]:List Int)))) else aX (some (b,c))) ((0:Int),((((2*a.Aa)+(2*(a.Af.length:Int)))+(4*(a.Ab.length:Int)))+(a.Af.length:Int)),([]:List Int))) λ(d,h)=>aH (cI (5*(a.Ab.length:Int))) <|aH (cI (d+(5*(a.Ab.length:Int)))) <|if 2000<(d+(5*(a.Ab.length:Int)))then some ((⟨(⟨([]:List Aj),([]:List Int),([]:List Int),(0:Int),(0:Int)⟩:Ah),(0:Int),([]:List Int),(0:Int),(0:Int)⟩:A5),(2:Int)) else some ((⟨a,(((2*a.Aa)+(2*(a.Af.length:Int)))+(4*(a.Ab.length:Int))),h,d,(d+(5*(a.Ab.length:Int)))⟩:A5),(0:Int)) else some ((⟨(⟨([]:List Aj),([]:List Int),([]:List Int),(0:Int),(0:Int)⟩:Ah),(0:Int),([]:List Int),(0:Int),(0:Int)⟩:A5),g)
def dJ(c:A5)(d:Int)(b:Int):Option Int:=bL c.Pj d λa=>aH (cI (a+b)) <|some (a+b)
def jW(a:A5)(b:Int):Option Int:=aE (cS a b) λc=>aH (cI (4+c)) <|aE (dJ a b (4+c)) λd=>some d
def dO(a:Int):Option Ad:=some (⟨(3:Int),a,([]:List Ad)⟩:Ad)
def qF(a:A5)(b:Int)(c:Int):Option Int:=aH (cI (2*a.t.Aa)) <|aH (cI (2*(a.t.Af.length:Int))) <|aH (cI ((2*a.t.Aa)+(2*(a.t.Af.length:Int)))) <|aH (cI (4*b)) <|aH (cI (((2*a.t.Aa)+(2*(a.t.Af.length:Int)))+(4*b))) <|aH (cI ((((2*a.t.Aa)+(2*(a.t.Af.length:Int)))+(4*b))+c)) <|some ((((2*a.t.Aa)+(2*(a.t.Af.length:Int)))+(4*b))+c)
def kC(c:A5)(a:Int)(b:Int):Option Int:=aH (cI (2*a)) <|aH (cI ((2*a)+b)) <|some ((2*a)+b)
def fW(a:(List Ad)):Option Ad:=some (⟨(6:Int),(0:Int),a⟩:Ad)
def eA(a:(List Ad)):Option Ad:=some (⟨(5:Int),(0:Int),a⟩:Ad)
def lG(b:A5)(c:Int):Option Int:=aE (jW b c) λa=>aH (cI (a+1)) <|some (a+1)
def eL(a:Ad):Option Ad:=some (⟨(4:Int),(0:Int),([a]:List Ad)⟩:Ad)
def bQ(b:A5)(a:Int)(c:Int):Option Int:=aH (cI (5*a)) <|aH (cI (b.extra+(5*a))) <|aH (cI ((b.extra+(5*a))+c)) <|some ((b.extra+(5*a))+c)
def uD(a:List (List Ac)):Option (List Ac):=aH (a.length<=1000/\a.flatten.length<=1000000000) <|some a.flatten
def fO(a:Ac)(b:Ac):Option Int:=aE (kR a.el b.el) λc=>aE (kR a.pos b.pos) λd=>aE (bx ([c,d]:List Int)) λe=>some e
def fZ(e:Aj):Option ((List Ac)):=aE (uD ([e.Af,e.Am,e.A4]:List (List Ac))) λd=>aH (d.length<=1000000000) <|aE (bK (λ(a,b)=>if a<((tG fO d).length:Int)then bL (tG fO d) a λc=>aE (if a=0 then some true else aH (cI (a-1)) <|bL (tG fO d) (a-1) λf=>aH (Ac.ok c/\Ac.ok f) <|some (!(decide (c=f)))) λh=>if h=true then aH ((b++([c]:List Ac)).length<=1000000000) <|aH (cI (a+1)) <|some (.inl ((a+1),(b++([c]:List Ac)))) else aH (cI (a+1)) <|some (.inl ((a+1),b)) else aX (some b)) ((0:Int),([]:List Ac))) λg=>some g
def rH(a:A5)(b:Int)(c:Int):Option Int:=aH (cI (2*a.t.Aa)) <|aH (cI (2*b)) <|aH (cI ((2*a.t.Aa)+(2*b))) <|aH (cI (((2*a.t.Aa)+(2*b))+c)) <|some (((2*a.t.Aa)+(2*b))+c)
def hZ(a:Aj)(b:Aj):Option Bool:=some ((decide (0<=a.exit))&&(decide (b.entry=a.exit)))
def kL(a:A5)(b:Int):Option Int:=aH (cI (a.inputs+b)) <|some (a.inputs+b)
def dB(f:Int)(e:(List BA))(g:(List BA)):Option ((List BA)):=bK (λ(b,c)=>if b<(e.length:Int)then bL e b λa=>aH (a.size+(⟨#[46]⟩:BA).size<=9223372036854775807) <|aE (strconv_Itoa f) λd=>aH ((a++(⟨#[46]⟩:BA)).size+d.size<=9223372036854775807) <|aH ((c++([((a++(⟨#[46]⟩:BA))++d)]:List BA)).length<=1000000000) <|aH (cI (b+1)) <|some (.inl ((b+1),(c++([((a++(⟨#[46]⟩:BA))++d)]:List BA)))) else aX (some c)) ((0:Int),g)
def nQ(a:A5):Option ((List BA)):=aE (bK (λ(f,n)=>if f<a.t.Aa then aE (dB f ([(⟨#[102,114,101,101]⟩:BA),(⟨#[111,112,101,110]⟩:BA)]:List BA) n) λz=>aH (cI (f+1)) <|some (.inl ((f+1),z)) else aX (some n)) ((0:Int),([]:List BA))) λq=>aE (bK (λ(c,i)=>if c<(a.t.Af.length:Int)then aE (dB c ([(⟨#[110,111,114,109,97,108]⟩:BA),(⟨#[114,101,118,101,114,115,101]⟩:BA)]:List BA) i) λA=>aH (cI (c+1)) <|some (.inl ((c+1),A)) else aX (some i)) ((0:Int),q)) λr=>aE (bK (λ(d,j)=>if d<(a.t.Ab.length:Int)then aE (dB d ([(⟨#[117,110,99,108,97,105,109,101,100]⟩:BA),(⟨#[112,97,115,115,101,100]⟩:BA),(⟨#[99,97,108,108]⟩:BA),(⟨#[99,97,110,99,101,108]⟩:BA)]:List BA) j) λB=>aH (cI (d+1)) <|some (.inl ((d+1),B)) else aX (some j)) ((0:Int),r)) λs=>aE (bK (λ(e,k)=>if e<(a.t.Af.length:Int)then aE (dB e ([(⟨#[108,105,101]⟩:BA)]:List BA) k) λC=>aH (cI (e+1)) <|some (.inl ((e+1),C)) else aX (some k)) ((0:Int),s)) λu=>aE (bK (λ(b,l)=>if b<(a.t.Ab.length:Int)then aE (aE (dB b ([(⟨#[115,101,116]⟩:BA),(⟨#[99,108,101,97,114]⟩:BA),(⟨#[117,115,101,100]⟩:BA),(⟨#[104,101,108,100]⟩:BA)]:List BA) l) λE=>aE (aE (cS a b) λF=>bK (λ(g,m)=>if g<F then aE (strconv_Itoa b) λp=>aH ((⟨#[114,101,108,46]⟩:BA).size+p.size<=9223372036854775807) <|aE (dB g ([((⟨#[114,101,108,46]⟩:BA)++p)]:List BA) m) λG=>aH (cI (g+1)) <|some (.inl ((g+1),G)) else aX (some m)) ((0:Int),E)) λx=>aE (dB b ([(⟨#[119,97,105,116]⟩:BA),(⟨#[115,116,97,110,100]⟩:BA)]:List BA) x) λH=>some H) λw=>aH (cI (b+1)) <|some (.inl ((b+1),w)) else aX (some l)) ((0:Int),u)) λv=>aE (bK (λ(h,o)=>if h<(a.t.Ab.length:Int)then aE (dB h ([(⟨#[107,101,101,112]⟩:BA),(⟨#[117,115,101]⟩:BA),(⟨#[104,111,108,100]⟩:BA),(⟨#[97,99,116]⟩:BA),(⟨#[99,97,108,108,101,100]⟩:BA)]:List BA) o) λI=>aH (cI (h+1)) <|some (.inl ((h+1),I)) else aX (some o)) ((0:Int),v)) λy=>some y
def cT(a:At)(b:Int)(c:Int):Option Ad:=aE (dJ a.Ai b c) λd=>aE (dO d) λe=>some e
def cY(a:At)(b:Int)(c:Int):Option Ad:=aE (qF a.Ai b c) λd=>aE (dO d) λe=>some e
def eG(b:At)(c:Int)(a:Int):Option Ad:=aH (cI (4+a)) <|aE (dJ b.Ai c (4+a)) λd=>aE (dO d) λe=>some e
def dC(a:At)(b:Int):Option Ad:=aE (kC a.Ai b (0:Int)) λc=>aE (dO c) λd=>some d
def jH(c:At)(d:Int):Option Ad:=aE (bL c.Ai.t.Ab d λf=>bK (λ(a,b)=>if a<(f.Aa.length:Int)then bL f.Aa a λe=>aE (cS c.Ai d) λj=>if a<j then aE (eG c d a) λk=>aE (dC c e) λl=>aE (fW ([k,l]:List Ad)) λg=>aH ((b++([g]:List Ad)).length<=1000000000) <|aH (cI (a+1)) <|some (.inl ((a+1),(b++([g]:List Ad)))) else aE (dC c e) λh=>aH ((b++([h]:List Ad)).length<=1000000000) <|aH (cI (a+1)) <|some (.inl ((a+1),(b++([h]:List Ad)))) else aX (some b)) ((0:Int),([]:List Ad))) λi=>aE (eA i) λm=>some m
def mB(a:At)(b:Int):Option Ad:=aE (cS a.Ai b) λd=>if d=0 then aE (eA []) λe=>some e else aE (cS a.Ai b) λc=>aH (cI (c-1)) <|aE (eG a b (c-1)) λf=>some f
def oR(a:At)(b:Int):Option At:=bL a.Ai.t.Ab b λg=>aE (jW a.Ai b) λd=>aE (cT a b (3:Int)) λm=>aE (cY a b (0:Int)) λn=>aE (jH a b) λo=>aE (eA ([m,n,o]:List Ad)) λe=>aE (lG a.Ai b) λf=>aE (cT a b (2:Int)) λp=>aE (cY a b (0:Int)) λq=>aE (mB a b) λi=>aE (cS a.Ai b) λj=>bL g.Aa j λh=>aE (dC a h) λk=>aE (eL k) λl=>aE (eA ([p,q,i,l]:List Ad)) λc=>aH ((a.Ao++([(⟨(2:Int),d,(12:Int),e⟩:Ay),(⟨(2:Int),f,(4:Int),c⟩:Ay)]:List Ay)).length<=1000000000) <|some (⟨a.Ai,(a.Ao++([(⟨(2:Int),d,(12:Int),e⟩:Ay),(⟨(2:Int),f,(4:Int),c⟩:Ay)]:List Ay))⟩:At)
def jX(a:At)(p:Int):Option Ad:=bL a.Ai.t.Ab p λf=>aE (aE (lT ([f.Aa,f.Ae]:List (List Int))) λk=>bK (λ(c,e)=>if c<(k.length:Int)then bL k c λn=>aE (dC a n) λh=>aH ((e++([h]:List Ad)).length<=1000000000) <|aH (cI (c+1)) <|some (.inl ((c+1),(e++([h]:List Ad)))) else aX (some e)) ((0:Int),([]:List Ad))) λm=>aE (aE (fZ f) λi=>bK (λ(b,d)=>if b<(i.length:Int)then bL i b λg=>aE (if g.pos=2 then some (1:Int) else some (0:Int)) λo=>aE (gM a.Ai.t g.el) λq=>aE (rH a.Ai q o) λr=>aE (dO r) λj=>aH ((d++([j]:List Ad)).length<=1000000000) <|aH (cI (b+1)) <|some (.inl ((b+1),(d++([j]:List Ad)))) else aX (some d)) ((0:Int),m)) λl=>aE (eA l) λs=>some s
def dY(a:At)(b:Int)(c:Ad):Option At:=aH ((a.Ao++([(⟨(1:Int),b,(0:Int),c⟩:Ay)]:List Ay)).length<=1000000000) <|some (⟨a.Ai,(a.Ao++([(⟨(1:Int),b,(0:Int),c⟩:Ay)]:List Ay))⟩:At)
def lH(b:At)(c:Int):Option Ad:=aE (bL b.Ai.t.Ab c λg=>bK (λ(a,e)=>if a<(g.Aa.length:Int)then bL g.Aa a λm=>aE (dC b m) λf=>aE (if 0<a then aH (cI (a-1)) <|aE (eG b c (a-1)) λh=>aH ((([f]:List Ad)++([h]:List Ad)).length<=1000000000) <|some (([f]:List Ad)++([h]:List Ad)) else some ([f]:List Ad)) λd=>aE (aE (cS b.Ai c) λn=>if a<n then aE (eG b c a) λo=>aE (eL o) λi=>aH ((d++([i]:List Ad)).length<=1000000000) <|some (d++([i]:List Ad)) else some d) λl=>aE (eA l) λj=>aH ((e++([j]:List Ad)).length<=1000000000) <|aH (cI (a+1)) <|some (.inl ((a+1),(e++([j]:List Ad)))) else aX (some e)) ((0:Int),([]:List Ad))) λk=>aE (fW k) λp=>some p
def mA(a:At)(b:Int):Option Ad:=aE (cT a b (0:Int)) λc=>aE (cT a b (1:Int)) λd=>aE (fW ([c,d]:List Ad)) λe=>aE (cY a b (3:Int)) λf=>aE (eL f) λg=>aE (jX a b) λh=>aE (eA ([e,g,h]:List Ad)) λi=>some i
def mX(a:At)(b:Int):Option At:=bL a.Ai.t.Ab b λe=>bL e.Aa (0:Int) λf=>aE (cS a.Ai b) λC=>bL e.Aa C λh=>aE (bQ a.Ai b (0:Int)) λY=>aE (cT a b (0:Int)) λa9=>aE (cY a b (3:Int)) λb9=>aE (eL b9) λc7=>aE (jX a b) λc8=>aE (eL c8) λi=>aE (eA ([a9,c7,i]:List Ad)) λj=>aE (dY a Y j) λd=>aE (bQ a.Ai b (1:Int)) λk=>aE (cT (⟨a.Ai,d.Ao⟩:At) b (1:Int)) λl=>aE (dC (⟨a.Ai,d.Ao⟩:At) f) λm=>aE (eL m) λn=>aE (eA ([l,n]:List Ad)) λo=>aE (cT (⟨a.Ai,d.Ao⟩:At) b (2:Int)) λp=>aE (cY (⟨a.Ai,d.Ao⟩:At) b (0:Int)) λq=>aE (eL q) λr=>aE (cY (⟨a.Ai,d.Ao⟩:At) b (3:Int)) λs=>aE (jH (⟨a.Ai,d.Ao⟩:At) b) λu=>aE (eA ([s,u]:List Ad)) λv=>aE (eL v) λw=>aE (mB (⟨a.Ai,d.Ao⟩:At) b) λx=>aE (dC (⟨a.Ai,d.Ao⟩:At) h) λy=>aE (eA ([x,y]:List Ad)) λz=>aE (eL z) λA=>aE (lG a.Ai b) λB=>aE (dO B) λE=>aE (eL E) λF=>aE (eA ([w,A,F]:List Ad)) λG=>aE (fW ([r,G]:List Ad)) λH=>aE (eA ([p,H]:List Ad)) λI=>aE (cT (⟨a.Ai,d.Ao⟩:At) b (3:Int)) λJ=>aE (lH (⟨a.Ai,d.Ao⟩:At) b) λK=>aE (eL K) λL=>aE (eA ([J,L]:List Ad)) λM=>aE (fW ([o,I,M]:List Ad)) λN=>aE (dY (⟨a.Ai,d.Ao⟩:At) k N) λc=>aE (bQ a.Ai b (2:Int)) λO=>aE (cT (⟨a.Ai,c.Ao⟩:At) b (1:Int)) λP=>aE (dC (⟨a.Ai,c.Ao⟩:At) f) λR=>aE (cY (⟨a.Ai,c.Ao⟩:At) b (3:Int)) λS=>aE (cY (⟨a.Ai,c.Ao⟩:At) b (0:Int)) λT=>aE (dC (⟨a.Ai,c.Ao⟩:At) e.A1) λU=>aE (eA ([S,T,U]:List Ad)) λV=>aE (eL V) λW=>aE (cY (⟨a.Ai,c.Ao⟩:At) b (3:Int)) λX=>aE (jX (⟨a.Ai,c.Ao⟩:At) b) λZ=>aE (eL Z) λa0=>aE (fW ([X,a0]:List Ad)) λa1=>aE (eA ([P,R,W,a1]:List Ad)) λa2=>aE (cT (⟨a.Ai,c.Ao⟩:At) b (2:Int)) λa3=>aE (cY (⟨a.Ai,c.Ao⟩:At) b (0:Int)) λa4=>aE (cY (⟨a.Ai,c.Ao⟩:At) b (3:Int)) λa5=>aE (jH (⟨a.Ai,c.Ao⟩:At) b) λa6=>aE (eA ([a3,a4,a5,a6]:List Ad)) λa7=>aE (cT (⟨a.Ai,c.Ao⟩:At) b (3:Int)) λa8=>aE (lH (⟨a.Ai,c.Ao⟩:At) b) λb0=>aE (jW a.Ai b) λb1=>aE (dO b1) λb2=>aE (eL b2) λb3=>aE (eA ([a8,b0,b3]:List Ad)) λb4=>aE (fW ([a2,a7,b4]:List Ad)) λb5=>aE (dY (⟨a.Ai,c.Ao⟩:At) O b5) λg=>aE (bQ a.Ai b (3:Int)) λb6=>aE (bQ a.Ai b (0:Int)) λb7=>aE (dO b7) λb8=>aE (mA (⟨a.Ai,g.Ao⟩:At) b) λc0=>aE (bQ a.Ai b (1:Int)) λc1=>aE (dO c1) λc2=>aE (bQ a.Ai b (2:Int)) λc3=>aE (dO c3) λc4=>aE (fW ([b8,c0,c2,c4]:List Ad)) λc5=>aE (dY (⟨a.Ai,g.Ao⟩:At) b6 c5) λc6=>some (⟨a.Ai,c6.Ao⟩:At)
def pT(a:At)(b:Int):Option At:=bL a.Ai.t.Ab b λj=>aE (aE (cS a.Ai b) λl=>aH (cI (l-1)) <|bK (λ(k9,c)=>if 0<=k9 then aE (cT (⟨a.Ai,c⟩:At) b (2:Int)) λd=>aE (bQ a.Ai b (1:Int)) λp=>aE (dO p) λe=>aE (cY (⟨a.Ai,c⟩:At) b (0:Int)) λf=>bL j.Aa k9 λn=>aE (dC (⟨a.Ai,c⟩:At) n) λg=>aH (cI (k9+1)) <|bL j.Aa (k9+1) λo=>aE (dC (⟨a.Ai,c⟩:At) o) λq=>aE (eL q) λr=>aE (cY (⟨a.Ai,c⟩:At) b (1:Int)) λs=>aE (fW ([r,s]:List Ad)) λh=>aE (if 0<k9 then aH (cI (k9-1)) <|aE (eG (⟨a.Ai,c⟩:At) b (k9-1)) λk=>aH ((([d,e,f,g,h]:List Ad)++([k]:List Ad)).length<=1000000000) <|some (([d,e,f,g,h]:List Ad)++([k]:List Ad)) else some ([d,e,f,g,h]:List Ad)) λm=>aH (cI (4+k9)) <|aE (dJ a.Ai b (4+k9)) λu=>aE (bQ a.Ai b (1:Int)) λv=>aE (dO v) λw=>aE (bQ a.Ai b (2:Int)) λx=>aE (dO x) λy=>aE (fW ([w,y]:List Ad)) λz=>aE (eG (⟨a.Ai,c⟩:At) b k9) λA=>aE (eA m) λB=>aE (fW ([A,B]:List Ad)) λC=>aE (eA ([z,C]:List Ad)) λE=>aE (dY (⟨a.Ai,c⟩:At) u E) λF=>aH (cI (k9-1)) <|some (.inl ((k9-1),F.Ao)) else aX (some c)) ((l-1),a.Ao)) λi=>aE (dJ a.Ai b (1:Int)) λG=>aE (mA (⟨a.Ai,i⟩:At) b) λH=>aE (dY (⟨a.Ai,i⟩:At) G H) λI=>aE (dJ a.Ai b (2:Int)) λJ=>aE (bQ a.Ai b (1:Int)) λK=>aE (dO K) λL=>aE (dY (⟨a.Ai,I.Ao⟩:At) J L) λM=>aE (dJ a.Ai b (3:Int)) λN=>aE (bQ a.Ai b (2:Int)) λO=>aE (dO O) λP=>aE (dY (⟨a.Ai,M.Ao⟩:At) N P) λR=>some (⟨a.Ai,R.Ao⟩:At)
def dK(a:Int)(d:At)(e:Int)(c:Bool)(b:(List Int)):Option (Bool×(List Int)):=aE (if a<0 then some true else aE (cS d.Ai e) λf=>some (decide (a=f))) λh=>if h=true then some (true,b) else aE (cO b a) λg=>if(!(g))=true then aH ((b++([a]:List Int)).length<=1000000000) <|some (c,(b++([a]:List Int))) else some (c,b)
def oT(g:At)(I:Int)(j:Int):Option (Bool×(List Int)):=bL g.Ai.t.Ab I λf=>bL g.Ai.t.Ab j λa=>aE (hZ a f) λu=>aE (hZ f a) λv=>aE (bK (λ(d,n,k)=>if d<(f.Aa.length:Int)then bL f.Aa d λq=>aE (aE (eT a.Aa q) λs=>if 0<=s then aE (dK s g j n k) λ(J,K)=>some (J,K) else some (n,k)) λ(B,l)=>if B=true then aH (cI (d+1)) <|some (.inl ((d+1),true,l)) else aE (cO a.Ae q) λL=>if L=true then aH (cI (d+1)) <|some (.inl ((d+1),!(u),l)) else aH (cI (d+1)) <|some (.inl ((d+1),false,l)) else aX (some (n,k))) ((0:Int),false,([]:List Int))) λ(F,z)=>aE (bK (λ(b,o,m)=>if b<(f.Ae.length:Int)then bL f.Ae b λr=>aE (aE (eT a.Aa r) λw=>if((decide (0<=w))&&(!(v)))=true then aE (dK w g j o m) λ(M,N)=>some (M,N) else some (o,m)) λ(E,h)=>if E=true then aH (cI (b+1)) <|some (.inl ((b+1),true,h)) else aE (cO a.Ae r) λO=>if O=true then if(!(u))=true then aH (cI (b+1)) <|some (.inl ((b+1),!(v),h)) else aH (cI (b+1)) <|some (.inl ((b+1),false,h)) else aH (cI (b+1)) <|some (.inl ((b+1),false,h)) else aX (some (o,m))) ((0:Int),F,z)) λ(C,y)=>aE (aE (fZ f) λx=>bK (λ(e,p,i)=>if e<(x.length:Int)then bL x e λc=>aH (cI ((3:Int)-c.pos)) <|aE (aE (cK a.Am (⟨c.el,((3:Int)-c.pos)⟩:Ac)) λP=>if P=true then some true else aE (cK a.A4 (⟨c.el,((3:Int)-c.pos)⟩:Ac)) λR=>some R) λX=>if X=true then aH (cI (e+1)) <|some (.inl ((e+1),true,i)) else aE (cK a.Af (⟨c.el,((3:Int)-c.pos)⟩:Ac)) λS=>if S=true then aE (gM g.Ai.t c.el) λT=>bL g.Ai.t.A9 T λH=>aE (eT a.Aa H) λU=>aE (dK U g j p i) λ(V,W)=>aH (cI (e+1)) <|some (.inl ((e+1),V,W)) else aH (cI (e+1)) <|some (.inl ((e+1),p,i)) else aX (some (p,i))) ((0:Int),C,y)) λ(G,A)=>some (G,A)
def pU(b:At)(k:Int)(a:Int):Option ((List Ad)):=aE (oT b k a) λ(t,g)=>aE (bQ b.Ai a (3:Int)) λv=>aE (dO v) λc=>aE (if a<k then aE (bQ b.Ai a (4:Int)) λq=>aE (dO q) λr=>aE (fW ([c,r]:List Ad)) λf=>some (f.op,f.var,f.args) else some (c.op,c.var,c.args)) λ(h,i,j)=>if t=true then aE (eL (⟨h,i,j⟩:Ad)) λs=>some ([s]:List Ad) else if(g.length:Int)=0 then some ([]:List Ad) else aE (eL (⟨h,i,j⟩:Ad)) λl=>aE (bK (λ(d,e)=>if d<(g.length:Int)then bL g d λp=>aE (eG b a p) λm=>aH ((e++([m]:List Ad)).length<=1000000000) <|aH (cI (d+1)) <|some (.inl ((d+1),(e++([m]:List Ad)))) else aX (some e)) ((0:Int),([]:List Ad))) λo=>aE (eA o) λn=>aH ((([l]:List Ad)++([n]:List Ad)).length<=1000000000) <|aE (fW (([l]:List Ad)++([n]:List Ad))) λu=>some ([u]:List Ad)
def oU(a:At)(c:Int):Option Ad:=bL a.Ai.t.Ab c λj=>aE (cY a c (2:Int)) λC=>aE (bQ a.Ai c (3:Int)) λE=>aE (dO E) λF=>aE (eL F) λH=>aE (aE (lT ([j.Aa,j.Ae]:List (List Int))) λr=>bK (λ(f,h)=>if f<(r.length:Int)then bL r f λz=>aE (kC a.Ai z (1:Int)) λB=>aE (dO B) λm=>aH ((h++([m]:List Ad)).length<=1000000000) <|aH (cI (f+1)) <|some (.inl ((f+1),(h++([m]:List Ad)))) else aX (some h)) ((0:Int),([C,H]:List Ad))) λv=>aE (bK (λ(b,d)=>if b<(a.Ai.t.Ab.length:Int)then if b=c then aH (cI (b+1)) <|some (.inl ((b+1),d)) else aE (pU a c b) λn=>aH ((d++n).length<=1000000000) <|aH (cI (b+1)) <|some (.inl ((b+1),(d++n))) else aX (some d)) ((0:Int),v)) λs=>aE (aE (fZ j) λo=>bK (λ(g,i)=>if g<(o.length:Int)then bL o g λl=>aE (gM a.Ai.t l.el) λp=>aE (kL a.Ai p) λG=>aE (dO G) λe=>aE (if l.pos=1 then aE (eL e) λk=>some (k.op,k.var,k.args) else some (e.op,e.var,e.args)) λ(w,x,y)=>bL a.Ai.t.A9 p λA=>aE (dC a A) λI=>aE (fW ([(⟨w,x,y⟩:Ad),I]:List Ad)) λq=>aH ((i++([q]:List Ad)).length<=1000000000) <|aH (cI (g+1)) <|some (.inl ((g+1),(i++([q]:List Ad)))) else aX (some i)) ((0:Int),s)) λu=>aE (eA u) λJ=>some J
def qY(b:At)(i:Int):Option Ad:=aE (bK (λ(c,g,f)=>if c<(b.Ai.t.Ab.length:Int)then aE (bL b.Ai.t.Ab c λq=>aE (fZ q) λj=>bK (λ(a,d,e)=>if a<(j.length:Int)then bL j a λh=>bL b.Ai.t.Af i λr=>if h.el=r then if h.pos=2 then aE (bQ b.Ai c (4:Int)) λs=>aE (dO s) λk=>aH ((e++([k]:List Ad)).length<=1000000000) <|aH (cI (a+1)) <|some (.inl ((a+1),d,(e++([k]:List Ad)))) else aE (bQ b.Ai c (4:Int)) λu=>aE (dO u) λl=>aH ((d++([l]:List Ad)).length<=1000000000) <|aH (cI (a+1)) <|some (.inl ((a+1),(d++([l]:List Ad)),e)) else aH (cI (a+1)) <|some (.inl ((a+1),d,e)) else aX (some (d,e))) ((0:Int),g,f)) λ(n,o)=>aH (cI (c+1)) <|some (.inl ((c+1),n,o)) else aX (some (g,f))) ((0:Int),([]:List Ad),([]:List Ad))) λ(m,p)=>aE (fW p) λv=>aE (kL b.Ai i) λw=>aE (dO w) λx=>aE (fW m) λy=>aE (eL y) λz=>aE (eA ([x,z]:List Ad)) λA=>aE (fW ([v,A]:List Ad)) λB=>some B
def mD(b:Ah):Option (Program×Int):=aE (sA b) λ(a,o)=>if o=0 then aE (bK (λ(f,k)=>if f<(b.Ab.length:Int)then aE (oR (⟨a,k⟩:At) f) λv=>aH (cI (f+1)) <|some (.inl ((f+1),v.Ao)) else aX (some k)) ((0:Int),([]:List Ay))) λs=>aE (bK (λ(g,l)=>if g<(b.Ab.length:Int)then aE (mX (⟨a,l⟩:At) g) λw=>aH (cI (g+1)) <|some (.inl ((g+1),w.Ao)) else aX (some l)) ((0:Int),s)) λp=>aE (bK (λ(h,m)=>if h<(b.Ab.length:Int)then aE (pT (⟨a,m⟩:At) h) λx=>aH (cI (h+1)) <|some (.inl ((h+1),x.Ao)) else aX (some m)) ((0:Int),p)) λq=>aE (bK (λ(d,i)=>if d<(b.Ab.length:Int)then aE (bQ a d (4:Int)) λy=>aE (oU (⟨a,i⟩:At) d) λz=>aE (dY (⟨a,i⟩:At) y z) λA=>aH (cI (d+1)) <|some (.inl ((d+1),A.Ao)) else aX (some i)) ((0:Int),q)) λr=>aE (bK (λ(e,j)=>if e<(b.Af.length:Int)then aE (kL a e) λB=>aE (qY (⟨a,j⟩:At) e) λC=>aE (dY (⟨a,j⟩:At) B C) λE=>aH (cI (e+1)) <|some (.inl ((e+1),E.Ao)) else aX (some j)) ((0:Int),r)) λt=>aE (bK (λ(c,n)=>if c<(b.Ab.length:Int)then aE (dJ a c (0:Int)) λF=>aE (bQ a c (0:Int)) λG=>aE (dO G) λH=>aE (bQ a c (4:Int)) λI=>aE (dO I) λJ=>aE (fW ([H,J]:List Ad)) λK=>aE (dY (⟨a,n⟩:At) F K) λL=>aH (cI (c+1)) <|some (.inl ((c+1),L.Ao)) else aX (some n)) ((0:Int),t)) λu=>aE (nQ a) λM=>some ((⟨M,a.inputs,u⟩:Program),(0:Int)) else some ((⟨([]:List BA),(0:Int),([]:List Ay)⟩:Program),o)
def zG(g:BA)(b:BA)(e:(List Int)):Option BA:=aE (bK (λ(d,a)=>if a<(e.length:Int)then bL e a λf=>aE (strconv_Itoa f) λc=>aH (b.size+c.size<=9223372036854775807) <|aH (d.size+(b++c).size<=9223372036854775807) <|aH (cI (a+1)) <|some (.inl ((d++(b++c)),(a+1))) else aX (some d)) (g,(0:Int))) λh=>some h
def bn(a:(List Ad)):Option Ad:=some (⟨(6:Int),(0:Int),a⟩:Ad)
def mR(a:Ad):Option Ad:=some (⟨(4:Int),(0:Int),([a]:List Ad)⟩:Ad)
def sU(a:(List Ad)):Option Ad:=some (⟨(5:Int),(0:Int),a⟩:Ad)
def bW(a:Aw)(b:BA)(c:(List Int)):Option Ad:=aE (zG b (⟨#[46]⟩:BA) c) λd=>aH (a.vars.map (·.1)).Nodup <|some (⟨(3:Int),((cZ a.vars d).getD (0:Int)),([]:List Ad)⟩:Ad)
def eM(a:Aw)(b:Int):Option Ad:=aE (bW a (⟨#[115,101,116]⟩:BA) ([b]:List Int)) λc=>aE (bW a (⟨#[99,108,101,97,114]⟩:BA) ([b]:List Int)) λd=>aE (bW a (⟨#[117,115,101,100]⟩:BA) ([b]:List Int)) λe=>aE (bW a (⟨#[104,101,108,100]⟩:BA) ([b]:List Int)) λf=>aE (bn ([c,d,e,f]:List Ad)) λg=>some g
def eW(a:Aw)(b:Int)(d:Int):Option Ad:=bL a.A6.Ab b λc=>aH (cI ((c.Aa.length:Int)-1)) <|if d=((c.Aa.length:Int)-1)then aE (eM a b) λe=>some e else aE (eM a b) λf=>aE (bW a (⟨#[114,101,108]⟩:BA) ([b,d]:List Int)) λg=>aE (mR g) λh=>aE (sU ([f,h]:List Ad)) λi=>some i
def fL(a:Aw)(b:Ad)(d:BA)(e:(List Int)):Option Aw:=aE (zG d (⟨#[32]⟩:BA) e) λc=>aH ((a.list++([(⟨c,b⟩:Ak)]:List Ak)).length<=1000000000) <|some (⟨a.A6,a.vars,(a.list++([(⟨c,b⟩:Ak)]:List Ak))⟩:Aw)
def lX(a:Aw):Option Aw:=bK (λ(b,g)=>if b<(a.A6.Ab.length:Int)then aE (aH (cI (b+1)) <|bK (λ(d,f)=>if d<(a.A6.Ab.length:Int)then aE (bL a.A6.Ab b λh=>bK (λ(c,e)=>if c<(h.Aa.length:Int)then bL h.Aa c λi=>bL a.A6.Ab d λm=>aE (eT m.Aa i) λj=>if 0<=j then aE (eW (⟨a.A6,a.vars,e⟩:Aw) b c) λn=>aE (eW (⟨a.A6,a.vars,e⟩:Aw) d j) λo=>aE (sU ([n,o]:List Ad)) λp=>aE (mR p) λq=>aE (fL (⟨a.A6,a.vars,e⟩:Aw) q (⟨#[112,97,116,104]⟩:BA) ([b,d,i]:List Int)) λr=>aH (cI (c+1)) <|some (.inl ((c+1),r.list)) else aH (cI (c+1)) <|some (.inl ((c+1),e)) else aX (some e)) ((0:Int),f)) λk=>aH (cI (d+1)) <|some (.inl ((d+1),k)) else aX (some f)) ((b+1),g)) λl=>aH (cI (b+1)) <|some (.inl ((b+1),l)) else aX (some (⟨a.A6,a.vars,g⟩:Aw))) ((0:Int),a.list)
def jZ(a:Aw):Option Aw:=bK (λ(c,h)=>if c<(a.A6.Ab.length:Int)then aE (bL a.A6.Ab c λg=>bK (λ(b,f)=>if b<(a.A6.Ab.length:Int)then aE (bL a.A6.Ab b λi=>aE (if c=b then some true else aE (hZ g i) λn=>some n) λt=>if t=true then some f else bK (λ(d,e)=>if d<(g.Ae.length:Int)then bL g.Ae d λj=>aE (eT i.Aa j) λk=>if 0<=k then aE (eM (⟨a.A6,a.vars,e⟩:Aw) c) λo=>aE (eW (⟨a.A6,a.vars,e⟩:Aw) b k) λp=>aE (sU ([o,p]:List Ad)) λq=>aE (mR q) λr=>aE (fL (⟨a.A6,a.vars,e⟩:Aw) r (⟨#[111,118,101,114]⟩:BA) ([c,b,j]:List Int)) λs=>aH (cI (d+1)) <|some (.inl ((d+1),s.list)) else aH (cI (d+1)) <|some (.inl ((d+1),e)) else aX (some e)) ((0:Int),f)) λl=>aH (cI (b+1)) <|some (.inl ((b+1),l)) else aX (some f)) ((0:Int),h)) λm=>aH (cI (c+1)) <|some (.inl ((c+1),m)) else aX (some (⟨a.A6,a.vars,h⟩:Aw))) ((0:Int),a.list)
def lY(a:Aw)(c:Int)(d:Ac):Option Ad:=bL a.A6.Ab c λb=>aE (gM a.A6 d.el) λj=>bL a.A6.A9 j λf=>aE (eT b.Aa f) λe=>aE (if e<0 then some true else aE (cK b.Am d) λk=>if k=true then some true else aE (cK b.A4 d) λg=>some g) λl=>if l=true then aE (eM a c) λh=>some h else aE (eW a c e) λi=>some i
def mP(a:Aw)(f:Int):Option Aw:=bL a.A6.Ab f λm=>aE (fZ m) λi=>bK (λ(d,b)=>if d<(i.length:Int)then bL i d λe=>aE (gM a.A6 e.el) λh=>aE (bW (⟨a.A6,a.vars,b⟩:Aw) (⟨#[108,105,101]⟩:BA) ([h]:List Int)) λc=>aE (if e.pos=1 then aE (mR c) λg=>some (g.op,g.var,g.args) else some (c.op,c.var,c.args)) λ(j,k,l)=>aE (lY (⟨a.A6,a.vars,b⟩:Aw) f e) λn=>aE (mR n) λo=>aE (bn ([o,(⟨j,k,l⟩:Ad)]:List Ad)) λp=>aE (fL (⟨a.A6,a.vars,b⟩:Aw) p (⟨#[108,105,101]⟩:BA) ([f,h]:List Int)) λq=>aH (cI (d+1)) <|some (.inl ((d+1),q.list)) else aX (some (⟨a.A6,a.vars,b⟩:Aw))) ((0:Int),a.list)
def lC(a:Aw)(g:Int):Option Aw:=bL a.A6.Ab g λf=>aE (aE (lT ([f.Aa,f.Ae]:List (List Int))) λl=>bK (λ(c,e)=>if c<(l.length:Int)then bL l c λo=>aE (bW a (⟨#[102,114,101,101]⟩:BA) ([o]:List Int)) λi=>aH ((e++([i]:List Ad)).length<=1000000000) <|aH (cI (c+1)) <|some (.inl ((c+1),(e++([i]:List Ad)))) else aX (some e)) ((0:Int),([]:List Ad))) λn=>aE (aE (fZ f) λj=>bK (λ(b,d)=>if b<(j.length:Int)then bL j b λh=>aE (if h.pos=2 then some (⟨#[114,101,118,101,114,115,101]⟩:BA) else some (⟨#[110,111,114,109,97,108]⟩:BA)) λv=>aE (gM a.A6 h.el) λp=>aE (bW a v ([p]:List Int)) λk=>aH ((d++([k]:List Ad)).length<=1000000000) <|aH (cI (b+1)) <|some (.inl ((b+1),(d++([k]:List Ad)))) else aX (some d)) ((0:Int),n)) λm=>aE (bW a (⟨#[99,108,101,97,114]⟩:BA) ([g]:List Int)) λq=>aE (mR q) λr=>aE (sU m) λs=>aE (bn ([r,s]:List Ad)) λt=>aE (fL a t (⟨#[112,114,111,118,101,100]⟩:BA) ([g]:List Int)) λu=>some (⟨a.A6,a.vars,u.list⟩:Aw)
def nG(b:Aw)(e:Int):Option Aw:=aE (bK (λ(a,f)=>if a<4 then aE (bL ([(⟨#[115,101,116]⟩:BA),(⟨#[99,108,101,97,114]⟩:BA),(⟨#[117,115,101,100]⟩:BA),(⟨#[104,101,108,100]⟩:BA)]:List BA) a λj=>aH (0<=(0:Int)/\0<=a/\a<=4) <|bK (λ(c,d)=>if c<((sub ([(⟨#[115,101,116]⟩:BA),(⟨#[99,108,101,97,114]⟩:BA),(⟨#[117,115,101,100]⟩:BA),(⟨#[104,101,108,100]⟩:BA)]:List BA) (0:Int) a).length:Int)then bL (sub ([(⟨#[115,101,116]⟩:BA),(⟨#[99,108,101,97,114]⟩:BA),(⟨#[117,115,101,100]⟩:BA),(⟨#[104,101,108,100]⟩:BA)]:List BA) (0:Int) a) c λk=>aE (bW b j ([e]:List Int)) λl=>aE (bW b k ([e]:List Int)) λm=>aE (sU ([l,m]:List Ad)) λn=>aE (mR n) λg=>aH ((d++([g]:List Ad)).length<=1000000000) <|aH (cI (c+1)) <|some (.inl ((c+1),(d++([g]:List Ad)))) else aX (some d)) ((0:Int),f)) λi=>aH (cI (a+1)) <|some (.inl ((a+1),i)) else aX (some f)) ((0:Int),([]:List Ad))) λh=>aE (sU h) λo=>aE (fL b o (⟨#[111,110,101]⟩:BA) ([e]:List Int)) λp=>some (⟨b.A6,b.vars,p.list⟩:Aw)
def mO(a:Aw)(b:Int):Option Aw:=aE (bK (λ(k6,c)=>bL a.A6.Ab b λd=>aH (cI ((d.Aa.length:Int)-1)) <|if k6<((d.Aa.length:Int)-1)then aE (bW a (⟨#[114,101,108]⟩:BA) ([b,k6]:List Int)) λg=>aE (mR g) λh=>aH (cI (k6-1)) <|aE (bW a (⟨#[114,101,108]⟩:BA) ([b,(k6-1)]:List Int)) λi=>aE (bn ([h,i]:List Ad)) λe=>aH ((c++([e]:List Ad)).length<=1000000000) <|aH (cI (k6+1)) <|some (.inl ((k6+1),(c++([e]:List Ad)))) else aX (some c)) ((1:Int),([]:List Ad))) λf=>aE (sU f) λj=>aE (fL a j (⟨#[114,101,108]⟩:BA) ([b]:List Int)) λk=>some (⟨a.A6,a.vars,k.list⟩:Aw)
def q9(a:Ah):Option ((List Ak)×Int):=aE (mD a) λ(m,n)=>if n=0 then aE (bK (λ(c,h)=>if c<(m.names.length:Int)then bL m.names c λs=>aH (h.map (·.1)).Nodup <|aH (cI (c+1)) <|some (.inl ((c+1),(tK h s c))) else aX (some h)) ((0:Int),([]:List (BA×Int)))) λb=>aE (lX (⟨a,b,([]:List Ak)⟩:Aw)) λt=>aE (jZ (⟨a,b,t.list⟩:Aw)) λu=>aE (bK (λ(d,i)=>if d<(a.Ab.length:Int)then aE (mP (⟨a,b,i⟩:Aw) d) λv=>aH (cI (d+1)) <|some (.inl ((d+1),v.list)) else aX (some i)) ((0:Int),u.list)) λo=>aE (bK (λ(e,j)=>if e<(a.Ab.length:Int)then aE (lC (⟨a,b,j⟩:Aw) e) λw=>aH (cI (e+1)) <|some (.inl ((e+1),w.list)) else aX (some j)) ((0:Int),o)) λp=>aE (bK (λ(f,k)=>if f<(a.Ab.length:Int)then aE (nG (⟨a,b,k⟩:Aw) f) λx=>aH (cI (f+1)) <|some (.inl ((f+1),x.list)) else aX (some k)) ((0:Int),p)) λq=>aE (bK (λ(g,l)=>if g<(a.Ab.length:Int)then aE (mO (⟨a,b,l⟩:Aw) g) λy=>aH (cI (g+1)) <|some (.inl ((g+1),y.list)) else aX (some l)) ((0:Int),q)) λr=>some (r,(0:Int)) else some (([]:List Ak),n)
def sY:Nat->Ad->Int->Int->Int->Option (Bool×Int)|0,_,_,_,_=>none|fu+1,a,f,d,b=>if((decide (12<d))||(decide (b=0)))=true then some (false,b) else aH (cI (b-1)) <|dZ (aE (if a.op=1 then some (decide (a.op=1)) else some (decide (a.op=2))) λk=>if k=true then aX (some (((decide (a.var=0))&&(decide ((a.args.length:Int)=0))),(b-1))) else if a.op=3 then aX (some (((decide (0<=a.var))&&((decide (a.var<f))&&(decide ((a.args.length:Int)=0)))),(b-1))) else if a.op=4 then if(a.args.length:Int)=1 then some (.inl ()) else aX (some (false,(b-1))) else if a.op=5 then some (.inl ()) else if a.op=6 then some (.inl ()) else aX (some (false,(b-1)))) λ_=>if a.var=0 then dZ (bK (λ(c,e)=>if c<(a.args.length:Int)then bL a.args c λi=>aH (cI (d+1)) <|aE ((sY fu) i f (d+1) e) λ(j,g)=>if(!(j))=true then aX (aX (some (false,g))) else aH (cI (c+1)) <|some (.inl ((c+1),g)) else aX (some (.inl e))) ((0:Int),(b-1))) λh=>some (true,h) else some (false,(b-1))
def Ji(a:Ad)(b:Int)(c:Int)(d:Int):Option (Bool×Int):=sY oM a b c d
def vv(a:Ad)(b:Int):Option Bool:=aE (Ji a b (1:Int) (20000:Int)) λ(c,d)=>some c
def cq(b:Program)(a:Ay):Option Bool:=dZ (if a.kind=1 then if a.Fn=0 then some (.inl ()) else aX (some false) else if a.kind=2 then if((decide (a.Fn<1))||(decide (1073741824<a.Fn)))=true then aX (some false) else some (.inl ()) else aX (some false)) λ_=>aE (if b.inputs<=a.var then if a.var<(b.names.length:Int)then aE (vv a.expr (b.names.length:Int)) λc=>some c else some false else some false) λd=>some d
def y8(a:Program):Option Int:=if 2000<(a.names.length:Int)then some (2:Int) else if((decide (a.inputs<0))||(decide ((a.names.length:Int)<a.inputs)))=true then some (1:Int) else dZ (bK (λd=>if d<(a.Ao.length:Int)then bL a.Ao d λg=>aE (cq a g) λh=>if(!(h))=true then aX (aX (some (1:Int))) else aH (cI (d+1)) <|some (.inl (d+1)) else aX (some (.inl ()))) (0:Int)) λ_=>aH (0<=(a.names.length:Int)/\(a.names.length:Int)<=1000000000) <|dZ (bK (λ(c,b)=>if c<(a.Ao.length:Int)then bL a.Ao c λe=>bL b e.var λf=>if f=true then aX (aX (some (8:Int))) else bL b e.var λj=>aH (cI (c+1)) <|some (.inl ((c+1),(b.set e.var.toNat true))) else aX (some (.inl b))) ((0:Int),(List.replicate (a.names.length:Int).toNat false))) λi=>some (0:Int)
def bl(a:Program):Option Machine:=aE (y8 a) λb=>if b=0 then aH (0<=(a.names.length:Int)/\(a.names.length:Int)<=1000000000) <|aH (0<=(a.Ao.length:Int)/\(a.Ao.length:Int)<=1000000000) <|some (⟨(List.replicate (a.names.length:Int).toNat false),(List.replicate (a.Ao.length:Int).toNat (0:Int)),false⟩:Machine) else some (⟨([]:List Bool),([]:List Int),true⟩:Machine)
def kX(a:(List Bool))(b:Int)(d:Bool):Option Bool:=aE (if b<(a.length:Int)then bL a b λc=>some (c == d) else some false) λe=>some e
def qW(a:(List Int))(b:Int)(d:Int):Option Bool:=aE (if b<(a.length:Int)then bL a b λc=>some (decide (c=d)) else some false) λe=>some e
def pN(e:Ah)(a:Au):Option ((List Bool)):=aE (oW e) λt=>if t=0 then aE (bK (λ(d,h)=>if d<e.Aa then aE (kX a.occupied d false) λi=>aE (kX a.closed d false) λj=>aH ((h++([i,j]:List Bool)).length<=1000000000) <|aH (cI (d+1)) <|some (.inl ((d+1),(h++([i,j]:List Bool)))) else aX (some h)) ((0:Int),([]:List Bool))) λr=>aE (bK (λ(c,f)=>if c<(e.Af.length:Int)then aE (qW a.detected c (1:Int)) λk=>aE (qW a.detected c (2:Int)) λl=>aH ((f++([k,l]:List Bool)).length<=1000000000) <|aH (cI (c+1)) <|some (.inl ((c+1),(f++([k,l]:List Bool)))) else aX (some f)) ((0:Int),r)) λq=>aE (bK (λ(b,g)=>if b<(e.Ab.length:Int)then aE (kX a.claimed b false) λm=>aE (kX a.passed b true) λn=>aE (cO a.calls b) λo=>aE (cO a.cancels b) λp=>aH ((g++([m,n,o,p]:List Bool)).length<=1000000000) <|aH (cI (b+1)) <|some (.inl ((b+1),(g++([m,n,o,p]:List Bool)))) else aX (some g)) ((0:Int),q)) λs=>some s else some ([]:List Bool)
def Ez(b:Program)(c:Machine):Option Bool:=aE (aE (y8 b) λg=>if g=0 then if(c.vars.length:Int)=(b.names.length:Int)then some (!(decide ((c.counts.length:Int)=(b.Ao.length:Int)))) else some true else some true) λh=>if h=true then some false else dZ (bK (λa=>if a<(b.Ao.length:Int)then bL b.Ao a λd=>aE (bL c.counts a λe=>if e<0 then some true else bL c.counts a λf=>some (decide (d.Fn<f))) λi=>if i=true then aX (aX (some false)) else aH (cI (a+1)) <|some (.inl (a+1)) else aX (some (.inl ()))) (0:Int)) λ_=>some true
def Ki(b:Program):Option Machine:=aE (bl b) λa=>some (⟨a.vars,a.counts,true⟩:Machine)
def uJ(a:(List Bool)):Option ((List Bool)):=Fh a (some ([]:List Bool)) (aH ((([]:List Bool)++a).length<=1000000000) <|some (([]:List Bool)++a))
def xA(a:Int)(b:Bool):Option (Int×Bool):=some (a,b)
def tM(a:Int)(c:Bool)(b:Ay):Option (Int×Bool):=if(!(c))=true then some ((0:Int),false) else if a<b.Fn then aH (cI (a+1)) <|some ((a+1),decide ((a+1)=b.Fn)) else some (a,decide (a=b.Fn))
def g7(a:Ay):Option Pg:=if a.kind=2 then some (⟨(Fn111.c129 a)⟩:Pg) else some (⟨Fn111.c128⟩:Pg)
def xp(a:Ad):Option Pc:=if a.op=3 then some (⟨242,a⟩:Pc) else if a.op=4 then if 0<(a.args.length:Int)then some (⟨243,a⟩:Pc) else some (⟨291,a⟩:Pc) else if a.op=5 then some (⟨244,a⟩:Pc) else if a.op=6 then some (⟨245,a⟩:Pc) else some (⟨291,a⟩:Pc)
def sG:Nat->Ad->(List Bool)->Option Bool|0,_,_=>none|fu+1,f,b=>dZ (aE (xp f) λa=>if a.tid=242 then aE (if 0<=a.e.var then if a.e.var<(b.length:Int)then bL b a.e.var λj=>some j else some false else some false) λn=>aX (some n) else if a.tid=243 then bL a.e.args (0:Int) λg=>aE ((sG fu) g b) λk=>aX (some (!(k))) else if a.tid=244 then dZ (bK (λc=>if c<(a.e.args.length:Int)then bL a.e.args c λh=>aE ((sG fu) h b) λl=>if(!(l))=true then aX (aX (aX (some false))) else aH (cI (c+1)) <|some (.inl (c+1)) else aX (some (.inl ()))) (0:Int)) λ_=>aX (some true) else if a.tid=245 then dZ (bK (λd=>if d<(a.e.args.length:Int)then bL a.e.args d λi=>aE ((sG fu) i b) λm=>if m=true then aX (aX (aX (some true))) else aH (cI (d+1)) <|some (.inl (d+1)) else aX (some (.inl ()))) (0:Int)) λ_=>aX (some false) else some (.inl ())) λ_=>some (decide (f.op=2))
def Ns(a:Ad)(b:(List Bool)):Option Bool:=sG oM a b
def zq(a:Ad)(b:(List Bool)):Option Bool:=aE (Ns a b) λc=>some c
def q0(g:Program)(h:Machine)(j:(List Bool)):Option Machine:=aE (if(h.halted)=true then some true else aE (Ez g h) λq=>some (!(q))) λz=>if z=true then aE (Ki g) λv=>some v else aE (uJ h.vars) λw=>aE (dH h.counts) λx=>aE (bK (λ(a,f)=>if a<g.inputs then if a<(j.length:Int)then bL j a λo=>bL f a λB=>aH (cI (a+1)) <|some (.inl ((a+1),(f.set a.toNat o))) else bL f a λA=>aH (cI (a+1)) <|some (.inl ((a+1),(f.set a.toNat false))) else aX (some f)) ((0:Int),w)) λn=>aE (bK (λ(b,c,d)=>if b<(g.Ao.length:Int)then bL g.Ao b λe=>aE (g7 e) λp=>bL d b λi=>aE (zq e.expr c) λk=>(match p.act with|.c128=>aE (xA i k) λ(r,s)=>bL d b λC=>bL c e.var λE=>aH (cI (b+1)) <|some (.inl ((b+1),(c.set e.var.toNat s),(d.set b.toNat r)))|.c129 y=>aE (tM i k y) λ(t,u)=>bL d b λF=>bL c e.var λG=>aH (cI (b+1)) <|some (.inl ((b+1),(c.set e.var.toNat u),(d.set b.toNat t)))) else aX (some (c,d))) ((0:Int),n,x)) λ(l,m)=>some (⟨l,m,false⟩:Machine)
def oQ(a:A5)(b:Machine):Option Bool:=aE (if(b.vars.length:Int)=a.count then aH (cI (a.count-a.inputs)) <|some (decide ((b.counts.length:Int)=(a.count-a.inputs))) else some false) λc=>some c
def wU(a:Ah)(d:Machine):Option ((List Bool)):=aE (oW a) λi=>if i=0 then aH (0<=a.Al/\a.Al<=1000000000) <|aE (sA a) λ(f,l)=>aE (if l=0 then if(d.halted)=true then some true else aE (oQ f d) λj=>some (!(j)) else some true) λm=>if m=true then some (List.replicate a.Al.toNat false) else aE (bK (λ(b,c)=>if b<(a.Ab.length:Int)then bL a.Ab b λe=>aE (dJ f b (1:Int)) λk=>bL d.vars k λh=>if h=true then bL c e.entry λn=>aH (cI (b+1)) <|some (.inl ((b+1),(c.set e.entry.toNat true))) else aH (cI (b+1)) <|some (.inl ((b+1),c)) else aX (some c)) ((0:Int),(List.replicate a.Al.toNat false))) λg=>some g else some ([]:List Bool)
def xB(a:Ak)(b:Machine):Option Bool:=aE (zq a.expr b.vars) λc=>some (!(c))
def oK(b:(List Ak))(d:Ak->Option Bool):Option Int:=dZ (bK (λa=>if a<(b.length:Int)then bL b a λc=>aE (d c) λe=>if e=true then aX (aX (some a)) else aH (cI (a+1)) <|some (.inl (a+1)) else aX (some (.inl ()))) (0:Int)) λ_=>some (-1:Int)
def vL(b:(List Ak))(c:Machine):Option Int:=aE (oK b (λa=>xB a c)) λd=>some d
def rT:Option Bool:=aE (qIO) λh=>aE (eb h) λ(a,q)=>aE (mD a) λ(c,o)=>aE (q9 a) λ(e,i)=>aH (0<=(3:Int)/\(3:Int)<=1000000000) <|aH (0<=(3:Int)/\(3:Int)<=1000000000) <|aH (0<=(2:Int)/\(2:Int)<=1000000000) <|aE (bl c) λj=>aE (pN a (⟨(List.replicate (3:Int).toNat false),([]:List Int),(List.replicate (3:Int).toNat false),(List.replicate (2:Int).toNat false),([]:List Bool),([(0:Int)]:List Int),([]:List Int)⟩:Au)) λk=>aE (q0 c j k) λl=>aE (pN a (⟨(List.replicate (3:Int).toNat false),([]:List Int),(List.replicate (3:Int).toNat false),(List.replicate (2:Int).toNat false),([]:List Bool),([(0:Int)]:List Int),([]:List Int)⟩:Au)) λm=>aE (q0 c l m) λd=>aE (wU a d) λb=>aE (if o=0 then if i=0 then if(b.length:Int)=2 then bL b (0:Int) λf=>if f=true then bL b (1:Int) λg=>if(!(g))=true then if 0<(e.length:Int)then aE (vL e d) λn=>some (decide (n=(-1:Int))) else some false else some false else some false else some false else some false else some false) λp=>some p
def xF(a:Ah):Option Av:=aE (oW a) λe=>if e=0 then aH (0<=(a.Ab.length:Int)/\(a.Ab.length:Int)<=1000000000) <|aE (bK (λ(c,b)=>if c<(a.Af.length:Int)then aH ((b++([(1:Int)]:List Int)).length<=1000000000) <|aH (cI (c+1)) <|some (.inl ((c+1),(b++([(1:Int)]:List Int)))) else aX (some b)) ((0:Int),([]:List Int))) λd=>some (⟨(List.replicate (a.Ab.length:Int).toNat (⟨(0:Int),(0:Int),(0:Int)⟩:Ag)),d⟩:Av) else some (⟨([]:List Ag),([]:List Int)⟩:Av)
def C1(b:(List Int)):Option ((List Int)):=aE (dH b) λa=>aH (a.length<=1000000000) <|aH ((uU a).length<=1000000000) <|some (Go.Lib.compact (uU a))
def xC(a:Ag)(b:Int):Option Bool:=aE (if a.state=0 then some (decide (a.state=0)) else if a.state=1 then some (decide (a.state=1)) else some (decide (a.state=2))) λc=>if c=true then some ((decide (a.rel=0))&&(decide (a.timer=0))) else if a.state=3 then if((decide (a.rel<0))||(decide (b<=a.rel)))=true then some false else aE (if a.timer=0 then some true else aH (cI (b-1)) <|if a.rel=(b-1)then if 0<a.timer then some (decide (a.timer<4)) else some false else some false) λd=>some d else if a.state=4 then some ((decide (0<=a.rel))&&((decide (a.rel<b))&&((decide (0<=a.timer))&&(decide (a.timer<12))))) else some false
def bq(c:Ah)(a:Av):Option Bool:=aE (aE (oW c) λi=>if i=0 then if(a.Ab.length:Int)=(c.Ab.length:Int)then some (!(decide ((a.lies.length:Int)=(c.Af.length:Int)))) else some true else some true) λj=>if j=true then some false else dZ (bK (λb=>if b<(a.Ab.length:Int)then bL a.Ab b λf=>bL c.Ab b λg=>aE (xC f (g.Aa.length:Int)) λh=>if(!(h))=true then aX (aX (some false)) else aH (cI (b+1)) <|some (.inl (b+1)) else aX (some (.inl ()))) (0:Int)) λ_=>dZ (bK (λd=>if d<(a.lies.length:Int)then bL a.lies d λe=>if((!(decide (e=1)))&&(!(decide (e=2))))=true then aX (aX (some false)) else aH (cI (d+1)) <|some (.inl (d+1)) else aX (some (.inl ()))) (0:Int)) λ_=>some true
def vg(a:Aj)(b:Ag):Option ((List Int)):=if b.state=0 then some ([]:List Int) else aH (0<=b.rel/\b.rel<=(a.Aa.length:Int)/\(a.Aa.length:Int)<=(a.Aa.length:Int)) <|aE (dH (sub a.Aa b.rel (a.Aa.length:Int))) λc=>some c
def Cv(a:Aj)(b:Ag):Option ((List Int)):=if b.state=0 then some ([]:List Int) else aE (dH a.Ae) λc=>some c
def vN(g:Aj)(h:Ag):Option ((List Ax)):=aE (aE (vg g h) λj=>bK (λ(b,d)=>if b<(j.length:Int)then bL j b λe=>aH ((d++([(⟨e,(0:Int)⟩:Ax)]:List Ax)).length<=1000000000) <|aH (cI (b+1)) <|some (.inl ((b+1),(d++([(⟨e,(0:Int)⟩:Ax)]:List Ax)))) else aX (some d)) ((0:Int),([]:List Ax))) λk=>aE (aE (Cv g h) λi=>bK (λ(a,c)=>if a<(i.length:Int)then bL i a λf=>aH ((c++([(⟨f,(1:Int)⟩:Ax)]:List Ax)).length<=1000000000) <|aH (cI (a+1)) <|some (.inl ((a+1),(c++([(⟨f,(1:Int)⟩:Ax)]:List Ax)))) else aX (some c)) ((0:Int),k)) λl=>some l
def zj(c:(List Ax))(d:Int)(e:Int):Option Bool:=dZ (bK (λa=>if a<(c.length:Int)then bL c a λb=>aH (Ax.ok b/\Ax.ok (⟨d,e⟩:Ax)) <|if b=(⟨d,e⟩:Ax)then aX (aX (some true)) else aH (cI (a+1)) <|some (.inl (a+1)) else aX (some (.inl ()))) (0:Int)) λ_=>some false
def yG(c:Aj)(d:Aj)(e:(List Ax))(f:(List Ax)):Option Bool:=aE (hZ c d) λg=>aE (hZ d c) λj=>dZ (bK (λb=>if b<(e.length:Int)then bL e b λa=>aE (aE (zj f a.a0 (0:Int)) λh=>if h=true then if a.a1=0 then some true else some (!(g)) else some false) λl=>if l=true then aX (aX (some true)) else aE (aE (zj f a.a0 (1:Int)) λi=>if i=true then if(!(j))=true then if a.a1=0 then some true else some (!(g)) else some false else some false) λk=>if k=true then aX (aX (some true)) else aH (cI (b+1)) <|some (.inl (b+1)) else aX (some (.inl ()))) (0:Int)) λ_=>some false
def G3(a:(List Int))(b:Int):Option Bool:=aE (cO a b) λc=>some c
def en(f:Ah)(a:Aj)(d:Ag):Option ((List Ac)):=if d.state=0 then some ([]:List Ac) else aE (bK (λ(b,c)=>if b<(a.Af.length:Int)then bL a.Af b λe=>aH (0<=(0:Int)/\0<=d.rel/\d.rel<=(a.Aa.length:Int)) <|aE (gM f e.el) λi=>bL f.A9 i λh=>aE (G3 (sub a.Aa (0:Int) d.rel) h) λj=>if(!(j))=true then aH ((c++([e]:List Ac)).length<=1000000000) <|aH (cI (b+1)) <|some (.inl ((b+1),(c++([e]:List Ac)))) else aH (cI (b+1)) <|some (.inl ((b+1),c)) else aX (some c)) ((0:Int),([]:List Ac))) λg=>aE (fZ (⟨(⟨#[]⟩:BA),(0:Int),(0:Int),([]:List As),g,([]:List Int),(0:Int),(0:Int),([]:List As),a.Am,([]:List Int),a.A4,([]:List Int),([]:List End)⟩:Aj)) λk=>some k
def eo(a:Ah)(f:Av):Option Bool:=aE (bq a f) λv=>if(!(v))=true then some false else aE (bK (λ(e,h)=>if e<(a.Ab.length:Int)then bL a.Ab e λm=>bL f.Ab e λn=>aE (vN m n) λk=>aH ((h++([k]:List (List Ax))).length<=1000000000) <|aH (cI (e+1)) <|some (.inl ((e+1),(h++([k]:List (List Ax))))) else aX (some h)) ((0:Int),([]:List (List Ax)))) λi=>dZ (bK (λb=>if b<(a.Ab.length:Int)then dZ (bK (λc=>if c<b then bL a.Ab b λo=>bL a.Ab c λp=>bL i b λq=>bL i c λr=>aE (yG o p q r) λw=>if w=true then aX (aX (aX (aX (some false)))) else aH (cI (c+1)) <|some (.inl (c+1)) else aX (some (.inl ()))) (0:Int)) λ_=>aH (cI (b+1)) <|some (.inl (b+1)) else aX (some (.inl ()))) (0:Int)) λ_=>dZ (bK (λd=>if d<(a.Ab.length:Int)then dZ (bL a.Ab d λs=>bL f.Ab d λt=>aE (en a s t) λl=>bK (λg=>if g<(l.length:Int)then bL l g λj=>aE (gM a j.el) λx=>bL f.lies x λu=>if u=j.pos then aH (cI (g+1)) <|some (.inl (g+1)) else aX (aX (aX (aX (some false)))) else aX (some (.inl ()))) (0:Int)) λ_=>aH (cI (d+1)) <|some (.inl (d+1)) else aX (some (.inl ()))) (0:Int)) λ_=>some true
def nM(a:(List Ag)):Option ((List Ag)):=Fh a (some ([]:List Ag)) (aH ((([]:List Ag)++a).length<=1000000000) <|some (([]:List Ag)++a))
def tQ(a:Av):Option Av:=aE (nM a.Ab) λb=>aE (dH a.lies) λc=>some (⟨b,c⟩:Av)
def uV(b:(List Int))(d:Int->Option Bool):Option Int:=dZ (bK (λa=>if a<(b.length:Int)then bL b a λc=>aE (d c) λe=>if e=true then aX (aX (some a)) else aH (cI (a+1)) <|some (.inl (a+1)) else aX (some (.inl ()))) (0:Int)) λ_=>some (-1:Int)
def kZ(a:(List Int))(b:Int->Option Bool):Option Bool:=aE (uV a b) λc=>some (decide (0<=c))
def bk(a:Int):Option Bool:=some ((!(decide (a=1)))&&(!(decide (a=2))))
def co(d:Ah)(b:Av):Option Bool:=aE (aE (oW d) λf=>if f=0 then if(b.Ab.length:Int)=(d.Ab.length:Int)then some (!(decide ((b.lies.length:Int)=(d.Af.length:Int)))) else some true else some true) λh=>if h=true then some false else dZ (bK (λc=>if c<(b.Ab.length:Int)then bL b.Ab c λa=>bL d.Ab c λe=>if((decide (a.state<0))||(decide (4<a.state)))=true then aX (aX (some false)) else if((!(((decide (a.state=3))||(decide (a.state=4)))))&&((!(decide (a.rel=0)))||(!(decide (a.timer=0)))))=true then aX (aX (some false)) else if((decide (a.rel<0))||((decide ((e.Aa.length:Int)<=a.rel))||(decide (a.timer<0))))=true then aX (aX (some false)) else aE (if a.state=3 then if 0<a.timer then aH (cI ((e.Aa.length:Int)-1)) <|if a.rel=((e.Aa.length:Int)-1)then some (decide (4<=a.timer)) else some true else some false else some false) λi=>if i=true then aX (aX (some false)) else if((decide (a.state=4))&&(decide (12<=a.timer)))=true then aX (aX (some false)) else aH (cI (c+1)) <|some (.inl (c+1)) else aX (some (.inl ()))) (0:Int)) λ_=>aE (kZ b.lies bk) λg=>some (!(g))
def Cw(b:Ah)(c:Av)(a:Int):Option ((List Int)):=aE (if a<0 then some true else if(b.Ab.length:Int)<=a then some true else aE (bq b c) λf=>some (!(f))) λh=>if h=true then some ([]:List Int) else bL b.Ab a λd=>bL c.Ab a λe=>aE (vg d e) λg=>some g
def jD(b:Au)(a:Int):Option Bool:=aE (if a<0 then some true else if(b.occupied.length:Int)<=a then some true else bL b.occupied a λc=>some c) λd=>some d
def lB(d:Ah)(e:Av)(f:Au)(g:Int):Option Bool:=dZ (aE (Cw d e g) λb=>bK (λa=>if a<(b.length:Int)then bL b a λc=>aE (jD f c) λh=>if h=true then aX (aX (some false)) else aH (cI (a+1)) <|some (.inl (a+1)) else aX (some (.inl ()))) (0:Int)) λ_=>some true
def tL(k:Ah)(c:Au)(d:Aj):Option Bool:=dZ (aE (lT ([d.Aa,d.Ae]:List (List Int))) λg=>bK (λb=>if b<(g.length:Int)then bL g b λj=>aE (jD c j) λl=>if l=true then aX (aX (some false)) else aH (cI (b+1)) <|some (.inl (b+1)) else aX (some (.inl ()))) (0:Int)) λ_=>dZ (aE (fZ d) λf=>bK (λa=>if a<(f.length:Int)then bL f a λe=>aE (gM k e.el) λh=>aE (if(c.detected.length:Int)<=h then some true else bL c.detected h λi=>some (!(decide (i=e.pos)))) λm=>if m=true then aX (aX (some false)) else aH (cI (a+1)) <|some (.inl (a+1)) else aX (some (.inl ()))) (0:Int)) λ_=>some true
def rO(a:Ph):Option Ag:=bL a.route.Aa (0:Int) λb=>aE (jD a.inV b) λd=>if d=true then some (⟨(3:Int),(0:Int),(0:Int)⟩:Ag) else aE (if(a.cancelled)=true then if(!(a.claimed))=true then aE (jD a.inV a.route.A1) λe=>some (!(e)) else some false else some false) λg=>if g=true then some (⟨(0:Int),(0:Int),(0:Int)⟩:Ag) else aE (if(a.cancelled)=true then some true else aE (tL a.t a.inV a.route) λc=>some (!(c))) λf=>if f=true then some (⟨(4:Int),(0:Int),(0:Int)⟩:Ag) else some (⟨(2:Int),(0:Int),(0:Int)⟩:Ag)
def sP(a:Ph):Option Ag:=aH (cI ((a.route.Aa.length:Int)-1)) <|if(a.claimed)=true then some (⟨(3:Int),a.old.rel,(0:Int)⟩:Ag) else if((a.cancelled)&&(a.emptied))=true then some (⟨(4:Int),a.old.rel,(0:Int)⟩:Ag) else bL a.route.Aa a.old.rel λc=>aE (jD a.inV c) λe=>if(!(e))=true then if a.old.rel=((a.route.Aa.length:Int)-1)then some (⟨(0:Int),(0:Int),(0:Int)⟩:Ag) else aE (if(a.passed)=true then some true else aH (cI (a.old.rel+1)) <|bL a.route.Aa (a.old.rel+1) λb=>aE (jD a.inV b) λd=>some d) λf=>if f=true then aH (cI (a.old.rel+1)) <|some (⟨(3:Int),(a.old.rel+1),(0:Int)⟩:Ag) else some (⟨(3:Int),a.old.rel,(0:Int)⟩:Ag) else if a.old.rel<((a.route.Aa.length:Int)-1)then some (⟨(3:Int),a.old.rel,(0:Int)⟩:Ag) else aH (cI (a.old.timer+1)) <|if(a.old.timer+1)=4 then some (⟨(0:Int),(0:Int),(0:Int)⟩:Ag) else some (⟨(3:Int),a.old.rel,(a.old.timer+1)⟩:Ag)
def sQ(a:Ph):Option Ag:=bL a.route.Aa a.old.rel λb=>aE (jD a.inV b) λc=>if c=true then some (⟨(3:Int),a.old.rel,(0:Int)⟩:Ag) else if((a.claimed)||(!(a.emptied)))=true then some (⟨(4:Int),a.old.rel,(0:Int)⟩:Ag) else aH (cI (a.old.timer+1)) <|if(a.old.timer+1)=12 then some (⟨(0:Int),(0:Int),(0:Int)⟩:Ag) else some (⟨(4:Int),a.old.rel,(a.old.timer+1)⟩:Ag)
def cp(e:Ah)(g:Av)(b:Au)(c:Int):Option Ag:=aE (if c<0 then some true else if(e.Ab.length:Int)<=c then some true else aE (co e g) λO=>some (!(O))) λT=>if T=true then some (⟨(0:Int),(0:Int),(0:Int)⟩:Ag) else aE (bL e.Ab c λa=>bL g.Ab c λd=>if(b.claimed.length:Int)<=c then if c<(b.passed.length:Int)then bL b.passed c λE=>aE (cO b.cancels c) λL=>aE (lB e g b c) λM=>some (a.name,a.entry,a.exit,a.path,a.Af,a.Aa,a.A1,a.length,a.over,a.Am,a.Ae,a.A4,a.guards,a.gaps,d.state,d.rel,d.timer,true,E,L,M) else aE (cO b.cancels c) λJ=>aE (lB e g b c) λK=>some (a.name,a.entry,a.exit,a.path,a.Af,a.Aa,a.A1,a.length,a.over,a.Am,a.Ae,a.A4,a.guards,a.gaps,d.state,d.rel,d.timer,true,false,J,K) else bL b.claimed c λB=>if c<(b.passed.length:Int)then bL b.passed c λC=>aE (cO b.cancels c) λH=>aE (lB e g b c) λI=>some (a.name,a.entry,a.exit,a.path,a.Af,a.Aa,a.A1,a.length,a.over,a.Am,a.Ae,a.A4,a.guards,a.gaps,d.state,d.rel,d.timer,B,C,H,I) else aE (cO b.cancels c) λF=>aE (lB e g b c) λG=>some (a.name,a.entry,a.exit,a.path,a.Af,a.Aa,a.A1,a.length,a.over,a.Am,a.Ae,a.A4,a.guards,a.gaps,d.state,d.rel,d.timer,B,false,F,G)) λ(v,w,x,h,i,j,k,l,m,n,o,p,q,r,f,s,t,y,z,u,A)=>dZ (if f=1 then if u=true then aX (some (⟨(0:Int),(0:Int),(0:Int)⟩:Ag)) else aE (tL e b (⟨v,w,x,h,i,j,k,l,m,n,o,p,q,r⟩:Aj)) λN=>if(!(N))=true then aX (some (⟨f,s,t⟩:Ag)) else some (.inl ()) else if f=2 then some (.inl ()) else if f=3 then aX (aE (sP (⟨e,b,(⟨v,w,x,h,i,j,k,l,m,n,o,p,q,r⟩:Aj),(⟨f,s,t⟩:Ag),y,z,u,A⟩:Ph)) λP=>some P) else if f=4 then aX (aE (sQ (⟨e,b,(⟨v,w,x,h,i,j,k,l,m,n,o,p,q,r⟩:Aj),(⟨f,s,t⟩:Ag),y,z,u,A⟩:Ph)) λR=>some R) else aX (some (⟨(0:Int),(0:Int),(0:Int)⟩:Ag))) λ_=>aE (rO (⟨e,b,(⟨v,w,x,h,i,j,k,l,m,n,o,p,q,r⟩:Aj),(⟨f,s,t⟩:Ag),y,z,u,A⟩:Ph)) λS=>some S
def qU(b:(List Bool))(a:Int):Option Bool:=aE (if a<0 then some true else if(b.length:Int)<=a then some true else bL b a λc=>some c) λd=>some d
def Cx(a:Ah)(e:Av)(m:Au)(b:Int):Option Int:=aE (aE (eo a e) λw=>if(!(w))=true then some true else if b<0 then some true else some (decide ((a.Ab.length:Int)<=b))) λC=>if C=true then some (1:Int) else bL e.Ab b λu=>if u.state=0 then bL a.Ab b λh=>aE (vN h (⟨(1:Int),(0:Int),(0:Int)⟩:Ag)) λi=>dZ (bK (λf=>if f<(i.length:Int)then bL i f λo=>aE (qU m.closed o.a0) λv=>if v=true then aX (aX (some (13:Int))) else aH (cI (f+1)) <|some (.inl (f+1)) else aX (some (.inl ()))) (0:Int)) λ_=>dZ (bK (λc=>if c<(a.Ab.length:Int)then bL a.Ab c λk=>aE (if c=b then some false else bL e.Ab c λp=>aE (vN k p) λx=>aE (yG h k i x) λy=>some y) λE=>if E=true then aX (aX (some (12:Int))) else aH (cI (c+1)) <|some (.inl (c+1)) else aX (some (.inl ()))) (0:Int)) λ_=>aE (fZ h) λj=>dZ (bK (λd=>if d<(a.Ab.length:Int)then bL a.Ab d λq=>aE (if d=b then some false else bL e.Ab d λr=>aE (en a q r) λz=>aE (kQ j z) λA=>some (!(A))) λF=>if F=true then aX (aX (some (10:Int))) else aH (cI (d+1)) <|some (.inl (d+1)) else aX (some (.inl ()))) (0:Int)) λ_=>dZ (bK (λg=>if g<(j.length:Int)then bL j g λl=>aE (gM a l.el) λn=>aE (bL e.lies n λs=>if s=l.pos then some false else bL a.A9 n λt=>aE (qU m.occupied t) λB=>some B) λG=>if G=true then aX (aX (some (14:Int))) else aH (cI (g+1)) <|some (.inl (g+1)) else aX (some (.inl ()))) (0:Int)) λ_=>some (0:Int) else some (11:Int)
def qV(b:Ah)(g:Av):Option ((List Bool)):=aH (0<=b.Al/\b.Al<=1000000000) <|aE (bK (λ(a,c)=>if a<(b.Ab.length:Int)then bL b.Ab a λd=>bL g.Ab a λf=>if f.state=2 then bL c d.entry λh=>aH (cI (a+1)) <|some (.inl ((a+1),(c.set d.entry.toNat true))) else aH (cI (a+1)) <|some (.inl ((a+1),c)) else aX (some c)) ((0:Int),(List.replicate b.Al.toNat false))) λe=>some e
def nI(a:Pf)(b:Int):Option Pf:=aE (Cx a.t a.inter a.inV b) λi=>if i=0 then bL a.inter.Ab b λk=>bL a.t.Ab b λh=>aE (fZ h) λg=>bK (λ(c,d)=>if c<(g.length:Int)then bL g c λe=>aE (gM a.t e.el) λf=>bL d f λj=>aH (cI (c+1)) <|some (.inl ((c+1),(d.set f.toNat e.pos))) else aX (some (⟨(⟨(a.inter.Ab.set b.toNat (⟨(1:Int),(0:Int),(0:Int)⟩:Ag)),d⟩:Av),a.t,a.inV,a.refused⟩:Pf))) ((0:Int),a.inter.lies) else aH ((a.refused++([b]:List Int)).length<=1000000000) <|some (⟨a.inter,a.t,a.inV,(a.refused++([b]:List Int))⟩:Pf)
def xG(a:Ah)(c:Av)(g:Au):Option (Av×Pd):=aE (C1 g.calls) λh=>aE (eo a c) λt=>if(!(t))=true then aE (dH c.lies) λv=>aE (aE (oW a) λy=>if y=0 then aH (0<=a.Al/\a.Al<=1000000000) <|some (List.replicate a.Al.toNat false) else some ([]:List Bool)) λq=>aE (tQ c) λs=>some (s,(⟨q,v,h⟩:Pd)) else aE (tQ c) λi=>aE (bK (λ(b,e)=>if b<(i.Ab.length:Int)then aE (cp a c g b) λu=>bL e b λz=>aH (cI (b+1)) <|some (.inl ((b+1),(e.set b.toNat u))) else aX (some e)) ((0:Int),i.Ab)) λo=>aE (bK (λ(d,l,m,n)=>if d<(h.length:Int)then bL h d λr=>aE (nI (⟨(⟨m,n⟩:Av),a,g,l⟩:Pf) r) λj=>aH (cI (d+1)) <|some (.inl ((d+1),j.refused,j.inter.Ab,j.inter.lies)) else aX (some (m,n,l))) ((0:Int),([]:List Int),o,i.lies)) λ(k,f,p)=>aE (qV a (⟨k,f⟩:Av)) λw=>aE (dH f) λx=>some ((⟨k,f⟩:Av),(⟨w,x,p⟩:Pd))
def qk(m:Ar)(e:(List Au)):Option Bool:=aE (eb m) λ(a,F)=>aE (aE (Gk m e) λH=>if(!(H))=true then some true else some (!(decide (F=0)))) λM=>if M=true then aE (rT) λK=>some K else aE (mD a) λ(n,o)=>if o=0 then aE (q9 a) λ(C,E)=>aE (xF a) λp=>aE (bl n) λf=>dZ (bK (λ(c,h,i,j,k,l)=>if c<(e.length:Int)then dZ (bL e c λx=>aE (xG a (⟨h,i⟩:Av) x) λ(q,r)=>bL e c λy=>aE (pN a y) λG=>aE (q0 n (⟨j,k,l⟩:Machine) G) λb=>aE (wU a b) λg=>aE (if(g.length:Int)=(r.clear.length:Int)then if E=0 then aE (vL C b) λI=>some (!(decide (I=(-1:Int)))) else some false else some true) λN=>if N=true then aX (aX (aX (some false))) else bK (λd=>if d<(g.length:Int)then bL g d λz=>bL r.clear d λA=>if(!((z == A)))=true then aX (aX (aX (aX (some false)))) else aH (cI (d+1)) <|some (.inl (d+1)) else aX (some (.inl (q.Ab,q.lies,b.vars,b.counts,b.halted)))) (0:Int)) λ(s,t,u,v,w)=>aH (cI (c+1)) <|some (.inl ((c+1),s,t,u,v,w)) else aX (some (.inl (h,i,j,k,l)))) ((0:Int),p.Ab,p.lies,f.vars,f.counts,f.halted)) λ(O,P,R,S,T)=>aE (rT) λJ=>some J else aE (if o=2 then aE (rT) λB=>some B else some false) λL=>some L
@[simp] theorem aK[Decidable p](h:p):aH p k=k:=if_pos h
@[simp] theorem aC(a:α)(k:α->Option β):aE (some a) k=k a:=rfl
@[simp] theorem iA(a:α)(k:α->Option β):dZ (some (.inl a)) k=k a:=rfl
@[simp] theorem qJ(b:β)(k:α->Option β):dZ (some (.inr b)) k=some b:=rfl
@[simp] theorem jG(b:β):(aX (some b):Option (α ⊕ β))=some (.inr b):=rfl
theorem aR{e:α}{k:α->Option β}(h:l[i]?=some e):bL l (i:Int) k=k e:=by simp[bL,h]
theorem vB{i:Int}{e:α}{k:α->Option β}(h0:0<=i)(h:l[i.toNat]?=some e):bL l i k=k e:=by simp[bL,h0,h]
@[simp] theorem ite_bindM[Decidable p](a b:α)(k:α->Option β):aE (if p then some a else some b) k=k (if p then a else b):=by split<;>rfl
theorem qb[Decidable p](a b:Option α)(k:α->Option β):aE (if p then a else b) k=if p then aE a k else aE b k:=by split<;>rfl
theorem Kz[Decidable p](a b:α):(if p then some a else some b)=some (if p then a else b):=by split<;>rfl
theorem Y4[Decidable p]{a b:Bool}:((if p then a else b)=true)=((p/\a=true)\/(¬p/\b=true)):=by split<;>simp_all
theorem qIR(l:List α)(i:Nat):sub l (i:Int) (l.length:Int)=l.drop i:=by simp[sub,<- List.length_drop]
theorem sub_take(l:List α)(i:Nat):sub l 0 (i:Int)=l.take i:=by simp[sub]
variable {σ ρ:Type}
theorem qLO{f:σ->Option (σ ⊕ ρ)}(B:Nat->σ){o:ρ}:∀(n k:Nat),(∀i,k<=i->i<k+n->f (B i)=some (.inl (B (i+1))))->f (B (k+n))=some (.inr o)->tP f (n+1) (B k)=some o
 |0,k,_,he=>by simp only[cg]at he;simp[tP,he]
 |n+1,k,hf,he=>by
  simp only[tP];rw[hf k (oA _) aB];exact qLO B n (k+1) (λi h1 h2=>hf i aB aB) (by rw[show k+1+n=k+(n+1) by omega];exact he)
theorem zI{f:σ->Option (σ ⊕ ρ)}(B:Nat->σ)(n:Nat){o:ρ}{s:σ}(hs:s=B 0)(hn:n<=9223372036854775807)(hf:∀i,i<n->f (B i)=some (.inl (B (i+1))))(he:f (B n)=some (.inr o)):bK f s=some o:=by subst hs;exact zi (qLO B n 0 (λi _ h=>hf i aB) (by rw[iO];exact he)) V9
variable {f:Int->Option (Int ⊕ ρ)}
theorem qKZ(n:Nat)(c:Nat->Option ρ)(o:ρ)(hn:n<=9223372036854775807)(hf:∀i,i<n->f (i:Int)=match c i with
  |some r=>some (.inr r)
  |none=>some (.inl ((i:Int)+1))) (he:f (n:Int)=some (.inr o)):bK f 0=some (((List.range n).findSome? c).getD o):=by
 cases h:(List.range n).findSome? c with
 |none=>
  rw[List.findSome?_eq_none_iff]at h;refine zI (λi=>(i:Int)) n rfl hn (λi hi=>?_) he;rw[hf i hi,h i (zal120q.2 hi)];rfl
 |some r=>
  rw[List.findSome?_eq_some_iff]at h;obtain⟨l1,a,l2,h1,h2,h3⟩:=h
  have ha:l1.length=a/\a<n:=by
   have hlen:l1.length<(List.range n).length:=by rw[h1];simp
   have:(List.range n)[l1.length]?=some a:=by rw[h1];simp
   simp only[xx]at hlen;simp[hlen]at this;exact⟨this,aB⟩
  obtain⟨ha1,ha2⟩:=ha;refine zI (λi=>(i:Int)) a rfl aB (λi hi=>?_) ?_
  have hm:i∈l1:=by
   have:(List.range n)[i]?=some i:=ew aB;rw[h1,Bb aB]at this;exact kK this
  rw[hf i aB,h3 i hm];rfl;rw[hf a ha2,h2];rfl
theorem Yj(l:List α)(c:Nat->Option β)(d:α->Option β)(h:∀(i:Nat)(e:α),l[i]?=some e->c i=d e):(List.range l.length).findSome? c=l.findSome? d:=by induction l generalizing c with|nil=>rfl|cons x r ih=>rw[kM,List.range_succ_eq_map,List.findSome?_cons,List.findSome?_map,List.findSome?_cons,h 0 x rfl];cases d x with|some b=>rfl|none=>exact ih (c ∘ Nat.succ) λi e he=>h (i+1) e (by simpa using he)
theorem qWB(l:List α)(d:α->Option ρ)(o:ρ)(hn:l.length<=9223372036854775807)(hf:∀(i:Nat)(e:α),l[i]?=some e->f (i:Int)=match d e with
  |some r=>some (.inr r)
  |none=>some (.inl ((i:Int)+1))) (he:f (l.length:Int)=some (.inr o)):bK f 0=some ((l.findSome? d).getD o):=by
 rw[qKZ l.length (λi=>(l[i]?).bind d) o hn (λi hi=>?_) he,Yj l _ d (λi e he=>by simp[he])];rw[hf i l[i] aN,iG hi];rfl
theorem Le(l:List α)(c:α->Bool)(v:β):l.findSome? (λe=>if c e=true then some v else none)=if l.any c=true then some v else none:=by induction l with|nil=>rfl|cons x r ih=>rw[List.findSome?_cons,pW,ih];cases c x<;>simp
theorem nH(l:List α)(c:α->Bool)(v o:ρ)(hn:l.length<=9223372036854775807)(hf:∀(i:Nat)(e:α),l[i]?=some e->f (i:Int)=if c e=true then some (.inr v)else some (.inl ((i:Int)+1)))(he:f (l.length:Int)=some (.inr o)):bK f 0=some (if l.any c=true then v else o):=by rw[qWB l (λe=>if c e=true then some v else none) o hn (λi e h=>by rw[hf i e h];cases c e<;>simp) he,Le];split<;>rfl
theorem vM(n:Nat)(c:Nat->Bool)(v o:ρ)(hn:n<=9223372036854775807)(hf:∀i,i<n->f (i:Int)=if c i=true then some (.inr v)else some (.inl ((i:Int)+1)))(he:f (n:Int)=some (.inr o)):bK f 0=some (if(List.range n).any c=true then v else o):=by rw[qKZ n (λe=>if c e=true then some v else none) o hn (λi h=>by rw[hf i h];cases c i<;>simp) he,Le];split<;>rfl
theorem Nd(l:List α)(c:α->Bool)(w:Nat->ρ)(o:ρ)(hn:l.length<=9223372036854775807)(hf:∀(i:Nat)(e:α),l[i]?=some e->f (i:Int)=if c e=true then some (.inr (w i))else some (.inl ((i:Int)+1)))(he:f (l.length:Int)=some (.inr o)):bK f 0=some (match l.findIdx? c with|some i=>w i|none=>o):=by cases h:l.findIdx? c with|none=>rw[Ik]at h;refine zI (λi=>(i:Int)) l.length rfl hn (λi hi=>?_) he;rw[hf i l[i] aN,if_neg (by rw[h l[i] aN];simp)];rfl|some k=>rw[D2]at h;obtain⟨hk,h1,h2⟩:=h;refine zI (λi=>(i:Int)) k rfl aB (λi hi=>?_) ?_;have hl:i<l.length:=aB;have:=h2 i hi;rw[hf i l[i] aN,if_neg (by simpa using this)];rfl;rw[hf k l[k] aN,if_pos h1]
theorem iM{f:Int×β->Option ((Int×β) ⊕ ρ)}(n:Nat)(B:Nat->β){o:ρ}{b:β}(hb:b=B 0)(hn:n<=9223372036854775807)(hf:∀i,i<n->f ((i:Int),B i)=some (.inl ((i:Int)+1,B (i+1))))(he:f ((n:Int),B n)=some (.inr o)):bK f (0,b)=some o:=zI (λi=>((i:Int),B i)) n (by rw[hb];rfl) hn (λi hi=>by rw[hf i hi];rfl) he
theorem Nf{f:Int×β->Option ((Int×β) ⊕ ρ)}(n:Nat)(B:Nat->β)(c:Nat->Bool)(v o:ρ){b:β}(hb:b=B 0)(hn:n<=9223372036854775807)(hf:∀i,i<n->(∀j,j<i->c j=false)->f ((i:Int),B i)=if c i=true then some (.inr v)else some (.inl ((i:Int)+1,B (i+1))))(he:(∀j,j<n->c j=false)->f ((n:Int),B n)=some (.inr o)):bK f (0,b)=some (if(List.range n).any c=true then v else o):=by cases h:(List.range n).findIdx? c with|none=>rw[Ik]at h;have hall:∀j,j<n->c j=false:=λj hj=>(by simpa using h j (zal120q.2 hj));have hno:¬(List.range n).any c=true:=(by rw[zQU];rintro⟨j,hj,hc⟩;rw[hall j (zal120q.1 hj)]at hc;cases hc);rw[if_neg hno];exact iM n B hb hn (λi hi=>by rw[hf i hi (λj hj=>hall j aB),hall i hi];rfl) (he hall)|some k=>rw[D2]at h;obtain⟨hk,h1,h2⟩:=h;simp only[xx]at hk;simp only[List.getElem_range]at h1;have hb':∀j,j<k->c j=false:=λj hj=>(by have:=h2 j hj;simpa using this);have hyes:(List.range n).any c=true:=zQU.2 ⟨k,zal120q.2 hk,h1⟩;rw[if_pos hyes];exact iM k B hb aB (λi hi=>by rw[hf i aB (λj hj=>hb' j aB),hb' i hi];rfl) (by rw[hf k hk hb',h1];rfl)
theorem eO(h:i<n)(hn:n<=9223372036854775807):cI ((i:Int)+1):=Q5
theorem Ny[Decidable p](h:p:=by omega):aH p k=k:=aK h
theorem yv[Decidable p](h:p:=by simp;omega):aH p k=k:=aK h
theorem pY[Decidable p](h:p:=by unfold cI;omega):aH p k=k:=aK h
theorem zNn(h:i<n)(hn:n<=9223372036854775807:=by omega):cI ((i:Int)+1):=eO h hn
theorem fg(h:i<n)(hn:n<=9223372036854775807:=by omega):aH (cI ((i:Int)+1)) k=k:=aK (eO h hn)
def qER(x y:Int):Int:=if x<y then -1 else if y<x then 1 else 0
theorem Jj(x y:Int):kR x y=some (qER x y):=by simp only[kR,cu,decide_true,tX,aC,kV,if_false,qER];split;rfl;split<;>rfl
theorem or_eq(x y:Int):bx [x,y]=some (if x=0 then y else x):=by unfold bx;by_cases hx:x=0;by_cases hy:y=0;rw[zi (n:=3) (r:=(.inl ():Unit ⊕ Int)) zaP95q aP];simp[dZ,hx,hy];rw[zi (n:=3) (r:=(.inr y:Unit ⊕ Int)) zaP95q aP];simp[dZ,hx];rw[zi (n:=3) (r:=(.inr x:Unit ⊕ Int)) (by simp[tP,bL,aH,cI,hx,aX]) aP];simp[dZ,hx]
theorem qn(x y:Ac):fO x y=some (if qER x.el y.el=0 then qER x.pos y.pos else qER x.el y.el):=by simp only[fO,Jj,aC,or_eq]
theorem yW:SortOk fO:=by have hl:∀x y,Dj fO x y=decide (x.el<y.el\/x.el=y.el/\x.pos<y.pos):=(by intro x y;simp only[Dj,qn,sK,qER];rw[decide_eq_decide];split<;>split<;>(try split)<;>(try split)<;>omega);refine⟨λx y=>⟨_,qn x y⟩,λx=>?_,λx y z h1 h2=>?_,λx y z h1 h2=>?_,λx y h1 h2=>?_⟩;rw[hl];simp;rw[hl,decide_eq_true_eq]at *; omega;rw[hl,decide_eq_false_iff_not]at *; omega;rw[hl,decide_eq_false_iff_not]at *;obtain⟨a,b⟩:=x;obtain⟨c,d⟩:=y;simp only at h1 h2;have h3:a=c:=aB;have h4:b=d:=aB;rw[h3,h4]
theorem wE(x y:Ac):gT x y=some (if qER x.el y.el=0 then qER x.pos y.pos else qER x.el y.el):=by simp only[gT,Jj,aC,or_eq]
theorem zU:SortOk gT:=by have hl:∀x y,Dj gT x y=decide (x.el<y.el\/x.el=y.el/\x.pos<y.pos):=(by intro x y;simp only[Dj,wE,sK,qER];rw[decide_eq_decide];split<;>split<;>(try split)<;>(try split)<;>omega);refine⟨λx y=>⟨_,wE x y⟩,λx=>?_,λx y z h1 h2=>?_,λx y z h1 h2=>?_,λx y h1 h2=>?_⟩;rw[hl];simp;rw[hl,decide_eq_true_eq]at *; omega;rw[hl,decide_eq_false_iff_not]at *; omega;rw[hl,decide_eq_false_iff_not]at *;obtain⟨a,b⟩:=x;obtain⟨c,d⟩:=y;simp only at h1 h2;have h3:a=c:=aB;have h4:b=d:=aB;rw[h3,h4]
theorem bu(x y:Ac):lM x y=some (if qER x.el y.el=0 then qER x.pos y.pos else qER x.el y.el):=by simp only[lM,Jj,aC,or_eq]
theorem vq:SortOk lM:=by have hl:∀x y,Dj lM x y=decide (x.el<y.el\/x.el=y.el/\x.pos<y.pos):=(by intro x y;simp only[Dj,bu,sK,qER];rw[decide_eq_decide];split<;>split<;>(try split)<;>(try split)<;>omega);refine⟨λx y=>⟨_,bu x y⟩,λx=>?_,λx y z h1 h2=>?_,λx y z h1 h2=>?_,λx y h1 h2=>?_⟩;rw[hl];simp;rw[hl,decide_eq_true_eq]at *; omega;rw[hl,decide_eq_false_iff_not]at *; omega;rw[hl,decide_eq_false_iff_not]at *;obtain⟨a,b⟩:=x;obtain⟨c,d⟩:=y;simp only at h1 h2;have h3:a=c:=aB;have h4:b=d:=aB;rw[h3,h4]
end Go.Proofs.YtandcfplaooadaaGreatDoor
set_option maxHeartbeats 8000000
set_option linter.unusedSimpArgs false
set_option linter.unusedVariables false
set_option maxRecDepth 20000
namespace Go.Proofs.YtandcfplaooadaaGreatDoor
open Go Go.TL Go.Sort Go.Shelf Go.RowKit Go.Lib Go.Proofs.Tryz
def qOI:Go.Shelf.Ren:=⟨fun|6=>68|15=>147|14=>146|28=>199|29=>200|20=>191|21=>192|22=>193|23=>194|24=>195|25=>196|26=>197|27=>198|46=>221|47=>222|48=>223|49=>224|50=>225|57=>235|n=>n,fun|22=>68|24=>131|25=>140|3=>3|39=>208|0=>0|53=>273|55=>275|4=>4|46=>267|45=>266|50=>110|5=>5|9=>9|66=>293|70=>289|76=>306|77=>307|n=>n,fun|n=>n⟩
theorem sort68:Go.Proofs.SlLaysF0.n6 TP qOI where
 mixed:=aZ
 f6:=⟨Tryz.f68.name,aZ,func68.trans (congrArg some aZ)⟩
 f14:=⟨Tryz.f146.name,aZ,func146.trans (congrArg some aZ)⟩
 f15:=func147.trans (congrArg some aZ)
 f20:=⟨Tryz.f191.name,aZ,func191.trans (congrArg some aZ)⟩
 f21:=⟨Tryz.f192.name,aZ,func192.trans (congrArg some aZ)⟩
 f22:=⟨Tryz.f193.name,aZ,func193.trans (congrArg some aZ)⟩
 f23:=⟨Tryz.f194.name,aZ,func194.trans (congrArg some aZ)⟩
 f24:=⟨Tryz.f195.name,aZ,func195.trans (congrArg some aZ)⟩
 f25:=⟨Tryz.f196.name,aZ,func196.trans (congrArg some aZ)⟩
 f26:=⟨Tryz.f197.name,aZ,func197.trans (congrArg some aZ)⟩
 f27:=⟨Tryz.f198.name,aZ,func198.trans (congrArg some aZ)⟩
 f28:=func199.trans (congrArg some aZ)
 f29:=func200.trans (congrArg some aZ)
 f46:=⟨Tryz.f221.name,aZ,func221.trans (congrArg some aZ)⟩
 f47:=func222.trans (congrArg some aZ)
 f48:=func223.trans (congrArg some aZ)
 f49:=⟨Tryz.f224.name,aZ,func224.trans (congrArg some aZ)⟩
 f50:=⟨Tryz.f225.name,aZ,func225.trans (congrArg some aZ)⟩
 f57:=⟨Tryz.f235.name,aZ,func235.trans (congrArg some aZ)⟩
 t0:=Tryz.underlying0
 a0:=Tryz.isAgg0
 z0:=Tryz.sizeOf0
 v0:=Tryz.zeroValue0
 t3:=Tryz.underlying3
 a3:=Tryz.isAgg3
 z3:=Tryz.sizeOf3
 v3:=Tryz.zeroValue3
 t4:=Tryz.underlying4
 a4:=Tryz.isAgg4
 z4:=Tryz.sizeOf4
 v4:=Tryz.zeroValue4
 t5:=Tryz.underlying5
 a5:=Tryz.isAgg5
 z5:=Tryz.sizeOf5
 v5:=Tryz.zeroValue5
 t9:=Tryz.underlying9
 a9:=Tryz.isAgg9
 z9:=Tryz.sizeOf9
 v9:=Tryz.zeroValue9
 t22:=Tryz.underlying68
 a22:=Tryz.isAgg68
 z22:=Tryz.sizeOf68
 v22:=Tryz.zeroValue68
 t25:=Tryz.underlying140
 a25:=Tryz.isAgg140
 z25:=Tryz.sizeOf140
 v25:=Tryz.zeroValue140
 t39:=Tryz.underlying208
 a39:=Tryz.isAgg208
 z39:=Tryz.sizeOf208
 v39:=Tryz.zeroValue208
 t45:=Tryz.underlying266
 a45:=Tryz.isAgg266
 z45:=Tryz.sizeOf266
 v45:=Tryz.zeroValue266
 t46:=Tryz.underlying267
 a46:=Tryz.isAgg267
 z46:=Tryz.sizeOf267
 v46:=Tryz.zeroValue267
 t50:=Tryz.underlying110
 a50:=Tryz.isAgg110
 z50:=Tryz.sizeOf110
 v50:=Tryz.zeroValue110
 t53:=Tryz.underlying273
 a53:=Tryz.isAgg273
 z53:=Tryz.sizeOf273
 v53:=Tryz.zeroValue273
 t55:=Tryz.underlying275
 a55:=Tryz.isAgg275
 z55:=Tryz.sizeOf275
 v55:=Tryz.zeroValue275
 t66:=Tryz.underlying293
 a66:=Tryz.isAgg293
 z66:=Tryz.sizeOf293
 v66:=Tryz.zeroValue293
 t70:=Tryz.underlying289
 a70:=Tryz.isAgg289
 z70:=Tryz.sizeOf289
 v70:=Tryz.zeroValue289
 t76:=Tryz.underlying306
 a76:=Tryz.isAgg306
 z76:=Tryz.sizeOf306
 v76:=Tryz.zeroValue306
 t77:=Tryz.underlying307
 a77:=Tryz.isAgg307
 z77:=Tryz.sizeOf307
 v77:=Tryz.zeroValue307
theorem qA{G:FuncId}{c:D}{cs:List D}{m:Ac->Ac->Option Int}(hs:SortOk m)(hfn:Qn c=some (G,cs))(hclo:∀a b r,m a b=some r->RetD TP G ([a.enc,b.enc]++cs) (.int .i64 r))(xs:List Ac)(hlen:xs.length<=1000000000):Ret TP 68 [.flat 131 2 (xs.map Ac.enc)] (λ_=>false) [.msl 0 2 0 xs.length,.d c] (.tup []) [.flat 131 2 ((tG m xs).map Ac.enc)]:=by have hcb:tR TP G=true:=(by obtain⟨r,hr⟩:=hs.tot default default;obtain⟨_,_,_,h,_⟩:=hclo _ _ _ hr;exact h.1);have hlt:ltOf (λx y=>(m x y).getD 0)=Dj m:=rfl;have hS:=qUZ (P:=TP) (F:=68) (G:=G) (sz:=2) (f:=Ac.enc) (c:=c) (cs:=cs) (cf:=λx y=>(m x y).getD 0) (S:=λd=>d.toList.mergeSort λx y=>!(Dj m) y x) 131 (λ_=>false) xs (bH rfl) (λ_=>rfl) (λ_=>rfl) (λ_=>rfl) hfn (λx y=>by obtain⟨r,hr⟩:=hs.tot x y;rw[hr];exact hclo x y r hr) aB (by rw[List.length_mergeSort]) (λp cap fv w=>AnyF.slices_SortFunc_none { sort68 with } p cap fv w) (λblk off cap cb d w hcl hH hb hl=>AnyQ.slices_SortFunc_total sort68 2 Tryz.isAgg131 Tryz.sizeOf131 (λx=>(Ac.enc x).cells.map D.val) (λ_=>rfl) (λx v hv=>by obtain⟨c,hc,rfl⟩:=zal115q.1 hv;simp only[Ac.enc,D.cells,zQB,eE,or_false]at hc;rcases hc with rfl|rfl<;>rfl) (λx y=>(m x y).getD 0) ⟨hs.irrefl,hs.trans,hs.ntrans⟩ G cb blk off cap d w (Lo hcb) hcl hH hb hl hs.anti);rwa [show(xs.toArray.toList.mergeSort λx y=>!(Dj m) y x)=tG m xs from N5 hs xs]at hS
def qLM:Go.Shelf.Ren:=⟨fun|171=>99|243=>165|246=>215|283=>231|284=>232|285=>233|286=>234|129=>200|317=>237|318=>238|319=>239|320=>240|337=>241|338=>242|n=>n,fun|3=>3|9=>9|2=>2|4=>4|171=>301|0=>0|53=>275|37=>303|5=>5|173=>304|212=>311|51=>273|20=>20|213=>312|46=>208|232=>313|233=>314|n=>n,fun|17=>2|18=>3|19=>4|n=>n⟩
theorem itoaM99:Go.Proofs.LaysM.n171 TP qLM where
 mixed:=aZ
 f129:=func200.trans (congrArg some aZ)
 f171:=func99.trans (congrArg some aZ)
 f243:=func165.trans (congrArg some aZ)
 f246:=func215.trans (congrArg some aZ)
 f283:=func231.trans (congrArg some aZ)
 f284:=func232.trans (congrArg some aZ)
 f285:=func233.trans (congrArg some aZ)
 f286:=func234.trans (congrArg some aZ)
 f317:=func237.trans (congrArg some aZ)
 f318:=func238.trans (congrArg some aZ)
 f319:=func239.trans (congrArg some aZ)
 f320:=func240.trans (congrArg some aZ)
 f337:=func241.trans (congrArg some aZ)
 f338:=func242.trans (congrArg some aZ)
 t0:=Tryz.underlying0
 a0:=Tryz.isAgg0
 z0:=Tryz.sizeOf0
 v0:=Tryz.zeroValue0
 t2:=Tryz.underlying2
 a2:=Tryz.isAgg2
 z2:=Tryz.sizeOf2
 v2:=Tryz.zeroValue2
 t3:=Tryz.underlying3
 a3:=Tryz.isAgg3
 z3:=Tryz.sizeOf3
 v3:=Tryz.zeroValue3
 t4:=Tryz.underlying4
 a4:=Tryz.isAgg4
 z4:=Tryz.sizeOf4
 v4:=Tryz.zeroValue4
 t5:=Tryz.underlying5
 a5:=Tryz.isAgg5
 z5:=Tryz.sizeOf5
 v5:=Tryz.zeroValue5
 t9:=Tryz.underlying9
 a9:=Tryz.isAgg9
 z9:=Tryz.sizeOf9
 v9:=Tryz.zeroValue9
 t20:=Tryz.underlying20
 a20:=Tryz.isAgg20
 z20:=Tryz.sizeOf20
 v20:=Tryz.zeroValue20
 t37:=Tryz.underlying303
 a37:=Tryz.isAgg303
 z37:=Tryz.sizeOf303
 v37:=Tryz.zeroValue303
 t46:=Tryz.underlying208
 a46:=Tryz.isAgg208
 z46:=Tryz.sizeOf208
 v46:=Tryz.zeroValue208
 t51:=Tryz.underlying273
 a51:=Tryz.isAgg273
 z51:=Tryz.sizeOf273
 v51:=Tryz.zeroValue273
 t53:=Tryz.underlying275
 a53:=Tryz.isAgg275
 z53:=Tryz.sizeOf275
 v53:=Tryz.zeroValue275
 t171:=Tryz.underlying301
 a171:=Tryz.isAgg301
 z171:=Tryz.sizeOf301
 v171:=Tryz.zeroValue301
 t173:=Tryz.underlying304
 a173:=Tryz.isAgg304
 z173:=Tryz.sizeOf304
 v173:=Tryz.zeroValue304
 t212:=Tryz.underlying311
 a212:=Tryz.isAgg311
 z212:=Tryz.sizeOf311
 v212:=Tryz.zeroValue311
 t213:=Tryz.underlying312
 a213:=Tryz.isAgg312
 z213:=Tryz.sizeOf312
 t232:=Tryz.underlying313
 a232:=Tryz.isAgg313
 z232:=Tryz.sizeOf313
 v232:=Tryz.zeroValue313
 t233:=Tryz.underlying314
 a233:=Tryz.isAgg314
 z233:=Tryz.sizeOf314
 v233:=Tryz.zeroValue314
 g17:=aZ
 g18:=aZ
 g19:=aZ
 i0:=aZ
 i2:=aZ
 i3:=aZ
 i4:=aZ
 i5:=aZ
 i9:=aZ
 i20:=aZ
 i37:=aZ
 i46:=aZ
 i51:=aZ
 i53:=aZ
 i171:=aZ
 i173:=aZ
 i212:=aZ
 i232:=aZ
 i233:=aZ
 m17:=aZ
 m18:=aZ
 m19:=aZ
theorem itoaT : TP.globalNamed "internal/strconv.uint64pow10" = some 2 := by kernel_rfl
theorem qPX(i:Int)(h:cI i):RetN TP 99 [.int .i64 i] (.str ⟨(Go.Lib.itoa i).toArray⟩):=qVC (bH rfl) (λw g hl=>qOE (zs:=Go.Lib.pow10Tab) (k:=.u64) itoaT aZ hl) λw ht=>Any.strconv_Itoa itoaM99 i (by unfold cI at h;omega) (by unfold cI at h;omega) w ht
def qIY:Go.Shelf.Ren:=⟨fun|189=>73|125=>147|257=>149|128=>199|129=>200|294=>201|295=>202|296=>203|297=>204|298=>205|299=>206|216=>207|300=>208|301=>209|328=>226|329=>222|330=>223|331=>227|332=>228|215=>148|343=>236|n=>n,fun|28=>31|3=>3|46=>208|0=>0|51=>273|53=>275|4=>4|183=>267|182=>266|131=>110|5=>5|9=>9|218=>293|222=>289|228=>306|229=>307|n=>n,fun|n=>n⟩
theorem qRV:Go.Proofs.Lays.n189 TP qIY where
 mixed:=aZ
 f125:=func147.trans (congrArg some aZ)
 f128:=func199.trans (congrArg some aZ)
 f129:=func200.trans (congrArg some aZ)
 f189:=func73.trans (congrArg some aZ)
 f215:=func148.trans (congrArg some aZ)
 f216:=func207.trans (congrArg some aZ)
 f257:=func149.trans (congrArg some aZ)
 f294:=func201.trans (congrArg some aZ)
 f295:=func202.trans (congrArg some aZ)
 f296:=func203.trans (congrArg some aZ)
 f297:=func204.trans (congrArg some aZ)
 f298:=func205.trans (congrArg some aZ)
 f299:=func206.trans (congrArg some aZ)
 f300:=func208.trans (congrArg some aZ)
 f301:=func209.trans (congrArg some aZ)
 f328:=func226.trans (congrArg some aZ)
 f329:=func222.trans (congrArg some aZ)
 f330:=func223.trans (congrArg some aZ)
 f331:=func227.trans (congrArg some aZ)
 f332:=func228.trans (congrArg some aZ)
 f343:=func236.trans (congrArg some aZ)
 t0:=Tryz.underlying0
 a0:=Tryz.isAgg0
 z0:=Tryz.sizeOf0
 v0:=Tryz.zeroValue0
 t3:=Tryz.underlying3
 a3:=Tryz.isAgg3
 z3:=Tryz.sizeOf3
 v3:=Tryz.zeroValue3
 t4:=Tryz.underlying4
 a4:=Tryz.isAgg4
 z4:=Tryz.sizeOf4
 v4:=Tryz.zeroValue4
 t5:=Tryz.underlying5
 a5:=Tryz.isAgg5
 z5:=Tryz.sizeOf5
 v5:=Tryz.zeroValue5
 t9:=Tryz.underlying9
 a9:=Tryz.isAgg9
 z9:=Tryz.sizeOf9
 v9:=Tryz.zeroValue9
 t28:=Tryz.underlying31
 a28:=Tryz.isAgg31
 z28:=Tryz.sizeOf31
 v28:=Tryz.zeroValue31
 t46:=Tryz.underlying208
 a46:=Tryz.isAgg208
 z46:=Tryz.sizeOf208
 v46:=Tryz.zeroValue208
 t51:=Tryz.underlying273
 a51:=Tryz.isAgg273
 z51:=Tryz.sizeOf273
 v51:=Tryz.zeroValue273
 t53:=Tryz.underlying275
 a53:=Tryz.isAgg275
 z53:=Tryz.sizeOf275
 v53:=Tryz.zeroValue275
 t131:=Tryz.underlying110
 a131:=Tryz.isAgg110
 z131:=Tryz.sizeOf110
 v131:=Tryz.zeroValue110
 t182:=Tryz.underlying266
 a182:=Tryz.isAgg266
 z182:=Tryz.sizeOf266
 v182:=Tryz.zeroValue266
 t183:=Tryz.underlying267
 a183:=Tryz.isAgg267
 z183:=Tryz.sizeOf267
 v183:=Tryz.zeroValue267
 t218:=Tryz.underlying293
 a218:=Tryz.isAgg293
 z218:=Tryz.sizeOf293
 v218:=Tryz.zeroValue293
 t222:=Tryz.underlying289
 a222:=Tryz.isAgg289
 z222:=Tryz.sizeOf289
 v222:=Tryz.zeroValue289
 t228:=Tryz.underlying306
 a228:=Tryz.isAgg306
 z228:=Tryz.sizeOf306
 v228:=Tryz.zeroValue306
 t229:=Tryz.underlying307
 a229:=Tryz.isAgg307
 z229:=Tryz.sizeOf307
 v229:=Tryz.zeroValue307
theorem w8(xs:List Int)(hlen:xs.length<=1000000000):Ret TP 73 [.flat 3 1 (xs.map (D.int .i64))] (λ_=>false) [.msl 0 1 0 xs.length] (.tup []) [.flat 3 1 ((uU xs).map (D.int .i64))]:=qVA 3 (λ_=>false) xs (bH rfl) aB (λp cap w=>Any.slices_Sort_int_none qRV p cap w) (λblk off cap zs w hH hb hl=>Any.slices_Sort_int qRV blk off cap zs w hH hb hl)
def qMI:Go.Shelf.Ren:=⟨fun|20=>74|n=>n,fun|22=>31|3=>3|4=>4|0=>0|n=>n,fun|n=>n⟩
theorem qTL:Go.Proofs.Lays2.n20 TP qMI where
 mixed:=aZ
 f20:=func74.trans (congrArg some aZ)
 t0:=Tryz.underlying0
 a0:=Tryz.isAgg0
 z0:=Tryz.sizeOf0
 v0:=Tryz.zeroValue0
 t3:=Tryz.underlying3
 a3:=Tryz.isAgg3
 z3:=Tryz.sizeOf3
 v3:=Tryz.zeroValue3
 t4:=Tryz.underlying4
 a4:=Tryz.isAgg4
 z4:=Tryz.sizeOf4
 v4:=Tryz.zeroValue4
 t22:=Tryz.underlying31
 a22:=Tryz.isAgg31
 z22:=Tryz.sizeOf31
 v22:=Tryz.zeroValue31
 i3:=aZ
theorem ed(xs:List Int)(hlen:xs.length<=1000000000):Ret TP 74 [.flat 3 1 (xs.map (D.int .i64))] (λ_=>false) [.msl 0 1 0 xs.length] (.msl 0 1 0 (Go.Lib.compact xs).length) [.flat 3 1 ((Go.Lib.compact xs).map (D.int .i64))]:=qFD 3 (λ_=>false) xs (bH rfl) aB (λp cap w=>Any.slices_Compact_int_empty qTL p cap w) (λblk off cap zs w hH h1 h2=>Any.slices_Compact_int qTL blk off cap zs w hH h1 h2)
end Go.Proofs.YtandcfplaooadaaGreatDoor
