/- A part of the proof. No condition. -/
import Derived.Test.YtandcfplaooadaaGreatDoorQf
set_option linter.unusedSimpArgs false
set_option linter.unusedVariables false

set_option linter.unusedVariables false
set_option linter.unusedSimpArgs false
set_option maxHeartbeats 400000
set_option maxRecDepth 100000
namespace Go.Proofs.YtandcfplaooadaaGreatDoor
open Go Go.TL
theorem qLV{e:Ak}(m:Machine)(ho:qBL e.expr)(hs:yX e.expr<=1000000000):xB e m=some (!(rS m.vars e.expr)):=by unfold xB;rw[qTZ m.vars (by have:=dp_sz e.expr;unfold oM;omega) ho,aC]
def qQC(l:List Ak)(m:Machine):Int:=if(l.findIdx λe=>!(rS m.vars e.expr))<l.length then(l.findIdx λe=>!(rS m.vars e.expr):Nat)else -1
variable {L:List BA}{j k n p x:Nat}{l:List Ak}{r:Aj}{s sep w:BA}{xs:List Int}{α β:Type}{a c:List β}
theorem qWS(m:Machine)(hl:l.length<=Xy)(g:Ak->Option Bool)(hg:∀e∈l,g e=some (!(rS m.vars e.expr))):bK (ρ:=Unit ⊕ Int) (λx3=>
   if x3 < (l.length : Int) then
    bL l x3 λe6=>
    aE (g e6) λr7=>
    if r7 = true then
     aX (
      aX (
       some x3))
    else
     aH (cI (x3+(1:Int))) <|
     some (.inl (x3+(1:Int)))
   else
    aX (
     some (.inl ()))) (0:Int)=some (if(l.findIdx λe=>!(rS m.vars e.expr))<l.length then .inr (l.findIdx λe=>!(rS m.vars e.expr):Nat)else .inl ()):=by
 obtain⟨o,h1,h2⟩:=qSR (f:=λ(x3:Int)=>
   if x3 < (l.length : Int) then
    bL l x3 λe6=>
    aE (g e6) λr7=>
    if r7 = true then
     aX (
      aX (
       some x3))
    else
     aH (cI (x3+(1:Int))) <|
     some (.inl (x3+(1:Int)))
   else
    aX (
     some (.inl ()))) (s:=(0:Int))
  (λ(o:Unit ⊕ Int)=>o=if(l.findIdx λe=>!(rS m.vars e.expr))<l.length then .inr (l.findIdx λe=>!(rS m.vars e.expr):Nat)else .inl ())
  (fun i s => s = (i : Int) /\ i <= l.findIdx fun e => !(rS m.vars e.expr)) l.length hl ⟨rfl, iF _⟩ (fun i hi s hI => by
   obtain⟨rfl,h2⟩:=hI;rw[iL,aR (iG hi),hg _ (fV hi),aC]
   cases hb:!(rS m.vars l[i].expr)with
   | true =>
    right
    have hf:(l.findIdx λe=>!(rS m.vars e.expr))=i:=by
     refine Nat.le_antisymm ?_ h2;by_cases h:(l.findIdx λe=>!(rS m.vars e.expr))<=i;exact h;exact absurd hb (by simpa using List.not_of_lt_findIdx (Nat.lt_of_not_le h))
    refine⟨_,rfl,?_⟩;rw[hf,if_pos hi]
   | false =>
    left;rw[Dr,aK (eO hi hl)];refine⟨_,rfl,kW,?_⟩;rcases fU i (l.findIdx λe=>!(rS m.vars e.expr))with h|h
    omega;have h3 : (l.findIdx fun e => !(rS m.vars e.expr)) = i := Nat.le_antisymm h h2;have h4:(l.findIdx λe=>!(rS m.vars e.expr))<l.length:=aB
    have h5:=List.findIdx_getElem (w:=h4);simp only[h3]at h5;rw[hb]at h5
    cases h5) (λs hI=>by
   obtain⟨rfl,h2⟩:=hI;rw[mF];refine⟨_,rfl,?_⟩
   rw[mF])
 rw[h1,h2]
theorem Holds_eq(m:Machine)(hl:l.length<=Xy)(h:∀e∈l,qBL e.expr/\yX e.expr<=1000000000):vL l m=some (qQC l m):=by unfold vL oK qQC;rw[qWS m hl _ λe he=>qLV m (h e he).1 (h e he).2];split<;>rfl
mutual
def Zz(x:Int)(b:Ad):Ad->Ad
 |⟨op,v,l⟩=>if op=3/\v=x then b else⟨op,v,Du x b l⟩
def Du(x:Int)(b:Ad):List Ad->List Ad
 |[]=>[]
 |e::r=>Zz x b e::Du x b r
end
mutual
def cntE(x:Int):Ad->Nat
 |⟨op,v,l⟩=>(if op=3/\v=x then 1 else 0)+qQK x l
def qQK(x:Int):List Ad->Nat
 |[]=>0
 |e::r=>cntE x e+qQK x r
end
theorem qJM(x:Int)(b:Ad):∀l,Du x b l=l.map (Zz x b)
 |[]=>by simp[Du]
 |e::r=>by simp[Du,qJM x b r]
mutual
theorem cnt_sz(x:Int):∀e,cntE x e<=yX e
 |⟨o,v,l⟩=>by
  have:=qTM x l;simp only[cntE,yX];split<;>omega
theorem qTM(x:Int):∀l,qQK x l<=yN l
 |[]=>by simp[qQK,yN]
 |e::r=>by
  have:=cnt_sz x e;have:=qTM x r;simp only[qQK,yN];omega
end
mutual
theorem rep_sz(x:Int)(b:Ad):∀e,yX (Zz x b e)<=yX e+cntE x e*(yX b-1)
 |⟨o,v,l⟩=>by
  have h1:=qRY x b l;have h2:=sz_pos b;simp only[cntE,yX,Zz];split;rw[sM];omega;simp only[yX,iO];omega
theorem qRY(x:Int)(b:Ad):∀l,yN (Du x b l)<=yN l+qQK x l*(yX b-1)
 |[]=>by simp[Du,yN]
 |e::r=>by
  have h1:=rep_sz x b e;have h2:=qRY x b r;simp only[qQK,yN,Du];rw[sM];omega
end
theorem qWQ{n m op x:Int}(h:n<=m)(hf:Fx n op x k=true):Fx m op x k=true:=by unfold Fx at *;by_cases h1:op=1\/op=2;rw[if_pos h1]at *; exact hf;rw[if_neg h1]at *;by_cases h3:op=3;rw[if_pos h3]at *;simp only[decide_eq_true_eq]at *;omega;rw[if_neg h3]at *;exact hf
mutual
theorem rep_good{n m:Int}(x:Int){b:Ad}(hnm:n<=m)(hb:yI m b=true):∀e,yI n e=true->yI m (Zz x b e)=true
 |⟨o,v,l⟩,h=>by
  simp only[yI,pQ]at h;have h1:=qBA x hnm hb l h.2;simp only[Zz];split;exact hb;simp only[yI,pQ];have hl:(Du x b l).length=l.length:=by rw[qJM,yt]
  rw[hl];exact⟨qWQ hnm h.1,h1⟩
theorem qBA{n m:Int}(x:Int){b:Ad}(hnm:n<=m)(hb:yI m b=true):∀l,xj n l=true->xj m (Du x b l)=true
 |[],_=>by simp[Du,xj]
 |e::r,h=>by
  simp only[xj,pQ]at h;simp only[Du,xj,pQ];exact⟨rep_good x hnm hb e h.1,qBA x hnm hb r h.2⟩
end
mutual
theorem rep_dp{n:Int}(x:Int)(b:Ad):∀e,yI n e=true->Qp e<=Qp (Zz x b e)
 |⟨o,v,l⟩,h=>by
  simp only[yI,pQ]at h;have h1:=qRZ x b l h.2;simp only[Zz];split;rename_i hc;have hf:=h.1;unfold Fx at hf;rw[mF,if_pos hc.1,decide_eq_true_eq]at hf;have:l=[]:=List.length_eq_zero_iff.1 hf.2.2;subst this;have:=qHE b;simp only[Qp,qMD];omega;simp only[Qp];omega
theorem qRZ{n:Int}(x:Int)(b:Ad):∀l,xj n l=true->qMD l<=qMD (Du x b l)
 |[],_=>by simp[Du]
 |e::r,h=>by
  simp only[xj,pQ]at h;have h1:=rep_dp x b e h.1;have h2:=qRZ x b r h.2;simp only[Du,qMD];omega
end
mutual
theorem rep_none{n x:Int}(b:Ad)(hx:x<0\/n<=x):∀e,yI n e=true->Zz x b e=e
 |⟨o,v,l⟩,h=>by
  simp only[yI,pQ]at h;have h1:=qAZ b hx l h.2;simp only[Zz];split;rename_i hc;have hf:=h.1;unfold Fx at hf;rw[mF,if_pos hc.1,decide_eq_true_eq]at hf;omega;rw[h1]
theorem qAZ{n x:Int}(b:Ad)(hx:x<0\/n<=x):∀l,xj n l=true->Du x b l=l
 |[],_=>by simp[Du]
 |e::r,h=>by
  simp only[xj,pQ]at h;simp only[Du,rep_none b hx e h.1,qAZ b hx r h.2]
end
def keyWords:List (List UInt8):=[qIK,wOpen,Gj,yx,Wl,qRP,wCall,qRQ,qIJ,O9,yT,Dc,Dd,qEK,qRO,qEJ,wKeep,wUse,wHold,wAct,qRR].map (·.data.toList)
def keyStep(s:Nat×List UInt8×Nat×Nat)(c:UInt8):Nat×List UInt8×Nat×Nat:=if c=46 then(s.1+1,s.2)else if s.1=0 then(s.1,s.2.1++[c],s.2.2)else if s.1=1 then(s.1,s.2.1,s.2.2.1*10+(c.toNat-48),s.2.2.2)else(s.1,s.2.1,s.2.2.1,s.2.2.2*10+(c.toNat-48))
def Fo(b:BA):Nat:=(b.data.toList.foldl keyStep (0,[],0,0)) |> λs=>keyWords.findIdx (· == s.2.1)*10000+s.2.2.1*100+s.2.2.2
theorem key1:∀i,i<48->(qSJ i).map Fo=[i*100,10000+i*100]:=bg
theorem key2:∀i,i<48->(qSI i).map Fo=[20000+i*100,30000+i*100]:=bg
theorem key3:∀i,i<48->(nm3 i).map Fo=[40000+i*100,50000+i*100,60000+i*100,70000+i*100]:=bg
theorem key4:∀i,i<48->(qXT i).map Fo=[80000+i*100]:=bg
theorem key5:∀i,i<48->([O9,yT,Dc,Dd].map (Hn · i)).map Fo=[90000+i*100,100000+i*100,110000+i*100,120000+i*100]:=bg
theorem keyR:∀i,i<48->∀k,k<24->Fo (Hn (wRelD++ep i) k)=130000+i*100+k:=bg
theorem key7:∀i,i<48->([qRO,qEJ].map (Hn · i)).map Fo=[140000+i*100,150000+i*100]:=bg
theorem key6:∀i,i<48->(nm6 i).map Fo=[160000+i*100,170000+i*100,180000+i*100,190000+i*100,200000+i*100]:=bg
theorem ve(f:Nat->List α)(g:α->β)(h:Nat->List β)(n:Nat)(hh:∀i,i<n->(f i).map g=h i):((List.range n).flatMap f).map g=(List.range n).flatMap h:=by rw[List.map_flatMap];induction n with|zero=>rfl|succ n ih=>rw[oG,qe,qe,ih λi hi=>hh i aB];simp[hh n aB]
theorem Lc(f:α->β)(l:List α):l.flatMap (λx=>[f x])=l.map f:=by induction l with|nil=>rfl|cons x r ih=>rw[Ij,ih];rfl
theorem vd{h:Nat->List β}{x:β}(hx:x∈(List.range n).flatMap h):∃i,i<n/\x∈h i:=by obtain⟨i,hi,hm⟩:=zal112q.1 hx;exact⟨i,zal120q.1 hi,hm⟩
theorem bo{h:Nat->List Nat}(h1:∀i,i<n->(h i).Nodup)(h2:∀a b,a<b->b<n->∀x∈h a,∀y∈h b,x≠y):((List.range n).flatMap h).Nodup:=by induction n with|zero=>simp|succ n ih=>rw[nO,zal124q];refine⟨ih (λi hi=>h1 i aB) λa b hab hb=>h2 a b hab aB,h1 n aB,λx hx y hy=>?_⟩;obtain⟨i,hi,hm⟩:=vd hx;exact h2 i n hi aB x hm y hy
theorem qGD{f:α->β}{l:List α}(h:(l.map f).Nodup):l.Nodup:=by unfold List.Nodup at *;rw[List.pairwise_map]at h;exact h.imp λhab he=>hab (by rw[he])
def kb1(i:Nat):List Nat:=[i*100,10000+i*100]
def kb2(i:Nat):List Nat:=[20000+i*100,30000+i*100]
def kb3(i:Nat):List Nat:=[40000+i*100,50000+i*100,60000+i*100,70000+i*100]
def kb4(i:Nat):List Nat:=[80000+i*100]
def kb5(t:Ah)(i:Nat):List Nat:=([90000+i*100,100000+i*100,110000+i*100,120000+i*100]++(List.range (bE t i)).map (130000+i*100+·))++[140000+i*100,150000+i*100]
def kb6(i:Nat):List Nat:=[160000+i*100,170000+i*100,180000+i*100,190000+i*100,200000+i*100]
theorem in1{i:Nat}(h:x∈kb1 i):x=i*100\/x=10000+i*100:=by simpa[kb1]using h
theorem in2{i:Nat}(h:x∈kb2 i):x=20000+i*100\/x=30000+i*100:=by simpa[kb2]using h
theorem in3{i:Nat}(h:x∈kb3 i):x=40000+i*100\/x=50000+i*100\/x=60000+i*100\/x=70000+i*100:=by simpa[kb3]using h
theorem in4{i:Nat}(h:x∈kb4 i):x=80000+i*100:=by simpa[kb4]using h
theorem in5{t:Ah}{i:Nat}(hl:bE t i<=23)(h:x∈kb5 t i):x=90000+i*100\/x=100000+i*100\/x=110000+i*100\/x=120000+i*100\/(∃k,k<24/\x=130000+i*100+k)\/x=140000+i*100\/x=150000+i*100:=by unfold kb5 at h;simp only[zQN,zQB,eE,or_false,zal115q,zal120q]at h;rcases h with((h|h|h|h)|⟨k,hk,rfl⟩)|h|h;exact .inl h;exact .inr (.inl h);exact .inr (.inr (.inl h));exact .inr (.inr (.inr (.inl h)));exact .inr (.inr (.inr (.inr (.inl ⟨k,aB,rfl⟩))));exact .inr (.inr (.inr (.inr (.inr (.inl h)))));exact .inr (.inr (.inr (.inr (.inr (.inr h)))))
theorem in6{i:Nat}(h:x∈kb6 i):x=160000+i*100\/x=170000+i*100\/x=180000+i*100\/x=190000+i*100\/x=200000+i*100:=by simpa[kb6]using h
theorem qWN(t:Ah){i:Nat}(hl:bE t i<=23):(kb5 t i).Nodup:=by unfold kb5;rw[zal124q,zal124q];refine⟨⟨aN,?_,λx hx y hy=>?_⟩,aN,λx hx y hy=>?_⟩;unfold List.Nodup;rw[List.pairwise_map];exact List.pairwise_lt_range.imp λh=>aB;obtain⟨k,hk,rfl⟩:=zal115q.1 hy;rw[zal120q]at hk;simp only[zQB,eE,or_false]at hx;omega;simp only[zQN,zQB,eE,or_false,zal115q,zal120q]at hx hy;rcases hx with hx|⟨k,hk,rfl⟩<;>omega
variable {t:Ah}
theorem Cq(hC:COk t):(rW t).Nodup:=by have hlm:=hC.lim;have hl:=hC.last24;apply qGD (f:=Fo);unfold rW;simp only[gS];rw[ve qSJ Fo kb1 _ λi hi=>key1 i aB,ve qSI Fo kb2 _ λi hi=>key2 i aB,ve nm3 Fo kb3 _ λi hi=>key3 i aB,ve qXT Fo kb4 _ λi hi=>key4 i aB,ve (qKL t) Fo (kb5 t) _ ?_,ve nm6 Fo kb6 _ λi hi=>key6 i aB];have n1:((List.range t.Aa.toNat).flatMap kb1).Nodup:=bo (λi hi=>by simp[kb1]) λa b hab hb x hx y hy=>(by have:=in1 hx;have:=in1 hy;omega);have n2:((List.range t.Af.length).flatMap kb2).Nodup:=bo (λi hi=>by simp[kb2]) λa b hab hb x hx y hy=>(by have:=in2 hx;have:=in2 hy;omega);have n3:((List.range t.Ab.length).flatMap kb3).Nodup:=bo (λi hi=>by simp[kb3]) λa b hab hb x hx y hy=>(by have:=in3 hx;have:=in3 hy;omega);have n4:((List.range t.Af.length).flatMap kb4).Nodup:=bo (λi hi=>by simp[kb4]) λa b hab hb x hx y hy=>(by have:=in4 hx;have:=in4 hy;omega);have n5:((List.range t.Ab.length).flatMap (kb5 t)).Nodup:=bo (λi hi=>qWN t (hl i)) λa b hab hb x hx y hy=>(by have h1:=in5 (hl a) hx;have h2:=in5 (hl b) hy;rcases h1 with h1|h1|h1|h1|⟨k,hk,h1⟩|h1|h1<;>rcases h2 with h2|h2|h2|h2|⟨k2,hk2,h2⟩|h2|h2<;>omega);have n6:((List.range t.Ab.length).flatMap kb6).Nodup:=bo (λi hi=>by simp[kb6]) λa b hab hb x hx y hy=>(by have:=in6 hx;have:=in6 hy;omega);have b1:∀x∈(List.range t.Aa.toNat).flatMap kb1,x<20000:=λx hx=>(by obtain⟨i,hi,hm⟩:=vd hx;have:=in1 hm;omega);have b2:∀x∈(List.range t.Af.length).flatMap kb2,20000<=x/\x<40000:=λx hx=>(by obtain⟨i,hi,hm⟩:=vd hx;have:=in2 hm;omega);have b3:∀x∈(List.range t.Ab.length).flatMap kb3,40000<=x/\x<80000:=λx hx=>(by obtain⟨i,hi,hm⟩:=vd hx;have:=in3 hm;omega);have b4:∀x∈(List.range t.Af.length).flatMap kb4,80000<=x/\x<90000:=λx hx=>(by obtain⟨i,hi,hm⟩:=vd hx;have:=in4 hm;omega);have b5:∀x∈(List.range t.Ab.length).flatMap (kb5 t),90000<=x/\x<160000:=λx hx=>(by obtain⟨i,hi,hm⟩:=vd hx;have h1:=in5 (hl i) hm;rcases h1 with h1|h1|h1|h1|⟨k,hk,h1⟩|h1|h1<;>omega);have b6:∀x∈(List.range t.Ab.length).flatMap kb6,160000<=x:=λx hx=>(by obtain⟨i,hi,hm⟩:=vd hx;have:=in6 hm;omega);have c2:∀x∈(List.range t.Aa.toNat).flatMap kb1++(List.range t.Af.length).flatMap kb2,x<40000:=λx hx=>(by rcases zQN.1 hx with h|h;have:=b1 x h;omega;have:=b2 x h;omega);have m2:((List.range t.Aa.toNat).flatMap kb1++(List.range t.Af.length).flatMap kb2).Nodup:=zal124q.2 ⟨n1,n2,λx hx y hy=>by have:=b1 x hx;have:=b2 y hy;omega⟩;generalize (List.range t.Aa.toNat).flatMap kb1++(List.range t.Af.length).flatMap kb2=L2 at c2 m2;have c3:∀x∈L2++(List.range t.Ab.length).flatMap kb3,x<80000:=λx hx=>(by rcases zQN.1 hx with h|h;have:=c2 x h;omega;have:=b3 x h;omega);have m3:(L2++(List.range t.Ab.length).flatMap kb3).Nodup:=zal124q.2 ⟨m2,n3,λx hx y hy=>by have:=c2 x hx;have:=b3 y hy;omega⟩;generalize L2++(List.range t.Ab.length).flatMap kb3=L3 at c3 m3;have c4:∀x∈L3++(List.range t.Af.length).flatMap kb4,x<90000:=λx hx=>(by rcases zQN.1 hx with h|h;have:=c3 x h;omega;have:=b4 x h;omega);have m4:(L3++(List.range t.Af.length).flatMap kb4).Nodup:=zal124q.2 ⟨m3,n4,λx hx y hy=>by have:=c3 x hx;have:=b4 y hy;omega⟩;generalize L3++(List.range t.Af.length).flatMap kb4=L4 at c4 m4;have c5:∀x∈L4++(List.range t.Ab.length).flatMap (kb5 t),x<160000:=λx hx=>(by rcases zQN.1 hx with h|h;have:=c4 x h;omega;have:=b5 x h;omega);have m5:(L4++(List.range t.Ab.length).flatMap (kb5 t)).Nodup:=zal124q.2 ⟨m4,n5,λx hx y hy=>by have:=c4 x hx;have:=b5 y hy;omega⟩;generalize L4++(List.range t.Ab.length).flatMap (kb5 t)=L5 at c5 m5;exact zal124q.2 ⟨m5,n6,λx hx y hy=>by have:=c5 x hx;have:=b6 y hy;omega⟩;intro i hi;have h1:(J7 i (bE t i)).map Fo=(List.range (bE t i)).map (130000+i*100+·):=(by unfold J7;rw[ve _ Fo (λk=>[130000+i*100+k]) _ (λk hk=>by have:=hl i;rw[iW,iW,uH,uH,keyR i aB k aB]),Lc]);unfold qKL kb5;rw[gS,gS,key5 i aB,key7 i aB,h1]
def zh(L:List BA):List (BA×Int):=L.mapIdx λi x=>(x,(i:Int))
theorem qKS{v:Int}(h:(zh L)[j]?=some (s,v)):L[j]?=some s/\v=(j:Int):=by unfold zh at h;rw[bd]at h;cases e:L[j]? with|none=>rw[e]at h;cases h|some x=>rw[e]at h;simp only[jB,jA,wW]at h;exact⟨by rw[h.1],h.2.symm⟩
theorem qBQ(L:List BA):(zh L).map (·.1)=L:=by unfold zh;apply uS;intro i;rw[vV,bd];cases L[i]?<;>rfl
theorem qVW(L:List BA)(x:BA):zh (L++[x])=zh L++[(x,(L.length:Int))]:=by unfold zh;rw[List.mapIdx_append];simp
theorem mapL_at(hn:L.Nodup)(h:L[j]?=some s):cZ (zh L) s=some (j:Int):=by have hm:(zh L)[j]?=some (s,(j:Int)):=(by unfold zh;rw[bd,h];rfl);cases e:cZ (zh L) s with|none=>exact absurd rfl (yK e _ (kK hm))|some b=>obtain⟨k,hk⟩:=xw e;obtain⟨h1,h2⟩:=qKS hk;rw[h2];congr 2;rw[qI]at hn;have hj:=gJ h;have hkl:=gJ h1;rcases Nat.lt_trichotomy k j with hlt|heq|hgt;exact absurd (by rw[h,h1]) (hn k j hlt hj);exact heq;exact absurd (by rw[h,h1]) (hn j k hgt hkl)
theorem qVX(h:s∉L):cZ (zh L) s=none:=by cases e:cZ (zh L) s with|none=>rfl|some b=>obtain⟨k,hk⟩:=xw e;exact absurd (kK (qKS hk).1) h
theorem qVS(hn:L.Nodup)(hl:L.length<=1000000):bK (ρ:=List (BA×Int)) (λ(x10,b11)=>if x10<(L.length:Int)then bL L x10 λe14=>aH (b11.map (·.1)).Nodup <|aH (cI (x10+(1:Int))) <|some (.inl ((x10+(1:Int)),(tK b11 e14 x10)))else aX ( some b11)) ((0:Int),([]:List (BA×Int)))=some (zh L):=by rw[iM L.length (λk=>zh (L.take k)) (o:=zh L) (by simp[zh]) aB (λk hk=>?_) qDW];have hx:=iG hk;have hnt:(L.take k).Nodup:=hn.sublist (List.take_sublist k L);have hni:L[k]∉L.take k:=λhm=>(by obtain⟨j,hj,he⟩:=zal122q.1 hm;rw[qI]at hn;exact hn j k aB hk (by rw[hx,Q8,he]));dsimp only;rw[iL,aR hx,aK (by rw[qBQ];exact hnt),pY,qJV (qVX hni),iQ,hx];show some (Sum.inl ((k:Int)+1,zh (L.take k)++[(L[k],(k:Int))]))=some (Sum.inl ((k:Int)+1,zh (L.take k++[L[k]])));rw[qVW,oF,Nat.min_eq_left aB]
variable {t:Ah}{b:List Ak}{i:Nat}
theorem xk{f:Nat->List β}{i:Nat}{x:β}(hi:i<n)(h:(f i)[j]?=some x):((List.range n).flatMap f)[((List.range i).flatMap f).length+j]?=some x:=by induction n with|zero=>omega|succ n ih=>rw[nO];by_cases hin:i<n;have h1:=ih hin;rw[Bb (gJ h1),h1];have:i=n:=aB;subst this;rw[xy aB,Nat.add_sub_cancel_left,h]
theorem wb{x:β}(h:a[j]?=some x):(a++c)[j]?=some x:=by rw[Bb (gJ h),h]
theorem qTT{x:β}(hk:k=a.length+j)(h:c[j]?=some x):(a++c)[k]?=some x:=by rw[xy aB,hk,Nat.add_sub_cancel_left,h]
theorem p_free{s:Nat}(hs:s<t.Aa.toNat):(rW t)[2*s]?=some (Hn qIK s):=by unfold rW;have h1:=eJ (f:=qSJ) (c:=2) (λ_=>rfl) s;have:=xk (f:=qSJ) (j:=0) (x:=Hn qIK s) hs rfl;rw[h1]at this;exact wb (wb (wb (wb (wb (by simpa using this)))))
theorem p_pnt(hp:p<t.Af.length)(hw:([Gj,yx])[j]?=some w):(rW t)[2*t.Aa.toNat+2*p+j]?=some (Hn w p):=by unfold rW;have h1:=eJ (f:=qSJ) (c:=2) (λ_=>rfl) t.Aa.toNat;have h2:=eJ (f:=qSI) (c:=2) (λ_=>rfl) p;have:=xk (f:=qSI) (j:=j) (x:=Hn w p) hp (by unfold qSI;rw[vV,hw];rfl);rw[h2]at this;exact wb (wb (wb (wb (qTT (j:=2*p+j) (by rw[h1];omega) this))))
theorem len3(t:Ah):((((List.range t.Aa.toNat).flatMap qSJ++(List.range t.Af.length).flatMap qSI)++(List.range t.Ab.length).flatMap nm3)).length=qD t:=by have h1:=eJ (f:=qSJ) (c:=2) (λ_=>rfl) t.Aa.toNat;have h2:=eJ (f:=qSI) (c:=2) (λ_=>rfl) t.Af.length;have h3:=eJ (f:=nm3) (c:=4) (λ_=>rfl) t.Ab.length;simp only[xK,h1,h2,h3];unfold qD;omega
theorem len4(t:Ah):((((List.range t.Aa.toNat).flatMap qSJ++(List.range t.Af.length).flatMap qSI)++(List.range t.Ab.length).flatMap nm3)++(List.range t.Af.length).flatMap qXT).length=qD t+t.Af.length:=by have h4:=eJ (f:=qXT) (c:=1) (λ_=>rfl) t.Af.length;rw[xK,len3,h4];omega
theorem p_lie(hp:p<t.Af.length):(rW t)[qD t+p]?=some (Hn qIJ p):=by unfold rW;have h4:=eJ (f:=qXT) (c:=1) (λ_=>rfl) p;have:=xk (f:=qXT) (j:=0) (x:=Hn qIJ p) hp rfl;rw[h4]at this;exact wb (wb (qTT (j:=1*p+0) (by rw[len3];omega) this))
theorem p_nm5(hC:COk t)(hi:i<t.Ab.length){x:BA}(h:(qKL t i)[j]?=some x):(rW t)[bF t i+j]?=some x:=by unfold rW;have h5:=Ff hC i aB;have:=xk hi h;exact wb (qTT (j:=((List.range i).flatMap (qKL t)).length+j) (by rw[len4];omega) this)
theorem p_state(hC:COk t)(hi:i<t.Ab.length)(hw:([O9,yT,Dc,Dd])[k]?=some w):(rW t)[bF t i+k]?=some (Hn w i):=p_nm5 hC hi (by unfold qKL;exact wb (wb (by rw[vV,hw];rfl)))
theorem p_rel(hC:COk t)(hi:i<t.Ab.length)(hk:k<bE t i):(rW t)[bF t i+(4+k)]?=some (Hn (wRelD++ep i) k):=p_nm5 hC hi (by have h1:J7 i (bE t i)=(List.range (bE t i)).map λk=>Hn (wRelD++ep i) k:=Lc _ _;unfold qKL;rw[h1];exact wb (qTT (j:=k) aN (by rw[vV,ew hk];rfl)))
def fh(w sep:BA)(xs:List Int):BA:=xs.foldl (λb x=>b++(sep++ep x.toNat)) w
def qUK:BA:=⟨#[32]⟩
abbrev Low(xs:List Int):Prop:=∀x∈xs,0<=x/\x<100
theorem qAQ(w sep:BA)(xs:List Int)(x:Int):fh w sep (xs++[x])=fh w sep xs++(sep++ep x.toNat):=by unfold fh;rw[xz];rfl
theorem qAR{w sep:BA}(hw:w.size<=100)(hs:sep.size<=10):∀(k:Nat){xs:List Int},xs.length=k->Low xs->(fh w sep xs).size<=100+20*k
 |0,xs,hk,h=>by
  have:=List.length_eq_zero_iff.1 hk;subst this;exact eR hw aB
 |k+1,xs,hk,h=>by
  have hne:xs≠[]:=λhe=>by subst he;simp at hk
  have hx:=List.dropLast_concat_getLast hne;rw[<- hx]at h⊢;have hl:=h (xs.getLast hne) aN;have h1:=qAR hw hs k (xs:=xs.dropLast) iK (λx hm=>h x (by simp[hm]));have h2:=G1 (xs.getLast hne).toNat aB;rw[qAQ,Mc,Mc];omega
theorem qOD(hw:w.size<=100)(hs:sep.size<=10)(hl:xs.length<=100)(hx:Low xs)(F:Int->Option BA)(hF:∀i:Nat,i<100->F (i:Int)=some (ep i)):bK (ρ:=BA) (λ(word5,x6)=>if x6<(xs.length:Int)then bL xs x6 λe9=>aE (F e9) λr10=>aH (sep.size+r10.size<=9223372036854775807) <|aH (word5.size+(sep++r10).size<=9223372036854775807) <|aH (cI (x6+(1:Int))) <|some (.inl ((word5++(sep++r10)),(x6+(1:Int))))else aX ( some word5)) (w,(0:Int))=some (fh w sep xs):=by rw[zI (s:=(w,(0:Int))) (λi=>(fh w sep (xs.take i),(i:Int))) xs.length (o:=fh w sep xs) rfl aB ?_ ?_];intro i hi;have hg:=iG hi;have hm:=hx _ (fV hi);generalize xs[i]=x at hg hm;have hF:=hF x.toNat aB;rw[show((x.toNat:Nat):Int)=x by omega]at hF;have h1:=qAR hw hs i (xs:=xs.take i) iK (λy hy=>hx y (ww hy));have h2:=G1 x.toNat aB;dsimp only;rw[iL,aR hg,hF,aC,Ny,aK Q7,pY,iQ,hg];show _=some (Sum.inl (fh w sep (xs.take i++[x]),((i+1:Nat):Int)));rw[qAQ];rfl;dsimp only;rw[mF,kH];rfl
theorem qIP(hw:w.size<=100)(hs:sep.size<=10)(hl:xs.length<=100)(hx:Low xs):zG w sep xs=some (fh w sep xs):=by unfold zG;rw[qOD hw hs hl hx strconv_Itoa (λi hi=>qGR hi),aC]
abbrev cl(t:Ah)(b:List Ak):Aw:=⟨t,zh (rW t),b⟩
theorem Wq(hC:COk t){pos:Nat}(hw:w.size<=100)(hl:xs.length<=100)(hx:Low xs)(hp:(rW t)[pos]?=some (fh w Yp xs)):bW (cl t b) w xs=some (vE (pos:Int)):=by unfold bW;have h1:=qIP (w:=w) (sep:=Yp) hw aP hl hx;unfold Yp at h1;rw[h1,aC,aK (by rw[qBQ];exact Cq hC)];have h2:=mapL_at (Cq hC) hp;unfold Yp at h2;rw[h2];rfl
theorem tit1(w:BA)(i:Nat):fh w Yp [(i:Int)]=Hn w i:=by unfold fh Hn;show w++(Yp++ep i)=_;rw[ByteArray.append_assoc]
theorem tit2(i k:Nat):fh qEK Yp [(i:Int),(k:Int)]=Hn (wRelD++ep i) k:=by unfold fh Hn;show(qEK++(Yp++ep i))++(Yp++ep k)=_;rw[show wRelD=qEK++Yp from rfl];simp only[ByteArray.append_assoc]
theorem qPQ{x:Int}(h:0<=x/\x<100):Low [x]:=λy hy=>by rw[zal121q]at hy;subst hy;exact h
theorem low2{x y:Int}(h:0<=x/\x<100)(h2:0<=y/\y<100):Low [x,y]:=λz hz=>by simp only[zQB,eE,or_false]at hz;rcases hz with rfl|rfl;exact h;exact h2
theorem low3{x y z:Int}(h:0<=x/\x<100)(h2:0<=y/\y<100)(h3:0<=z/\z<100):Low [x,y,z]:=λu hu=>by simp only[zQB,eE,or_false]at hu;rcases hu with rfl|rfl|rfl;exact h;exact h2;exact h3
theorem v_free(hC:COk t){s:Int}(h0:0<=s)(h1:s<t.Aa):bW (cl t b) ⟨#[102,114,101,101]⟩ [s]=some (nJ s):=by have hlm:=hC.lim;have h2:=Wq (b:=b) hC (w:=qIK) (xs:=[s]) (pos:=2*s.toNat) aP aN (qPQ aB) (by rw[show([s]:List Int)=[((s.toNat:Nat):Int)] by rw[show((s.toNat:Nat):Int)=s by omega],tit1];exact p_free aB);rw[show((2*s.toNat:Nat):Int)=2*s by omega]at h2;exact h2
theorem v_pnt(hC:COk t)(hp:p<t.Af.length)(hw:([Gj,yx])[j]?=some w)(hsz:w.size<=100):bW (cl t b) w [(p:Int)]=some (vE (2*t.Aa+2*(p:Int)+(j:Int))):=by have hlm:=hC.lim;have h2:=Wq (b:=b) hC (w:=w) (xs:=[(p:Int)]) hsz aN (qPQ aB) (by rw[tit1];exact p_pnt hp hw);rw[show((2*t.Aa.toNat+2*p+j:Nat):Int)=2*t.Aa+2*(p:Int)+(j:Int) by omega]at h2;exact h2
theorem v_lie(hC:COk t)(hp:p<t.Af.length):bW (cl t b) ⟨#[108,105,101]⟩ [(p:Int)]=some (vE ((qD t:Int)+(p:Int))):=by have hlm:=hC.lim;have h2:=Wq (b:=b) hC (w:=qIJ) (xs:=[(p:Int)]) aP aN (qPQ aB) (by rw[tit1];exact p_lie hp);rw[show((qD t+p:Nat):Int)=(qD t:Int)+(p:Int) by omega]at h2;exact h2
theorem B5(hC:COk t)(hi:i<t.Ab.length)(hw:([O9,yT,Dc,Dd])[k]?=some w)(hsz:w.size<=100):bW (cl t b) w [(i:Int)]=some (Iv t i (k:Int)):=by have hlm:=hC.lim;have h2:=Wq (b:=b) hC (w:=w) (xs:=[(i:Int)]) hsz aN (qPQ aB) (by rw[tit1];exact p_state hC hi hw);rw[show((bF t i+k:Nat):Int)=(bF t i:Int)+(k:Int) by omega]at h2;exact h2
theorem v_rel(hC:COk t)(hi:i<t.Ab.length)(hk:k<bE t i):bW (cl t b) ⟨#[114,101,108]⟩ [(i:Int),(k:Int)]=some (xQ t i (k:Int)):=by have hlm:=hC.lim;have h24:=hC.last24 i;have h2:=Wq (b:=b) hC (w:=qEK) (xs:=[(i:Int),(k:Int)]) aP aN (low2 aB aB) (by rw[tit2];exact p_rel hC hi hk);rw[show((bF t i+(4+k):Nat):Int)=(bF t i:Int)+(4+(k:Int)) by omega]at h2;exact h2
def vi(t:Ah)(i:Nat):Ad:=Hl [Iv t i 0,Iv t i 1,Iv t i 2,Iv t i 3]
def vY(t:Ah)(i k:Nat):Ad:=if k=bE t i then vi t i else mZ [vi t i,mS (xQ t i (k:Int))]
theorem zz(hC:COk t)(hi:i<t.Ab.length):eM (cl t b) (i:Int)=some (vi t i):=by unfold eM;have h0:=B5 (b:=b) hC hi (k:=0) (w:=O9) rfl aP;have h1:=B5 (b:=b) hC hi (k:=1) (w:=yT) rfl aP;have h2:=B5 (b:=b) hC hi (k:=2) (w:=Dc) rfl aP;have h3:=B5 (b:=b) hC hi (k:=3) (w:=Dd) rfl aP;unfold O9 at h0;unfold yT at h1;unfold Dc at h2;unfold Dd at h3;rw[h0,aC,h1,aC,h2,aC,h3,aC];rfl
theorem Vq(hC:COk t)(hr:t.Ab[i]?=some r)(hk:k<r.Aa.length):eW (cl t b) (i:Int) (k:Int)=some (vY t i k):=by have hi:=gJ hr;have hs:=hC.secs (kK hr);have hln:bE t i=r.Aa.length-1:=uA;unfold eW vY;dsimp only;rw[aR hr,pY];by_cases hl:k=bE t i;rw[iL,if_pos hl,zz hC hi];rfl;rw[mF,if_neg hl,zz hC hi,aC,v_rel hC hi aB,aC];rfl
theorem qCQ{e:Ad}(hw:w.size<=100)(hl:xs.length<=100)(hx:Low xs)(hb:b.length<=1000000):fL (cl t b) e w xs=some (cl t (b++[⟨fh w qUK xs,e⟩])):=by unfold fL;have h1:=qIP (w:=w) (sep:=qUK) hw aP hl hx;unfold qUK at h1⊢;rw[h1,aC,yv]
variable {t:Ah}{b:List Ak}{i:Nat}
theorem X1{ρ:Type}(f:Nat->List β)(pre:List β)(s0 n:Nat){F:Int×List β->Option ((Int×List β) ⊕ ρ)}{o:ρ}(hn:n<=9223372036854775807)(hF:∀j,j<n->F (((s0+j:Nat):Int),pre++(List.range j).flatMap f)=some (.inl (((s0+j+1:Nat):Int),(pre++(List.range j).flatMap f)++f j)))(he:F (((s0+n:Nat):Int),pre++(List.range n).flatMap f)=some (.inr o)):bK F ((s0:Int),pre)=some o:=by refine zI (λi=>(((s0+i:Nat):Int),pre++(List.range i).flatMap f)) n aN hn (λi hi=>?_) he;rw[hF i hi,oG,qe,nT];simp[gn]
def wPath:BA:=⟨#[112,97,116,104]⟩
def wOver:BA:=⟨#[111,118,101,114]⟩
def E4(t:Ah)(a c:Nat)(q:Aj)(s:Int)(x:Nat):List Ak:=match cL q.Aa s with
 |some k=>[⟨fh wPath qUK [(a:Int),(c:Int),s],mS (mZ [vY t a x,vY t c k])⟩]
 |none=>[]
def H6(t:Ah)(a c:Nat):List Ak:=rt t (λ_ r=>rt t (λ_ q=>(List.range r.Aa.length).flatMap λx=>E4 t a c q (wl r x) x) c) a
def Od(t:Ah)(a:Nat):List Ak:=(List.range (t.Ab.length-(a+1))).flatMap λj=>H6 t a (a+1+j)
def Cm(t:Ah):List Ak:=(List.range t.Ab.length).flatMap (Od t)
def E9(t:Ah)(a c:Nat)(q:Aj)(s:Int):List Ak:=match cL q.Aa s with
 |some k=>[⟨fh wOver qUK [(a:Int),(c:Int),s],mS (mZ [vi t a,vY t c k])⟩]
 |none=>[]
def gb(t:Ah)(a c:Nat):List Ak:=rt t (λ_ r=>rt t (λ_ q=>if a=c\/vZ r q=true then[]else(List.range r.Ae.length).flatMap λx=>E9 t a c q (r.Ae.getD x 0)) c) a
def I7(t:Ah):List Ak:=(List.range t.Ab.length).flatMap λa=>(List.range t.Ab.length).flatMap (gb t a)
theorem qBE(a c:Nat)(q:Aj)(s:Int)(x:Nat):(E4 t a c q s x).length<=1:=by unfold E4;split<;>simp
theorem qBJ(a c:Nat)(q:Aj)(s:Int):(E9 t a c q s).length<=1:=by unfold E9;split<;>simp
theorem Mt{f:Nat->Aj->List α}{c:Nat}(h:∀(i:Nat)(r:Aj),t.Ab[i]?=some r->(f i r).length<=c)(i:Nat):(rt t f i).length<=c:=by unfold rt;cases e:t.Ab[i]? with|none=>simp|some r=>exact h i r e
theorem qBD(hC:COk t)(a c:Nat):(H6 t a c).length<=24:=by unfold H6;refine Mt (λi r hr=>Mt (λj q hq=>?_) c) a;have h1:=hC.sec24 (kK hr);have:=gC (f:=λx=>E4 t a c q (wl r x) x) (c:=1) (λx=>qBE _ _ _ _ _) r.Aa.length;omega
theorem over24(hC:COk t)(hr:r∈t.Ab):r.Ae.length<=200:=by have:=hC.sum r hr;unfold wh at this;omega
theorem qBI(hC:COk t)(a c:Nat):(gb t a c).length<=200:=by unfold gb;refine Mt (λi r hr=>Mt (λj q hq=>?_) c) a;have h1:=over24 hC (kK hr);split;simp;have:=gC (f:=λx=>E9 t a c q (r.Ae.getD x 0)) (c:=1) (λx=>qBJ _ _ _ _) r.Ae.length;omega
theorem qVL(hC:COk t)(a:Nat):(Od t a).length<=24*48:=by have hlm:=hC.lim;unfold Od;have:=gC (f:=λj=>H6 t a (a+1+j)) (c:=24) (λj=>qBD hC _ _) (t.Ab.length-(a+1));have h2:24*(t.Ab.length-(a+1))<=24*48:=F9 _ aB;omega
theorem qVN(hC:COk t)(a:Nat):((List.range t.Ab.length).flatMap (gb t a)).length<=200*48:=by have hlm:=hC.lim;have:=gC (f:=gb t a) (c:=200) (λj=>qBI hC _ _) t.Ab.length;omega
theorem I5(hC:COk t)(n:Nat)(hn:n<=48):((List.range n).flatMap (Od t)).length<=60000:=by have:=gC (f:=Od t) (c:=24*48) (λj=>qVL hC _) n;have h2:24*48*n<=24*48*48:=F9 _ hn;omega
theorem I6(hC:COk t)(n:Nat)(hn:n<=48):((List.range n).flatMap λa=>(List.range t.Ab.length).flatMap (gb t a)).length<=500000:=by have:=gC (f:=λa=>(List.range t.Ab.length).flatMap (gb t a)) (c:=200*48) (λj=>qVN hC _) n;have h2:200*48*n<=200*48*48:=F9 _ hn;omega
theorem qSG(hC:COk t)(hr:r∈t.Ab)(hk:k<r.Ae.length):r.Ae[k]?=some (r.Ae.getD k 0)/\0<=r.Ae.getD k 0/\r.Ae.getD k 0<t.Aa:=by have h1:r.Ae.getD k 0=r.Ae[k]:=(by rw[fx,iG hk];rfl);have h2:=hC.sec_in hr (s:=r.Ae[k]) (vI _ (fV hk));rw[h1];exact⟨iG hk,h2⟩
theorem qHI(hC:COk t)(hr:r∈t.Ab):Qu r.Aa:=by have:=hC.sec24 hr;unfold Qu;omega
theorem c_paths(hC:COk t)(hb:b.length<=100000):lX (cl t b)=some (cl t (b++Cm t)):=by have hlm:=hC.lim;unfold lX;dsimp only;rw[gZ (Od t) b t.Ab.length aB (λa ha=>?_) iD];rfl;have hB:=I5 hC a aB;have hBl:(b++(List.range a).flatMap (Od t)).length<=160000:=pF;generalize b++(List.range a).flatMap (Od t)=B at hBl;have hra:=iG ha;have hrm:=fV ha;generalize hr:t.Ab[a]=r at hra hrm;dsimp only;rw[iL,pY,show((a:Int)+1)=((a+1:Nat):Int) by omega];rw[X1 (λj=>H6 t a (a+1+j)) B (a+1) (t.Ab.length-(a+1)) aB (λj hj=>?_) iD,aC];rw[pY];rfl;have hB2:=gC (f:=λj=>H6 t a (a+1+j)) (c:=24) (λj=>qBD hC _ _) j;have h24:24*j<=24*48:=F9 _ aB;have hB3:(B++(List.range j).flatMap λj=>H6 t a (a+1+j)).length<=170000:=pF;generalize (B++(List.range j).flatMap λj=>H6 t a (a+1+j))=B2 at hB3;obtain⟨c,hc⟩:∃c,c=a+1+j:=⟨_,rfl⟩;have hcl:c<t.Ab.length:=aB;rw[<- hc];have hqc:=iG hcl;have hqm:=fV hcl;generalize t.Ab[c]=q at hqc hqm;dsimp only;have hs24:=hC.sec24 hrm;rw[iL,aR hra,gZ (λx=>E4 t a c q (wl r x) x) B2 r.Aa.length aB (λx hx=>?_) iD,aC,pY];have hp2:H6 t a c=(List.range r.Aa.length).flatMap λx=>E4 t a c q (wl r x) x:=(by unfold H6;rw[xa hra,xa hqc]);rw[hp2];rfl;have hB4:=gC (f:=λx=>E4 t a c q (wl r x) x) (c:=1) (λx=>qBE _ _ _ _ _) x;have hB5:(B2++(List.range x).flatMap λx=>E4 t a c q (wl r x) x).length<=180000:=pF;generalize (B2++(List.range x).flatMap λx=>E4 t a c q (wl r x) x)=B6 at hB5;obtain⟨hsx,hs0,hs1⟩:=xu hC hrm hx;generalize hsd:wl r x=s at hsx hs0 hs1;dsimp only;rw[iL,aR hsx,aR hqc,eq _ _ (qHI hC hqm),aC];unfold E4;cases hk:cL q.Aa s with|none=>rw[if_neg In,pY,kU]|some k=>obtain⟨_,_,_,hkl⟩:=vP hk;have h1:=Vq (b:=B6) hC hra hx;have h2:=Vq (b:=B6) hC hqc hkl;rw[if_pos In,h1,aC];show aE (eW (cl t B6) (c:Int) (k:Int)) _=_;have h3:=qCQ (t:=t) (b:=B6) (e:=mS (mZ [vY t a x,vY t c k])) (w:=wPath) (xs:=[(a:Int),(c:Int),s]) aP aN (low3 aB aB aB) aB;unfold wPath at h3;rw[h2,aC];show aE (some (mZ [vY t a x,vY t c k])) _=_;rw[aC];show aE (some (mS (mZ [vY t a x,vY t c k]))) _=_;rw[aC,h3,aC,pY];rfl
theorem c_overs(hC:COk t)(hb:b.length<=200000):jZ (cl t b)=some (cl t (b++I7 t)):=by have hlm:=hC.lim;unfold jZ;dsimp only;rw[gZ (λa=>(List.range t.Ab.length).flatMap (gb t a)) b t.Ab.length aB (λa ha=>?_) iD];rfl;have hB:=I6 hC a aB;have hBl:(b++(List.range a).flatMap λa=>(List.range t.Ab.length).flatMap (gb t a)).length<=700000:=pF;generalize (b++(List.range a).flatMap λa=>(List.range t.Ab.length).flatMap (gb t a))=B at hBl;have hra:=iG ha;have hrm:=fV ha;generalize hr:t.Ab[a]=r at hra hrm;have ho24:=over24 hC hrm;dsimp only;rw[iL,aR hra,gZ (gb t a) B t.Ab.length aB (λc hcl=>?_) iD,aC,pY];have hB2:=gC (f:=gb t a) (c:=200) (λj=>qBI hC _ _) c;have hB3:(B++(List.range c).flatMap (gb t a)).length<=710000:=pF;generalize (B++(List.range c).flatMap (gb t a))=B2 at hB3;have hqc:=iG hcl;have hqm:=fV hcl;generalize t.Ab[c]=q at hqc hqm;dsimp only;have hp2:gb t a c=if a=c\/vZ r q=true then[]else(List.range r.Ae.length).flatMap λx=>E9 t a c q (r.Ae.getD x 0):=(by unfold gb;rw[xa hra,xa hqc]);rw[hp2,iL,aR hqc];have hsk:(if((a:Int))=(c:Int)then some true else aE (hZ r q) λr24=>some r24)=some (decide (a=c\/vZ r q=true)):=(by by_cases hac:a=c;rw[iL,decide_eq_true (.inl hac)];rw[mF,show hZ r q=some (vZ r q)from rfl,aC];congr 1;rw[zal18q,decide_eq_true_eq];exact⟨.inr,λh=>h.resolve_left hac⟩);rw[hsk,aC];by_cases hh:a=c\/vZ r q=true;rw[if_pos (decide_eq_true hh),if_pos hh,aC,pY,kU];rw[if_neg (by simpa using hh),if_neg hh,gZ (λx=>E9 t a c q (r.Ae.getD x 0)) B2 r.Ae.length aB (λx hx=>?_) iD,aC,pY];have hB4:=gC (f:=λx=>E9 t a c q (r.Ae.getD x 0)) (c:=1) (λx=>qBJ _ _ _ _) x;have hB5:(B2++(List.range x).flatMap λx=>E9 t a c q (r.Ae.getD x 0)).length<=720000:=pF;generalize (B2++(List.range x).flatMap λx=>E9 t a c q (r.Ae.getD x 0))=B6 at hB5;obtain⟨hsx,hs0,hs1⟩:=qSG hC hrm hx;generalize hsd:r.Ae.getD x 0=s at hsx hs0 hs1;dsimp only;rw[iL,aR hsx,eq _ _ (qHI hC hqm),aC];unfold E9;cases hk:cL q.Aa s with|none=>rw[if_neg In,pY,kU]|some k=>obtain⟨_,_,_,hkl⟩:=vP hk;have h1:=zz (b:=B6) hC ha;have h2:=Vq (b:=B6) hC hqc hkl;rw[if_pos In,h1,aC];show aE (eW (cl t B6) (c:Int) (k:Int)) _=_;have h3:=qCQ (t:=t) (b:=B6) (e:=mS (mZ [vi t a,vY t c k])) (w:=wOver) (xs:=[(a:Int),(c:Int),s]) aP aN (low3 aB aB aB) aB;unfold wOver at h3;rw[h2,aC];show aE (some (mZ [vi t a,vY t c k])) _=_;rw[aC];show aE (some (mS (mZ [vi t a,vY t c k]))) _=_;rw[aC,h3,aC,pY];rfl
variable {t:Ah}{b:List Ak}{i:Nat}
def qAK(t:Ah)(i:Nat)(r:Aj)(x:Ac):Ad:=if x∈r.Am\/x∈r.A4 then vi t i else match cL r.Aa (zX t x.el)with
 |some k=>vY t i k
 |none=>vi t i
def lieO(t:Ah)(i:Nat)(r:Aj)(x:Ac):Ak:=⟨fh qIJ qUK [(i:Int),zS t x.el],Hl [mS (qAK t i r x),Jf t x]⟩
def Fj(t:Ah)(i:Nat):List Ak:=rt t (λi r=>(gE (cV r)).map (lieO t i r)) i
def qBW(t:Ah):List Ak:=(List.range t.Ab.length).flatMap (Fj t)
theorem set_ok(ht:WfB t)(hr:r∈t.Ab):(∀s∈r.Am,Ac.ok s)/\(∀s∈r.A4,Ac.ok s)/\(∀s∈gE (cV r),Ac.ok s):=by have h:=ht.sok r hr;refine⟨λs hs=>h s V3,λs hs=>h s V3,λs hs=>h s ?_⟩;have:=ascS_mem.1 hs;simpa[cV]using this
theorem cnts(hC:COk t)(hr:r∈t.Ab):Qu r.Am/\Qu r.A4/\(gE (cV r)).length<=200:=by have hsum:=hC.sum r hr;unfold wh at hsum;have hal:=qZ (cV r);have hal2:(cV r).length<=200:=Ml;unfold Qu;omega
theorem qWG(hC:COk t)(i:Nat):(Fj t i).length<=200:=by unfold Fj;refine Mt (λi r hr=>?_) i;rw[yt];exact(cnts hC (kK hr)).2.2
theorem c_binds(hC:COk t)(ht:WfB t)(hr:t.Ab[i]?=some r){x:Ac}(hx:x∈gE (cV r)):lY (cl t b) (i:Int) x=some (qAK t i r x):=by have hi:=gJ hr;have hm:=kK hr;have hlm:=hC.lim;obtain⟨o1,o2,o3⟩:=set_ok ht hm;obtain⟨n1,n2,n3⟩:=cnts hC hm;obtain⟨p,hp1,hp2,hp3,hp4,hp5⟩:=hC.home hm hx;unfold lY qAK;dsimp only;rw[aR hr,pA t _ qL,aC,show kA (cL t.Af x.el)=(p:Int)from hp1,aR hp3,eq _ _ (qHI hC hm),aC,zC _ _ n1 (o3 x hx) o1,aC,zC _ _ n2 (o3 x hx) o2];cases hk:cL r.Aa (zX t x.el)with|none=>rw[if_pos In,aC,if_pos rfl];show aE (eM (cl t b) (i:Int)) _=_;rw[zz hC hi,aC];split<;>rfl|some k=>obtain⟨_,_,_,hkl⟩:=vP hk;rw[if_neg In];by_cases h1:x∈r.Am;rw[if_pos (decide_eq_true h1),aC,if_pos rfl];show aE (eM (cl t b) (i:Int)) _=_;rw[zz hC hi,aC,if_pos (.inl h1)];rw[if_neg sN,aC,aC];by_cases h2:x∈r.A4;rw[if_pos (decide_eq_true h2)];show aE (eM (cl t b) (i:Int)) _=_;rw[zz hC hi,aC,if_pos (.inr h2)];rw[if_neg yc];show aE (eW (cl t b) (i:Int) (k:Int)) _=_;rw[Vq hC hr hkl,aC,if_neg (by simp[h1,h2])]
theorem c_lies(hC:COk t)(ht:WfB t)(hr:t.Ab[i]?=some r)(hb:b.length<=900000):mP (cl t b) (i:Int)=some (cl t (b++Fj t i)):=by have hi:=gJ hr;have hm:=kK hr;have hlm:=hC.lim;obtain⟨n1,n2,n3⟩:=cnts hC hm;unfold mP Fj;dsimp only;rw[xa hr,aR hr,hC.sok ht hm,aC,rY (gE (cV r)) (λ_ x=>lieO t i r x) b aB (λx s B hx hB=>?_) iD,sV];have hx':=gJ hx;have hmem:=kK hx;obtain⟨p,hp1,hp2,hp3,hp4,hp5⟩:=hC.home hm hmem;dsimp only;rw[iL,aR hx,pA t _ qL,aC,show kA (cL t.Af s.el)=(p:Int)from hp1];show aE (bW (cl t B) ⟨#[108,105,101]⟩ [(p:Int)]) _=_;rw[v_lie hC hp2,aC,<- hp1];have h3 (e:Ad):=qCQ (t:=t) (b:=B) (e:=e) (w:=qIJ) (xs:=[(i:Int),zS t s.el]) aP aN (low2 aB aB) aB;unfold qIJ at h3;have tail (e:Ad):(aE (lY (cl t B) (i:Int) s) λr19=>aE (mR r19) λr20=>aE (bn [r20,e]) λr21=>aE (fL (cl t B) r21 ⟨#[108,105,101]⟩ [(i:Int),zS t s.el]) λr22=>aH (cI ((x:Int)+1)) <|(some (.inl ((x:Int)+1,r22.list)):Option ((Int×List Ak) ⊕ Aw)))=some (.inl ((x:Int)+1,B++[⟨fh ⟨#[108,105,101]⟩ qUK [(i:Int),zS t s.el],Hl [mS (qAK t i r s),e]⟩])):=(by rw[c_binds hC ht hr hmem,aC,show ∀e,mR e=some (mS e)from λ_=>rfl,aC,show ∀l,bn l=some (Hl l)from λ_=>rfl,aC,h3,aC,aK (eO hx' aB)]);unfold lieO Jf;by_cases h1:s.pos=1;rw[if_pos h1,if_pos h1,show ∀e,mR e=some (mS e)from λ_=>rfl,aC,aC];exact tail _;rw[if_neg h1,if_neg h1,aC];exact tail _
theorem Nh(hC:COk t)(n:Nat)(hn:n<=48):((List.range n).flatMap (Fj t)).length<=9600:=by have:=gC (f:=Fj t) (c:=200) (λj=>qWG hC _) n;have h2:200*n<=200*48:=F9 _ hn;omega
def Va:BA:=⟨#[112,114,111,118,101,100]⟩
def prE(t:Ah)(i:Nat)(r:Aj):Ad:=Hl [mS (Iv t i 1),xd t r]
theorem c_proved(hC:COk t)(ht:WfB t)(hr:t.Ab[i]?=some r)(hb:b.length<=900000):lC (cl t b) (i:Int)=some (cl t (b++[⟨fh Va qUK [(i:Int)],prE t i r⟩])):=by have hi:=gJ hr;have hm:=kK hr;have hlm:=hC.lim;have hsum:=hC.sum r hm;unfold wh at hsum;obtain⟨n1,n2,n3⟩:=cnts hC hm;unfold lC;dsimp only;rw[aR hr,zr _ ⟨aN,iK⟩,aC];have hfl:[r.Aa,r.Ae].flatten=r.Aa++r.Ae:=aN;have hcl:(r.Aa++r.Ae).length<=200:=pF;rw[hfl,rY (r.Aa++r.Ae) (λ_ s=>nJ s) [] aB (λx s B hx hB=>?_) iD,aC];rw[hC.sok ht hm,aC,rY (gE (cV r)) (λ_ s=>qFN t s) _ aB (λx s B hx hB=>?_) iD,aC];rw[sV,sV,pO];have h1:=B5 (b:=b) hC hi (k:=1) (w:=yT) rfl aP;unfold yT at h1;have h3:=qCQ (t:=t) (b:=b) (e:=prE t i r) (w:=Va) (xs:=[(i:Int)]) aP aN (qPQ aB) aB;unfold Va at h3;rw[h1,aC];show aE (some (mS (Iv t i 1))) _=_;rw[aC];show aE (some (xd t r)) _=_;rw[aC];show aE (some (prE t i r)) _=_;rw[aC,h3,aC];rfl;have hx':=gJ hx;have hmem:=kK hx;have hsi:=hC.set_in hm hmem;obtain⟨p,hp1,hp2,hp3,hp4,hp5⟩:=hC.home hm hmem;simp only[pO,List.length_mapIdx]at hB;dsimp only;rw[iL,aR hx];unfold qFN;by_cases h2:s.pos=2;rw[if_pos h2,aC,pA t _ qL,aC,show kA (cL t.Af s.el)=(p:Int)from hp1,if_pos h2];have h4:=v_pnt (b:=b) hC (p:=p) (j:=1) (w:=yx) hp2 rfl aP;unfold yx at h4;rw[h4,aC,yv,aK (eO hx' aB),hp1];rfl;rw[if_neg h2,aC,pA t _ qL,aC,show kA (cL t.Af s.el)=(p:Int)from hp1,if_neg h2];have h4:=v_pnt (b:=b) hC (p:=p) (j:=0) (w:=Gj) hp2 rfl aP;unfold Gj at h4;rw[h4,aC,yv,aK (eO hx' aB),hp1];rfl;have hx':=gJ hx;have hs:=hC.sec_in hm (kK hx);simp only[rA,iO]at hB;dsimp only;rw[iL,aR hx,v_free (b:=b) hC hs.1 hs.2,aC,yv,aK (eO hx' aB)]
def wOne:BA:=⟨#[111,110,101]⟩
def Og(t:Ah)(i a:Nat):List Ad:=(List.range a).map λ(c:Nat)=>mS (mZ [Iv t i (a:Int),Iv t i (c:Int)])
def qBK(t:Ah)(i:Nat):Ad:=mZ ((List.range 4).flatMap (Og t i))
def stW:List BA:=[O9,yT,Dc,Dd]
theorem stW_sz:∀w∈stW,w.size<=100:=aP
theorem stW_at{a:Nat}(ha:a<4):∃w,stW[a]?=some w/\w.size<=100:=by have h:stW[a]?=some (stW[a]'(by exact ha)):=iG _;exact⟨_,h,stW_sz _ (fV _)⟩
theorem qKF(t:Ah)(i a:Nat)(ha:a<=4):((List.range a).flatMap (Og t i)).length<=100:=by
 induction a with
 |zero=>simp
 |succ a ih=>
  suffices h:∀k,k<=4->((List.range k).flatMap (Og t i)).length<=10*k by have:=h (a+1) ha;omega
  intro k
  induction k with
  |zero=>intro _;simp
  |succ k ihk=>
   intro hk;have:=ihk aB;rw[nO,xK];have:(Og t i k).length=k:=by unfold Og;simp
   omega
theorem c_one(hC:COk t)(hi:i<t.Ab.length)(hb:b.length<=900000):nG (cl t b) (i:Int)=some (cl t (b++[⟨fh wOne qUK [(i:Int)],qBK t i⟩])):=by have hlm:=hC.lim;unfold nG;dsimp only;rw[gZ (Og t i) [] 4 aB (λa ha=>?_) iD,aC,pO];show aE (some (qBK t i)) _=_;have h3:=qCQ (t:=t) (b:=b) (e:=qBK t i) (w:=wOne) (xs:=[(i:Int)]) aP aN (qPQ aB) aB;unfold wOne at h3;rw[aC,h3,aC];rfl;have hB:=qKF t i a aB;have hBl:(([]:List Ad)++(List.range a).flatMap (Og t i)).length<=100:=(by rw[pO];omega);generalize ([]:List Ad)++(List.range a).flatMap (Og t i)=B at hBl;obtain⟨w,hw,hwz⟩:=stW_at ha;have hsub:sub stW 0 (a:Int)=stW.take a:=(by unfold sub;simp);have hsl:(stW.take a).length=a:=(by rw[oF];show min a 4=a;omega);dsimp only;rw[iL];show aE (bL stW (a:Int) λe12=>aH (0<=(0:Int)/\(0:Int)<=(a:Int)/\(a:Int)<=4) <|bK (λ(x17,b18)=>if x17<((sub stW (0:Int) (a:Int)).length:Int)then bL (sub stW (0:Int) (a:Int)) x17 λe21=>aE (bW (cl t b) e12 ([(i:Int)]:List Int)) λr22=>aE (bW (cl t b) e21 ([(i:Int)]:List Int)) λr23=>aE (sU ([r22,r23]:List Ad)) λr24=>aE (mR r24) λr25=>aH ((b18++([r25]:List Ad)).length<=1000000000) <|aH (cI (x17+(1:Int))) <|some (.inl ((x17+(1:Int)),(b18++([r25]:List Ad))))else aX ( some b18)) ((0:Int),B)) _=_;rw[aR hw,Ny,hsub,hsl,qWA a (λ(c:Nat)=>mS (mZ [Iv t i (a:Int),Iv t i (c:Int)])) B aB (λc B2 hc hB2=>?_) iD,aC,pY];rfl;obtain⟨w2,hw2,hw2z⟩:=stW_at (a:=c) aB;have hw3:(stW.take a)[c]?=some w2:=(by rw[List.getElem?_take_of_lt hc,hw2]);dsimp only;rw[iL,aR hw3,B5 (b:=b) hC hi hw hwz,aC,B5 (b:=b) hC hi hw2 hw2z,aC];show aE (some (mZ [Iv t i (a:Int),Iv t i (c:Int)])) _=_;rw[aC];show aE (some (mS (mZ [Iv t i (a:Int),Iv t i (c:Int)]))) _=_;rw[aC,yv,pY]
def H4(t:Ah)(i:Nat)(j:Nat):List Ad:=[Hl [mS (xQ t i ((1+j:Nat):Int)),xQ t i (j:Int)]]
def qBB(t:Ah)(i:Nat):Ad:=mZ ((List.range (bE t i-1)).flatMap (H4 t i))
theorem c_rels(hC:COk t)(hr:t.Ab[i]?=some r)(hb:b.length<=900000):mO (cl t b) (i:Int)=some (cl t (b++[⟨fh qEK qUK [(i:Int)],qBB t i⟩])):=by have hi:=gJ hr;have hlm:=hC.lim;have hs:=hC.secs (kK hr);have hln:bE t i=r.Aa.length-1:=uA;have h24:=hC.last24 i;unfold mO;dsimp only;rw[show(1:Int)=((1:Nat):Int)from rfl,X1 (H4 t i) [] 1 (bE t i-1) aB (λj hj=>?_) (by dsimp only;rw[aR hr,pY,mF];rfl),aC,pO];show aE (some (qBB t i)) _=_;have h3:=qCQ (t:=t) (b:=b) (e:=qBB t i) (w:=qEK) (xs:=[(i:Int)]) aP aN (qPQ aB) aB;unfold qEK at h3;rw[aC,h3,aC];rfl;have hB:=gC (f:=H4 t i) (c:=1) (λ_=>by simp[H4]) j;have hBl:(([]:List Ad)++(List.range j).flatMap (H4 t i)).length<=100:=(by rw[pO];omega);generalize ([]:List Ad)++(List.range j).flatMap (H4 t i)=B at hBl;dsimp only;rw[aR hr,pY,iL];rw[v_rel (b:=b) hC hi (k:=1+j) aB,aC];show aE (some (mS (xQ t i ((1+j:Nat):Int)))) _=_;rw[aC,pY,show(((1+j:Nat):Int)-((1:Nat):Int))=(j:Int) by omega,v_rel (b:=b) hC hi (k:=j) aB,aC];show aE (some (Hl [mS (xQ t i ((1+j:Nat):Int)),xQ t i (j:Int)])) _=_;rw[aC,yv,pY];rfl
variable {t:Ah}
theorem W0{l:List Ac}(h:lA t l=true):l.length<=t.Af.length:=by unfold lA at h;rw[allB_iff]at h;have h1:∀c a,a<c->c<l.length->(l.getD a ⟨0,0⟩).el<(l.getD c ⟨0,0⟩).el:=(by intro c;induction c with|zero=>intro a ha;omega|succ c ih=>intro a hac hc;have h2:=h (c+1) hc;unfold W3 at h2;have h3:=(of_decide_eq_true h2).2.2.2 aB;rw[Nat.add_sub_cancel]at h3;by_cases hh:a=c;rw[hh];exact h3;have:=ih a aB aB;omega);have hn:(l.map (·.el)).Nodup:=(by rw[qI];intro a c hac hc he;rw[yt]at hc;have:=h1 c a hac hc;rw[vV,vV]at he;rw[fx,fx,iG hc,iG (show a<l.length by omega)]at this;rw[iG hc,iG (show a<l.length by omega)]at he;simp only[jB,jA]at he;simp only[sK]at this;omega);have hsub:l.map (·.el)⊆t.Af:=λx hx=>(by obtain⟨s,hs,rfl⟩:=zal115q.1 hx;obtain⟨i,hi⟩:=lO hs;have hil:=gJ hi;have h2:=h i hil;unfold W3 at h2;have h3:=(of_decide_eq_true h2).1;rw[fx,hi,sK,C0]at h3;exact of_decide_eq_true h3);have:=qDK hn hsub;rwa [yt]at this
theorem secs_len{l:List Int}(h:H3 t l=true)(hs:t.Aa<=24):l.length<=24:=by unfold H3 at h;rw[allB_iff]at h;have hn:(l.map Int.toNat).Nodup:=(by rw[qI];intro a c hac hcl;rw[yt]at hcl;have h3:=h c hcl;have h4:=h a aB;rw[gx (iG hcl)]at h3;rw[gx (iG (show a<l.length by omega))]at h4;unfold Nl at h3 h4;simp only[pQ,gH,decide_eq_false_iff_not,decide_eq_true_eq]at h3 h4;rw[vV,vV,iG hcl,iG (show a<l.length by omega)];simp only[jB];intro he;have he2:=bO he;have:l[a]=l[c]:=aB;exact h3.2 (by rw[<- this];exact zal122q.2 ⟨a,aB,rfl⟩));have hsub:l.map Int.toNat⊆List.range 24:=(by intro x hx;obtain⟨s,hs2,rfl⟩:=zal115q.1 hx;obtain⟨i,hi⟩:=lO hs2;have h3:=h i (gJ hi);rw[gx hi]at h3;unfold Nl at h3;simp only[pQ,decide_eq_true_eq]at h3;rw[zal120q];omega);have h5:=qDK hn hsub;simp only[yt,xx]at h5;exact h5
theorem Ep(h:fE t=0):Iw t=true:=by obtain⟨h1,h2,h3,h4,h5⟩:=eB h;unfold Qj at h1;have h1:=of_decide_eq_true h1;unfold Iw;rw[pQ,zQT];refine⟨λr hr=>?_,decide_eq_true aB⟩;obtain⟨hR,hS⟩:=h3 r hr;unfold rE qCD at hR;unfold xP at hS;simp only[pQ,decide_eq_true_eq]at hR hS;have e1:=W0 hS.1.1;have e2:=W0 hS.1.2;have e3:=W0 hS.2;have e4:=secs_len hR.1.1.2 aB;rw[xK]at e4;apply decide_eq_true;unfold wh;omega
theorem qJK(h:TOk t)(hz:fE t=0):COk t:=by obtain⟨hT,h1,h2,h3⟩:=Gl (Ep hz);exact⟨h,h1,h2,h3,hz⟩
theorem qTK(h:TOk t)(ht:WfB t):mD t=some (if fE t=0 then if 2000<gQ t then(⟨[],0,[]⟩,2)else(qz t,0)else(⟨[],0,[]⟩,fE t)):=by by_cases hz:fE t=0;exact qRA h ht (Ep hz);unfold mD sA;rw[eu t h,aC,if_neg hz,aC,if_neg hz];dsimp only;rw[if_neg hz]
def qx(t:Ah)(i:Nat):List Ak:=rt t (λi r=>[⟨fh Va qUK [(i:Int)],prE t i r⟩]) i
def M9(t:Ah)(i:Nat):List Ak:=[⟨fh wOne qUK [(i:Int)],qBK t i⟩]
def qFE(t:Ah)(i:Nat):List Ak:=[⟨fh qEK qUK [(i:Int)],qBB t i⟩]
def qGC(t:Ah):List Ak:=(((Cm t++I7 t++qBW t)++(List.range t.Ab.length).flatMap (qx t))++(List.range t.Ab.length).flatMap (M9 t))++(List.range t.Ab.length).flatMap (qFE t)
theorem I0(i:Nat):(qx t i).length<=1:=Mt (λ_ _ _=>aN) i
theorem All_eq(h:TOk t)(ht:WfB t):q9 t=some (if fE t=0 then if 2000<gQ t then([],2)else(qGC t,0)else([],fE t)):=by unfold q9;rw[qTK h ht,aC];by_cases hz:fE t=0;have hC:=qJK h hz;have hlm:=hC.lim;rw[if_pos hz,if_pos hz];by_cases ha:2000<gQ t;rw[if_pos ha,if_pos ha];rfl;rw[if_neg ha,if_neg ha];dsimp only;have hnl:=va hC;rw[if_pos rfl,qVS (Cq hC) aB,aC];show aE (lX (cl t [])) _=_;rw[c_paths hC aN,aC,pO];have hPl:=I5 hC t.Ab.length aB;have hOl:=I6 hC t.Ab.length aB;have hLl:=Nh hC t.Ab.length aB;show aE (jZ (cl t (Cm t))) _=_;rw[c_overs hC (by unfold Cm;omega),aC];have h1:(Cm t++I7 t).length<=560000:=(by unfold Cm I7;rw[xK];omega);unfold qGC;have hlie:(Cm t++I7 t++qBW t).length<=570000:=(by unfold qBW;rw[xK];omega);dsimp only;generalize Cm t++I7 t=A at h1 hlie;rw[gZ (Fj t) A t.Ab.length aB (λi hi=>?_) iD,aC];rw[show(List.range t.Ab.length).flatMap (Fj t)=qBW t from rfl];generalize A++qBW t=A at hlie;rw[gZ (qx t) A t.Ab.length aB (λi hi=>?_) iD,aC];have hpl:=gC (f:=qx t) (c:=1) I0 t.Ab.length;have h2:(A++(List.range t.Ab.length).flatMap (qx t)).length<=571000:=pF;generalize A++(List.range t.Ab.length).flatMap (qx t)=A2 at h2;rw[gZ (M9 t) A2 t.Ab.length aB (λi hi=>?_) iD,aC];have hpl2:=gC (f:=M9 t) (c:=1) (λ_=>by simp[M9]) t.Ab.length;have h3:(A2++(List.range t.Ab.length).flatMap (M9 t)).length<=572000:=pF;generalize A2++(List.range t.Ab.length).flatMap (M9 t)=A3 at h3;rw[gZ (qFE t) A3 t.Ab.length aB (λi hi=>?_) iD,aC];have hpl3:=gC (f:=qFE t) (c:=1) (λ_=>by simp[qFE]) i;have h4:(A3++(List.range i).flatMap (qFE t)).length<=573000:=pF;generalize A3++(List.range i).flatMap (qFE t)=B at h4;dsimp only;rw[iL];show aE (mO (cl t B) (i:Int)) _=_;rw[c_rels hC (iG hi) aB,aC,pY];rfl;have hpl3:=gC (f:=M9 t) (c:=1) (λ_=>by simp[M9]) i;have h4:(A2++(List.range i).flatMap (M9 t)).length<=573000:=pF;generalize A2++(List.range i).flatMap (M9 t)=B at h4;dsimp only;rw[iL];show aE (nG (cl t B) (i:Int)) _=_;rw[c_one hC hi aB,aC,pY];rfl;have hpl3:=gC (f:=qx t) (c:=1) I0 i;have h4:(A++(List.range i).flatMap (qx t)).length<=573000:=pF;generalize A++(List.range i).flatMap (qx t)=B at h4;dsimp only;rw[iL];show aE (lC (cl t B) (i:Int)) _=_;have hr:=iG hi;rw[c_proved hC ht hr aB,aC,pY];unfold qx;rw[xa hr];have hpl3:=Nh hC i aB;have h4:(A++(List.range i).flatMap (Fj t)).length<=573000:=pF;generalize A++(List.range i).flatMap (Fj t)=B at h4;dsimp only;rw[iL];show aE (mP (cl t B) (i:Int)) _=_;have hr:=iG hi;rw[c_lies hC ht hr aB,aC,pY];rw[if_neg hz,if_neg hz];dsimp only;rw[if_neg hz]
end Go.Proofs.YtandcfplaooadaaGreatDoor
set_option linter.unusedVariables false
set_option linter.unusedSimpArgs false
set_option linter.unusedSectionVars false
set_option maxHeartbeats 1000000
set_option maxRecDepth 100000
namespace Go.Proofs.YtandcfplaooadaaGreatDoor
open Go Go.TL
variable {t:Ah}{i:Nat}
theorem Wv(e:Ad)(l:List Ad):yN (e::l)=yX e+yN l:=by simp[yN]
theorem szL_up{s:Nat}:∀{l:List Ad},(∀e∈l,yX e<=s)->yN l<=s*l.length
 |[],_=>by simp[yN]
 |e::l,h=>by
  have h1:=h e jI;have h2:=szL_up (l:=l) λx hx=>h x (pP _ hx);rw[Wv,kM,Nat.mul_succ];omega
variable {A B C l:List Int}{P Q:List Ay}{c c0:Av}{el y:Int}{j k n o ρ:Nat}{q r:Aj}{x:Ay}{α β:Type}{f:Nat->α->β}
theorem qOF{op:Int}{l:List Ad}{s:Nat}(h:∀e∈l,yX e<=s)(hl:l.length<=k)(hn:s*k+1<=n):yX ⟨op,0,l⟩<=n:=by have h1:=szL_up h;have h2:s*l.length<=s*k:=F9 _ hl;rw[Ww];dsimp only;omega
theorem sz_mem{l:List Ad}{x:Ad}(h:x∈l):yX x<=yN l/\l.length<=yN l:=by induction l with|nil=>cases h|cons e l ih=>have he:1<=yX e:=Q4;rw[Wv,kM];have hl:∀l:List Ad,l.length<=yN l:=λl=>(by induction l with|nil=>exact iF _|cons e l ih=>have he:1<=yX e:=Q4;rw[Wv,kM];omega);have:=hl l;rcases zQB.1 h with rfl|h;omega;have:=ih h;omega
theorem ok_sz:∀(n:Nat)(e:Ad),yX e<=n->n<=Xy->qBL e
 |0,e,h,_=>by rw[Ww]at h;omega
 |n+1,e,h,hn=>by
  rw[Ww]at h;rw[okE_iff];refine⟨?_,λx hx=>ok_sz n x (by have:=(sz_mem hx).1;omega) aB⟩
  cases hl:e.args with
  |nil=>simp
  |cons y l=>rw[<- hl];have:=(sz_mem (l:=e.args) (x:=y) (by rw[hl];exact jI)).2;omega
section
variable (hC:COk t){r:Aj}(hr:t.Ab[i]?=some r)
include hC hr
theorem z_lens:r.Aa.length+r.Ae.length<=200/\(gE (cV r)).length<=200:=by have hs:=hC.sum r (kK hr);have ha:=qZ (cV r);have hl:(cV r).length=r.Af.length+r.Am.length+r.A4.length:=qDR;unfold wh at hs;omega
theorem z_prov:yX (xd t r)<=500:=by have hz:=z_lens hC hr;refine qOF (s:=1) (k:=400) (λe he=>?_) (by simp only[xK,yt];omega) aB;rcases zQN.1 he with he|he;obtain⟨x,_,rfl⟩:=zal115q.1 he;simp[yX,yN];obtain⟨x,_,rfl⟩:=zal115q.1 he;simp[yX,yN,qFN]
end
variable {t:Ah}{i:Nat}
def gV(V:List Bool)(y:Int):Bool:=decide (0<=y)&&V.getD y.toNat false
theorem qGV(V:List Bool)(y:Nat):gV V (y:Int)=V.getD y false:=by unfold gV;rw[decide_eq_true aB,pX,show((y:Int)).toNat=y by omega]
theorem gV_vb(m:Machine)(y:Nat):gV m.vars (y:Int)=vb m y:=qGV _ _
theorem qQD{V:List Bool}{x:Int}{b:Bool}(h0:0<=x)(h1:x<(V.length:Int)):gV (V.set x.toNat b) y=if y=x then b else gV V y:=by unfold gV;by_cases hy:0<=y;rw[decide_eq_true hy,pX,pX,fx,fx,iC];by_cases hxy:y=x;subst hxy;rw[if_pos rfl,if_pos rfl,iL];rfl;rw[if_neg hxy,mF];rw[decide_eq_false hy,mF];rfl
theorem pB(V:List Bool)(x:Int):rS V (vE x)=gV V x:=by rw[Yn];rfl
theorem pL(V:List Bool)(l:List Ad):rS V (mZ l)=l.all (rS V):=by rw[Yn];unfold opB;simp[Ma]
theorem wR(V:List Bool)(l:List Ad):rS V (Hl l)=l.any (rS V):=by rw[Yn];unfold opB;simp[D4]
theorem qE(V:List Bool)(e:Ad):rS V (mS e)=!rS V e:=by rw[Yn];rfl
def InR(n:Nat)(l:List (Ay×Int)):Prop:=∀x∈l,0<=x.1.var/\x.1.var<(n:Int)
abbrev vs(l:List Ay):List Int:=l.map (·.var)
theorem J4{n:Nat}{y:Int}:∀(l:List (Ay×Int)) (V:List Bool),InR n l->V.length=n->(∀x∈l,x.1.var≠y)->gV (yL l V) y=gV V y
 |[],V,_,_,_=>rfl
 |x::l,V,hn,hV,hy=>by
  show gV (yL l (De V x)) y=gV V y;have hx:=hn x aN;rw[J4 l _ (λz hz=>hn z (by simp[hz])) (by rw[Mp];exact hV) (λz hz=>hy z (by simp[hz]))];unfold De;rw[qQD hx.1 aB,if_neg (λh=>hy x aN h.symm)]
theorem qID{A:List Ay}(h:A.length=C.length):(∃x∈List.zip A C,x.1.var=y)↔y∈vs A:=by rw[zal115q];constructor;rintro⟨x,hx,rfl⟩;obtain⟨a,c⟩:=x;exact⟨a,(wv hx).1,rfl⟩;rintro⟨a,ha,rfl⟩;obtain⟨k,hk⟩:=lO ha;have hkl:=gJ hk;exact⟨(a,C[k]' aB),kK (zal84q.2 ⟨hk,Q8⟩),rfl⟩
theorem qON{A B:List Ay}{V:List Bool}(hC:C.length=(A++x::B).length)(hV:V.length=n)(hr:∀z∈A++x::B,0<=z.var/\z.var<(n:Int))(hnd:(vs (A++x::B)).Nodup):∃W:List Bool,(∀y∈vs A,gV W y=gV (yL (List.zip (A++x::B) C) V) y)/\(∀y,y∉vs A->gV W y=gV V y)/\gV (yL (List.zip (A++x::B) C) V) x.var=(Dz x (rS W x.expr) (C.getD A.length 0)).2/\(zw (List.zip (A++x::B) C) V)[A.length]?=some (Dz x (rS W x.expr) (C.getD A.length 0)).1:=by have hal:A.length<C.length:=(by rw[hC];simp);have hCs:C=C.take A.length++(C[A.length]::C.drop (A.length+1)):=(by rw[<- List.drop_eq_getElem_cons hal,Qy]);have hCg:C.getD A.length 0=C[A.length]:=(by rw[fx,iG hal];rfl);rw[hCg];generalize C[A.length]=c at hCs hCg;have hl1:A.length=(C.take A.length).length:=V7;have hl2:B.length=(C.drop (A.length+1)).length:=(by rw[D1,hC];simp;omega);have hz:List.zip (A++x::B) C=List.zip A (C.take A.length)++(x,c)::List.zip B (C.drop (A.length+1)):=(by(conv=>lhs;rw[hCs]);rw[List.zip_append hl1];rfl);have hzl:(List.zip A (C.take A.length)).length=A.length:=qDU;have hzA:InR n (List.zip A (C.take A.length)):=λz hz=>hr z.1 (kI _ (wv (show(z.1,z.2)∈_ from hz)).1);have hzB:InR n (List.zip B (C.drop (A.length+1))):=λz hz=>hr z.1 (vI _ (pP _ (wv (show(z.1,z.2)∈_ from hz)).1));have hx:=hr x (vI _ jI);rw[hz];generalize hAz:List.zip A (C.take A.length)=Az at hzl hzA;generalize hBz:List.zip B (C.drop (A.length+1))=Bz at hzB;have hWl:(yL Az V).length=n:=(by rw[J5,hV]);unfold vs at hnd;rw[gS,iW,zal124q]at hnd;obtain⟨n1,n2,n3⟩:=hnd;rw[zal125q]at n2;have hBv:∀y,y∉vs B->∀z∈Bz,z.1.var≠y:=λy hy z hz he=>hy (by rw[<- hBz]at hz;exact(qID hl2).1 ⟨z,hz,he⟩);have hAv:∀y,y∉vs A->∀z∈Az,z.1.var≠y:=λy hy z hz he=>hy (by rw[<- hAz]at hz;exact(qID hl1).1 ⟨z,hz,he⟩);have hs:yL (Az++(x,c)::Bz) V=yL Bz (De (yL Az V) (x,c)):=(by rw[qJH];rfl);have hsl:(De (yL Az V) (x,c)).length=n:=(by rw[Mp,hWl]);refine⟨yL Az V,λy hy=>?_,λy hy=>J4 Az V hzA hV (hAv y hy),?_,?_⟩;rw[hs,J4 Bz _ hzB hsl (hBv y λhb=>n3 y hy y (pP _ hb) rfl)];unfold De;rw[qQD hx.1 (by rw[hWl];exact hx.2),if_neg];intro he;exact n3 y hy x.var jI he;rw[hs,J4 Bz _ hzB hsl (hBv _ n2.1)];unfold De;rw[qQD hx.1 (by rw[hWl];exact hx.2),if_pos rfl];unfold zw;rw[bd,xy aB,hzl,Bf];simp only[qDH,jB];rw[Gb aB,uG aB]
structure ScanV (t:Ah) (m:Machine) (I:List Bool) where
 hC:COk t
 ht:WfB t
 ha:gQ t<=2000
 hv:m.vars.length=gQ t
 hc:m.counts.length=gQ t-qD t
def Hm(t:Ah)(m:Machine)(I:List Bool):List Bool:=inV (qD t) I m.vars
def mG(t:Ah)(m:Machine)(I:List Bool):List Bool:=yL (List.zip (qC t) m.counts) (Hm t m I)
def Z7(t:Ah)(m:Machine)(I:List Bool):List Int:=zw (List.zip (qC t) m.counts) (Hm t m I)
section
variable {m:Machine}{I:List Bool}
theorem qKG(S:ScanV t m I):(Hm t m I).length=gQ t:=by have:=xT t;unfold Hm;rw[Vl (by rw[S.hv];omega),S.hv]
theorem qFW{y:Nat}(S:ScanV t m I)(hy:y<qD t):gV (Hm t m I) (y:Int)=I.getD y false:=by rw[qGV];unfold Hm inV;rw[fx,Bb yR,vV,ew hy];rfl
theorem Cn{y:Nat}(S:ScanV t m I)(hy:qD t<=y):gV (Hm t m I) (y:Int)=vb m y:=by have:=xT t;rw[qGV];unfold Hm inV vb;rw[fx,xy yR,nC,yt,xx,fx,show qD t+(y-qD t)=y by omega]
theorem W6(S:ScanV t m I):∀z∈qC t,(qD t:Int)<=z.var/\z.var<(gQ t:Int):=by intro z hz;have:=En S.hC S.ht z hz;unfold eh at this;simp only[pQ,decide_eq_true_eq]at this;exact this.2.1
structure Rd (t:Ah) (m:Machine) (I:List Bool) (W:List Bool) (A B:List Int):Prop where
 new:∀y∈A,gV W y=gV (mG t m I) y
 old:∀y∈B,gV W y=gV (Hm t m I) y
 inp:∀y:Int,y<(qD t:Int)->gV W y=gV (Hm t m I) y
theorem Gm(S:ScanV t m I){A B:List Ay}{x:Ay}(h:qC t=A++x::B):∃W:List Bool,Rd t m I W (vs A) (vs (x::B))/\gV (mG t m I) x.var=(Dz x (rS W x.expr) (m.counts.getD A.length 0)).2/\(Z7 t m I)[A.length]?=some (Dz x (rS W x.expr) (m.counts.getD A.length 0)).1:=by have hn:=Wn S.hC;have hi:=W6 S;have hl:=y6 S.hC;have e1:mG t m I=yL (List.zip (A++x::B) m.counts) (Hm t m I):=(by unfold mG;rw[h]);have e2:Z7 t m I=zw (List.zip (A++x::B) m.counts) (Hm t m I):=(by unfold Z7;rw[h]);rw[h]at hn hi hl;obtain⟨W,h1,h2,h3,h4⟩:=qON (n:=gQ t) (C:=m.counts) (V:=Hm t m I) (by rw[hl,S.hc]) (qKG S) (λz hz=>by have:=hi z hz;omega) hn;rw[<- e1]at h1 h3;rw[<- e2]at h4;refine⟨W,⟨h1,λy hy=>h2 y λhA=>?_,λy hy=>h2 y λhA=>?_⟩,h3,h4⟩;unfold vs at hA hy;rw[gS,zal124q]at hn;exact hn.2.2 y hA y hy rfl;obtain⟨z,hz,rfl⟩:=zal115q.1 hA;have:=hi z (kI _ hz);omega
theorem new_in(S:ScanV t m I){y:Int}(hy:y<(qD t:Int)):gV (mG t m I) y=gV (Hm t m I) y:=by unfold mG;refine J4 (n:=gQ t) _ _ (λz hz=>?_) (qKG S) (λz hz he=>?_);have:=W6 S z.1 (wv (show(z.1,z.2)∈_ from hz)).1;omega;have:=W6 S z.1 (wv (show(z.1,z.2)∈_ from hz)).1;omega
end
theorem xU{α:Type}(f:Nat->List α){i:Nat}:∀{n:Nat},i<n->∃R,(List.range n).flatMap f=(List.range i).flatMap f++(f i++R)
 |0,h=>aB
 |n+1,h=>by
  by_cases he:i=n;subst he;exact⟨[],by rw[nO,kU]⟩;obtain ⟨R, hR⟩ := xU f (n := n) (i := i) aB;exact⟨R++f n,by rw[nO,hR];simp only[nT]⟩
variable {t:Ah}{i:Nat}{V0 V1 W W':List Bool}
section
variable (hC:COk t)
include hC
end
section
variable {r:Aj}(hr:t.Ab[i]?=some r)
include hr
end
abbrev sv(t:Ah)(V:List Bool)(i:Nat)(k:Int):Bool:=gV V ((bF t i:Int)+k)
abbrev rv(t:Ah)(V:List Bool)(i k:Nat):Bool:=gV V ((bF t i:Int)+(4+(k:Int)))
section
end
variable {t:Ah}{i:Nat}{V V0 V1:List Bool}
def Zn(t:Ah)(V:List Bool)(i:Nat):Prop:=sv t V i 0=true\/sv t V i 1=true\/sv t V i 2=true\/sv t V i 3=true
def Lk(t:Ah)(V:List Bool)(i k:Nat):Prop:=Zn t V i/\(k<bE t i->rv t V i k=false)
def Excl(t:Ah)(V:List Bool)(i:Nat):Prop:=¬(sv t V i 1=true/\sv t V i 0=true)/\¬(sv t V i 2=true/\sv t V i 0=true)/\¬(sv t V i 2=true/\sv t V i 1=true)/\¬(sv t V i 3=true/\sv t V i 0=true)/\¬(sv t V i 3=true/\sv t V i 1=true)/\¬(sv t V i 3=true/\sv t V i 2=true)
def kxN(t:Ah)(i:Nat)(r:Aj)(x:Ac):Nat:=if x∈r.Am\/x∈r.A4 then bE t i else match cL r.Aa (zX t x.el)with
 |some k=>k
 |none=>bE t i
def qTY(t:Ah)(V:List Bool)(x:Ac):Prop:=gV V ((qD t:Int)+zS t x.el)=true↔¬x.pos=1
structure InvX (t:Ah) (V:List Bool):Prop where
 one:∀i r,t.Ab[i]?=some r->Excl t V i
 rel:∀i r,t.Ab[i]?=some r->∀k,k+1<bE t i->rv t V i (k+1)=true->rv t V i k=true
 use:∀i r,t.Ab[i]?=some r->∀k,k<bE t i->rv t V i k=true->sv t V i 2=true\/sv t V i 3=true
 path:∀a c r q,t.Ab[a]?=some r->t.Ab[c]?=some q->a≠c->∀(x y:Nat)(s:Int),r.Aa[x]?=some s->q.Aa[y]?=some s->¬(Lk t V a x/\Lk t V c y)
 over:∀a c r q,t.Ab[a]?=some r->t.Ab[c]?=some q->a≠c->vZ r q=false->∀s∈r.Ae,∀k:Nat,q.Aa[k]?=some s->¬(Zn t V a/\Lk t V c k)
 lie:∀i r,t.Ab[i]?=some r->∀x∈gE (cV r),Lk t V i (kxN t i r x)->qTY t V x
def PrvX(t:Ah)(V:List Bool):Prop:=∀i r,t.Ab[i]?=some r->sv t V i 1=true->rS V (xd t r)=true
theorem lastN_at(hr:t.Ab[i]?=some r):bE t i=r.Aa.length-1:=uA
section
section
variable {r:Aj}(hr:t.Ab[i]?=some r)
include hr
end
end
variable {t:Ah}{i:Nat}{V V':List Bool}
def GoodX(t:Ah)(V:List Bool):Prop:=InvX t V/\PrvX t V
theorem qAY{f:Nat->Aj->List α}{o:α}(h:o∈rt t f i):∃r,t.Ab[i]?=some r/\o∈f i r:=by unfold rt at h;cases hr:t.Ab[i]? with|none=>rw[hr]at h;cases h|some r=>rw[hr]at h;exact⟨r,rfl,h⟩
theorem Vm{s:Int}(h:cL l s=some k):l[k]?=some s:=by obtain⟨z,hz,hzp,-⟩:=vP h;rw[hz,show z=s by simpa using hzp]
theorem qBM(hC:COk t)(P:Ad->Prop)(h1:∀a c r q,t.Ab[a]?=some r->t.Ab[c]?=some q->a≠c->∀(x k:Nat)(s:Int),r.Aa[x]?=some s->q.Aa[k]?=some s->P (mS (mZ [vY t a x,vY t c k])))(h2:∀a c r q,t.Ab[a]?=some r->t.Ab[c]?=some q->a≠c->vZ r q=false->∀s∈r.Ae,∀k:Nat,q.Aa[k]?=some s->P (mS (mZ [vi t a,vY t c k])))(h3:∀i r,t.Ab[i]?=some r->∀x∈gE (cV r),P (Hl [mS (qAK t i r x),Jf t x]))(h4:∀i r,t.Ab[i]?=some r->P (prE t i r))(h5:∀i,i<t.Ab.length->P (qBK t i))(h6:∀i,i<t.Ab.length->P (qBB t i)):∀o∈qGC t,P o.expr:=by intro o ho;unfold qGC at ho;simp only[zQN]at ho;rcases ho with((((ho|ho)|ho)|ho)|ho)|ho;obtain⟨a,-,ho⟩:=zal112q.1 ho;obtain⟨j,-,ho⟩:=zal112q.1 ho;obtain⟨r,hr,ho⟩:=qAY ho;obtain⟨q,hq,ho⟩:=qAY ho;obtain⟨x,hx,ho⟩:=zal112q.1 ho;have hx:=(xu hC (kK hr) (zal120q.1 hx)).1;unfold E4 at ho;(cases hk:cL q.Aa (wl r x)with|none=>rw[hk]at ho;cases ho|some k=>rw[hk]at ho;rw[zal121q.1 ho];exact h1 a _ r q hr hq aB x k _ hx (Vm hk));obtain⟨a,-,ho⟩:=zal112q.1 ho;obtain⟨c,-,ho⟩:=zal112q.1 ho;obtain⟨r,hr,ho⟩:=qAY ho;obtain⟨q,hq,ho⟩:=qAY ho;split at ho;cases ho;rename_i hac;simp only[not_or,zal22q]at hac;obtain⟨x,hx,ho⟩:=zal112q.1 ho;have hx:=(qSG hC (kK hr) (zal120q.1 hx)).1;unfold E9 at ho;(cases hk:cL q.Aa (r.Ae.getD x 0)with|none=>rw[hk]at ho;cases ho|some k=>rw[hk]at ho;rw[zal121q.1 ho];exact h2 a c r q hr hq hac.1 hac.2 _ (kK hx) k (Vm hk));obtain⟨a,-,ho⟩:=zal112q.1 ho;obtain⟨r,hr,ho⟩:=qAY ho;obtain⟨x,hx,rfl⟩:=zal115q.1 ho;exact h3 a r hr x hx;obtain⟨a,-,ho⟩:=zal112q.1 ho;obtain⟨r,hr,ho⟩:=qAY ho;rw[zal121q.1 ho];exact h4 a r hr;obtain⟨a,ha,ho⟩:=zal112q.1 ho;unfold M9 at ho;rw[zal121q.1 ho];exact h5 a (zal120q.1 ha);obtain⟨a,ha,ho⟩:=zal112q.1 ho;unfold qFE at ho;rw[zal121q.1 ho];exact h6 a (zal120q.1 ha)
theorem live_ev:rS V (vi t i)=true↔Zn t V i:=by unfold vi Zn;rw[wR];simp only[pW,yO,wD,pB,lP]
theorem Vk(hk:k<=bE t i):rS V (vY t i k)=true↔Lk t V i k:=by unfold vY Lk;split;rw[live_ev];exact⟨λh=>⟨h,λh2=>aB⟩,λh=>h.1⟩;rw[pL];simp only[pC,nU,pD,qE,pB,pQ,gH,live_ev];exact⟨λh=>⟨h.1,λ_=>h.2⟩,λh=>⟨h.1,h.2 aB⟩⟩
theorem obs_hold(hC:COk t)(H:GoodX t V):∀o∈qGC t,rS V o.expr=true:=by have lst {i:Nat} {r:Aj} (hr:t.Ab[i]?=some r) {k:Nat} {s:Int} (hk:r.Aa[k]?=some s):k<=bE t i:=(by have:=lastN_at hr;have:=gJ hk;omega);refine qBM hC (λe=>rS V e=true) (λa c r q ha hc hac x k s hx hk=>?_) (λa c r q ha hc hac hf s hs k hk=>?_) (λi r hr x hx=>?_) (λi r hr=>?_) (λi hi=>?_) (λi hi=>?_);rw[qE,pL];simp only[pC,nU,pD,gH,<- Bool.not_eq_true,pQ,Vk (lst ha hx),Vk (lst hc hk)];exact H.1.path a c r q ha hc hac x k s hx hk;rw[qE,pL];simp only[pC,nU,pD,gH,<- Bool.not_eq_true,pQ,live_ev,Vk (lst hc hk)];exact H.1.over a c r q ha hc hac hf s hs k hk;have hb:rS V (qAK t i r x)=true->Lk t V i (kxN t i r x):=(by unfold qAK kxN;have hl:rS V (vi t i)=true->Lk t V i (bE t i):=λh=>⟨live_ev.1 h,λh2=>aB⟩;split;exact hl;cases hk:cL r.Aa (zX t x.el)with|none=>exact hl|some k=>exact(Vk (lst hr (Vm hk))).1);have ho:=H.1.lie i r hr x hx;rw[wR,pW,qE,pW];(cases hv:rS V (qAK t i r x)with|false=>rfl|true=>have ho:=ho (hb hv);unfold qTY at ho;unfold Jf;by_cases hp:x.pos=1;rw[if_pos hp,qE,pB];(cases hg:gV V ((qD t:Int)+zS t x.el)with|false=>rfl|true=>exact absurd hp (ho.1 hg));rw[if_neg hp,pB,ho.2 hp];rfl);unfold prE;rw[wR,pW,qE,pB,pW];(cases hv:gV V ((bF t i:Int)+1)with|false=>rfl|true=>rw[H.2 i r hr hv];rfl);unfold qBK;rw[pL,zQT];intro e he;obtain⟨a,ha,he⟩:=zal112q.1 he;obtain⟨c,hc,rfl⟩:=zal115q.1 he;have ha:=zal120q.1 ha;have hc:=zal120q.1 hc;rw[qE,pL];simp only[pC,nU,pD,gH,pB,<- Bool.not_eq_true,pQ];obtain⟨e1,e2,e3,e4,e5,e6⟩:=H.1.one i _ (iG hi);have:(a=1/\c=0)\/(a=2/\c=0)\/(a=2/\c=1)\/(a=3/\c=0)\/(a=3/\c=1)\/(a=3/\c=2):=aB;rcases this with⟨rfl,rfl⟩|⟨rfl,rfl⟩|⟨rfl,rfl⟩|⟨rfl,rfl⟩|⟨rfl,rfl⟩|⟨rfl,rfl⟩;exact e1;exact e2;exact e3;exact e4;exact e5;exact e6;unfold qBB;rw[pL,zQT];intro e he;obtain⟨j,hj,he⟩:=zal112q.1 he;have hj:=zal120q.1 hj;unfold H4 at he;rw[zal121q.1 he,wR,pW,qE,pB,pW,pB];have hr:=H.1.rel i _ (iG hi) j aB;rw[show 1+j=j+1 by omega];cases hv:gV V ((bF t i:Int)+(4+((j+1:Nat):Int)))with|false=>rfl|true=>rw[show gV V ((bF t i:Int)+(4+(j:Int)))=true from hr hv];rfl
theorem obs_sz(hC:COk t):∀o∈qGC t,yX o.expr<=100000:=by have hl:∀i,yX (vi t i)<=10:=λi=>(by simp[vi,yX,yN]);have hk:∀i k,yX (vY t i k)<=20:=λi k=>(by have:=hl i;unfold vY;split;omega;simp only[yX,yN];omega);refine qBM hC (λe=>yX e<=100000) (λa c r q ha hc hac x k s hx hy=>?_) (λa c r q ha hc hac hf s hs k _=>?_) (λi r hr x hx=>?_) (λi r hr=>?_) (λi hi=>?_) (λi hi=>?_);have h1:=hk a x;have h2:=hk c k;simp only[yX,yN];omega;have h1:=hl a;have h2:=hk c k;simp only[yX,yN];omega;have h1:yX (qAK t i r x)<=20:=(by unfold qAK;split;have:=hl i;omega;split;exact hk i _;have:=hl i;omega);have h2:yX (Jf t x)<=2:=(by unfold Jf;split<;>simp[yX,yN]);simp only[yX,yN];omega;have:=z_prov hC hr;simp only[prE,yX,yN];omega;refine qOF (s:=10) (k:=100) (λe he=>?_) (qKF t i 4 aB) aB;obtain⟨a,ha,he⟩:=zal112q.1 he;obtain⟨c,hc,rfl⟩:=zal115q.1 he;simp[yX,yN];refine qOF (s:=10) (k:=100) (λe he=>?_) ?_ aB;obtain⟨j,hj,he⟩:=zal112q.1 he;unfold H4 at he;rw[zal121q.1 he];simp[yX,yN];have:=gC (f:=H4 t i) (c:=1) (λ_=>by simp[H4]) (bE t i-1);have:=hC.last24 i;omega
variable {t:Ah}{i:Nat}{m:Machine}{I:List Bool}
theorem Ee{f:Nat->Aj->List Ay}(hr:t.Ab[i]?=some r)(hx:x∈f i r)(hn:i<n):x.var∈vs ((List.range n).flatMap (rt t f)):=wx (rt_mem.2 ⟨i,r,hn,hr,hx⟩)
section vmem
variable {r:Aj}(hr:t.Ab[i]?=some r)
include hr
theorem v_wait:(bF t i:Int)+(4+(bE t i:Int))∈vs (qO t):=Ee (f:=rN t) hr (x:=⟨2,(bF t i:Int)+(4+(bE t i:Int)),12,_⟩) jI (gJ hr)
theorem v_stand:(bF t i:Int)+(4+(bE t i:Int))+1∈vs (qO t):=Ee (f:=rN t) hr (x:=⟨2,(bF t i:Int)+(4+(bE t i:Int))+1,4,_⟩) (pP _ jI) (gJ hr)
theorem Wr{k:Int}(h0:0<=k)(h1:k<=3):fT t i+k∈vs (uY t):=by have hi:=gJ hr;rcases (by omega:k=0\/k=1\/k=2\/k=3)with h|h|h|h<;>subst h;exact Ee (f:=qy t) hr (x:=⟨1,fT t i+0,0,Fs t i r⟩) yb hi;exact Ee (f:=qy t) hr (x:=⟨1,fT t i+1,0,Ws t i r⟩) yb hi;exact Ee (f:=qy t) hr (x:=⟨1,fT t i+2,0,Fw t i r⟩) yb hi;exact Ee (f:=qy t) hr (x:=⟨1,fT t i+3,0,Zh t i r⟩) yb hi
theorem v_st{k:Int}(h0:1<=k)(h1:k<=3):(bF t i:Int)+k∈vs (rV t):=by have hi:=gJ hr;rcases (by omega:k=1\/k=2\/k=3)with h|h|h<;>subst h;exact Ee (f:=pZ t) hr (x:=⟨1,(bF t i:Int)+1,0,uP t i r⟩) Mf hi;exact Ee (f:=pZ t) hr (x:=⟨1,(bF t i:Int)+2,0,Ih t i 1⟩) Mf hi;exact Ee (f:=pZ t) hr (x:=⟨1,(bF t i:Int)+3,0,Ih t i 2⟩) Mf hi
theorem v_relQ{k:Nat}(hk:k<bE t i):(bF t i:Int)+(4+(k:Int))∈vs (rV t):=by have hi:=gJ hr;have h:=Ee (f:=pZ t) hr (x:=⟨1,(bF t i:Int)+(4+((bE t i-1-(bE t i-1-k):Nat):Int)),0,_⟩) (by unfold pZ;exact kI _ (rel_mem.2 ⟨bE t i-1-k,aB,rfl⟩)) hi;dsimp only at h;rwa [show bE t i-1-(bE t i-1-k)=k by omega]at h
theorem Jz{n:Nat}(hn:i<n):fT t i+4∈vs ((List.range n).flatMap (rt t (tA t))):=Ee (f:=tA t) hr (x:=⟨1,fT t i+4,0,cv t i r⟩) jI hn
theorem v_set:(bF t i:Int)+0∈vs (sE t):=wx (f:=Ay.var) (a:=⟨1,(bF t i:Int)+0,0,_⟩) (zal112q.2 ⟨i,zal120q.2 (gJ hr),zal121q.2 rfl⟩)
end vmem
theorem v_lieQ{p:Nat}(hp:t.Af[p]?=some el):(qD t:Int)+(p:Int)∈vs (zD t):=wx (f:=Ay.var) (a:=⟨1,(qD t:Int)+(p:Int),0,Kv t p el⟩) (pt_mem.2 ⟨p,el,(gJ hp),hp,zal121q.2 rfl⟩)
theorem Rd.mono{W:List Bool}{A' B':List Int}(h:Rd t m I W A B)(hA:A'⊆A)(hB:B'⊆B):Rd t m I W A' B':=⟨λy hy=>h.new y (hA hy),λy hy=>h.old y (hB hy),h.inp⟩
theorem Lx(h:x.kind=1)(v:Bool)(c:Int):(Dz x v c).2=v:=by unfold Dz;rw[mF]
theorem at1(S:ScanV t m I)(hr:t.Ab[i]?=some r)(hx:rN t i r=P++x::Q):∃W,Rd t m I W (vs P) (vs (uY t)++vs (rV t)++vs (vW t)++vs (zD t)++vs (sE t))/\gV (mG t m I) x.var=(Dz x (rS W x.expr) (m.counts.getD (2*i+P.length) 0)).2/\(Z7 t m I)[2*i+P.length]?=some (Dz x (rS W x.expr) (m.counts.getD (2*i+P.length) 0)).1:=by have hi:=gJ hr;obtain⟨R,hR⟩:=xU (rt t (rN t)) hi;rw[xa hr,hx]at hR;have hA:((List.range i).flatMap (rt t (rN t))++P).length=2*i+P.length:=(by rw[xK,Xa (f:=rN t) (c:=2) (λ_ _ _=>rfl) i aB]);obtain⟨W,h1,h2,h3⟩:=Gm S (A:=(List.range i).flatMap (rt t (rN t))++P) (x:=x) (B:=Q++R++uY t++rV t++vW t++zD t++sE t) (by unfold qC;rw[show qO t=_ from hR];simp only[nT,D3]);rw[hA]at h2 h3;refine⟨W,h1.mono (λy hy=>?_) (λy hy=>?_),h2,h3⟩;unfold vs at *; simp only[gS,zQN]at *; grind;unfold vs at *; simp only[gS,iW,zQN,zQB]at *; grind
theorem at2(S:ScanV t m I)(hr:t.Ab[i]?=some r)(hx:qy t i r=P++x::Q)(hk:x.kind=1):∃W,Rd t m I W (vs (qO t)++vs P) (vs (rV t)++vs (vW t)++vs (zD t)++vs (sE t))/\gV (mG t m I) x.var=rS W x.expr:=by have hi:=gJ hr;obtain⟨R,hR⟩:=xU (rt t (qy t)) hi;rw[xa hr,hx]at hR;obtain⟨W,h1,h2,h3⟩:=Gm S (A:=qO t++((List.range i).flatMap (rt t (qy t))++P)) (x:=x) (B:=Q++R++rV t++vW t++zD t++sE t) (by unfold qC;rw[show uY t=_ from hR];simp only[nT,D3]);rw[Lx hk]at h2;refine⟨W,h1.mono (λy hy=>?_) (λy hy=>?_),h2⟩;unfold vs at *; simp only[gS,zQN]at *; grind;unfold vs at *; simp only[gS,iW,zQN,zQB]at *; grind
theorem at3(S:ScanV t m I)(hr:t.Ab[i]?=some r)(hx:pZ t i r=P++x::Q)(hk:x.kind=1):∃W,Rd t m I W (vs (qO t)++vs (uY t)++vs P) (vs (x::Q)++vs (vW t)++vs (zD t)++vs (sE t))/\gV (mG t m I) x.var=rS W x.expr:=by have hi:=gJ hr;obtain⟨R,hR⟩:=xU (rt t (pZ t)) hi;rw[xa hr,hx]at hR;obtain⟨W,h1,h2,h3⟩:=Gm S (A:=qO t++uY t++((List.range i).flatMap (rt t (pZ t))++P)) (x:=x) (B:=Q++R++vW t++zD t++sE t) (by unfold qC;rw[show rV t=_ from hR];simp only[nT,D3]);rw[Lx hk]at h2;refine⟨W,h1.mono (λy hy=>?_) (λy hy=>?_),h2⟩;unfold vs at *; simp only[gS,zQN]at *; grind;unfold vs at *; simp only[gS,iW,zQN,zQB]at *; grind
theorem at4(S:ScanV t m I)(hr:t.Ab[i]?=some r):∃W,Rd t m I W (vs (qO t)++vs (uY t)++vs (rV t)++vs ((List.range i).flatMap (rt t (tA t)))) (vs (zD t)++vs (sE t))/\gV (mG t m I) (fT t i+4)=rS W (cv t i r):=by have hi:=gJ hr;obtain⟨R,hR⟩:=xU (rt t (tA t)) hi;rw[xa hr]at hR;obtain⟨W,h1,h2,h3⟩:=Gm S (A:=qO t++uY t++rV t++((List.range i).flatMap (rt t (tA t)))) (x:=⟨1,fT t i+4,0,cv t i r⟩) (B:=R++zD t++sE t) (by unfold qC;rw[show vW t=_ from hR];unfold tA;simp only[nT,D3,pO]);rw[Lx rfl]at h2;refine⟨W,h1.mono (λy hy=>?_) (λy hy=>?_),h2⟩;unfold vs at *; simp only[gS,zQN]at *; grind;unfold vs at *; simp only[gS,iW,zQN,zQB]at *; grind
theorem at5(S:ScanV t m I){p:Nat}(hp:t.Af[p]?=some el):∃W,Rd t m I W (vs (qO t)++vs (uY t)++vs (rV t)++vs (vW t)) ([(qD t:Int)+(p:Int)]++vs (sE t))/\gV (mG t m I) ((qD t:Int)+(p:Int))=rS W (Kv t p el):=by have hi:=gJ hp;obtain⟨R,hR⟩:=xU (pt t (Dk t)) hi;rw[qSD hp]at hR;obtain⟨W,h1,h2,h3⟩:=Gm S (A:=qO t++uY t++rV t++vW t++((List.range p).flatMap (pt t (Dk t)))) (x:=⟨1,(qD t:Int)+(p:Int),0,Kv t p el⟩) (B:=R++sE t) (by unfold qC;rw[show zD t=_ from hR];unfold Dk;simp only[nT,D3,pO]);rw[Lx rfl]at h2;refine⟨W,h1.mono (λy hy=>?_) (λy hy=>?_),h2⟩;unfold vs at *; simp only[gS,zQN]at *; grind;unfold vs at *; simp only[gS,iW,zQN,zQB,eE,or_false]at *; grind
theorem at6(S:ScanV t m I)(hr:t.Ab[i]?=some r):gV (mG t m I) ((bF t i:Int)+0)=(gV (mG t m I) (fT t i+0)||gV (mG t m I) (fT t i+4)):=by
 have hi:=gJ hr;obtain⟨R,hR⟩:=xU (Qa t) hi
 obtain⟨W,h1,h2,h3⟩:=Gm S (A:=qO t++uY t++rV t++vW t++zD t++((List.range i).flatMap (Qa t))) (x:=⟨1,(bF t i:Int)+0,0,Hl [Ih t i 0,Ih t i 4]⟩) (B:=R) (by
  unfold qC;rw[show sE t=_ from hR];unfold Qa
  simp only[nT,D3,pO])
 rw[Lx rfl]at h2;rw[h2,wR];simp only[pW,yO,wD,pB]
 rw[h1.new _ (by
  have:=Wr hr (k:=0) aB aB
  unfold vs at *; simp only[gS,zQN]at *; grind),h1.new _ (by
  have:=Jz hr hi
  unfold vW vs at *; simp only[gS,zQN]at *; grind)]
section eqs
variable (S:ScanV t m I){r:Aj}(hr:t.Ab[i]?=some r)
include S hr
theorem new_used:gV (mG t m I) ((bF t i:Int)+2)=gV (mG t m I) (fT t i+1):=by obtain⟨W,h1,h2⟩:=at3 S hr (P:=uZ t i r (bE t i)++[⟨1,(bF t i:Int)+1,0,uP t i r⟩]) (x:=⟨1,(bF t i:Int)+2,0,Ih t i 1⟩) (Q:=[⟨1,(bF t i:Int)+3,0,Ih t i 2⟩]) qEC rfl;rw[show(bF t i:Int)+2=(⟨1,(bF t i:Int)+2,0,Ih t i 1⟩:Ay).var from rfl,h2,pB];exact h1.new _ (by have:=Wr hr (k:=1) aB aB;simp only[zQN];grind)
theorem new_held:gV (mG t m I) ((bF t i:Int)+3)=gV (mG t m I) (fT t i+2):=by obtain⟨W,h1,h2⟩:=at3 S hr (P:=uZ t i r (bE t i)++[⟨1,(bF t i:Int)+1,0,uP t i r⟩,⟨1,(bF t i:Int)+2,0,Ih t i 1⟩]) (x:=⟨1,(bF t i:Int)+3,0,Ih t i 2⟩) (Q:=[]) qEC rfl;rw[show(bF t i:Int)+3=(⟨1,(bF t i:Int)+3,0,Ih t i 2⟩:Ay).var from rfl,h2,pB];exact h1.new _ (by have:=Wr hr (k:=2) aB aB;simp only[zQN];grind)
theorem rd_clear:∃W,Rd t m I W (vs (qO t)++vs (uY t)) ([(bF t i:Int)+1]++vs (sE t))/\gV (mG t m I) ((bF t i:Int)+1)=rS W (uP t i r):=by obtain⟨W,h1,h2⟩:=at3 S hr (P:=uZ t i r (bE t i)) (x:=⟨1,(bF t i:Int)+1,0,uP t i r⟩) (Q:=[⟨1,(bF t i:Int)+2,0,Ih t i 1⟩,⟨1,(bF t i:Int)+3,0,Ih t i 2⟩]) qEC rfl;refine⟨W,h1.mono (λy hy=>?_) (λy hy=>?_),h2⟩;simp only[zQN]at *; grind;unfold vs at *; simp only[iW,zQN,zQB,eE,or_false]at *; grind
theorem rd_keep:∃W,Rd t m I W (vs (qO t)) (vs (rV t)++vs (sE t))/\gV (mG t m I) (fT t i+0)=rS W (Fs t i r):=by obtain⟨W,h1,h2⟩:=at2 S hr (P:=[]) (x:=⟨1,fT t i+0,0,Fs t i r⟩) (Q:=[⟨1,fT t i+1,0,Ws t i r⟩,⟨1,fT t i+2,0,Fw t i r⟩,⟨1,fT t i+3,0,Zh t i r⟩]) rfl rfl;exact⟨W,h1.mono (λy hy=>Bq) (λy hy=>Bq),h2⟩
theorem rd_use:∃W,Rd t m I W (vs (qO t)) (vs (rV t)++vs (sE t))/\gV (mG t m I) (fT t i+1)=rS W (Ws t i r):=by obtain⟨W,h1,h2⟩:=at2 S hr (P:=[⟨1,fT t i+0,0,Fs t i r⟩]) (x:=⟨1,fT t i+1,0,Ws t i r⟩) (Q:=[⟨1,fT t i+2,0,Fw t i r⟩,⟨1,fT t i+3,0,Zh t i r⟩]) rfl rfl;exact⟨W,h1.mono (λy hy=>Bq) (λy hy=>Bq),h2⟩
theorem rd_hold:∃W,Rd t m I W (vs (qO t)) (vs (rV t)++vs (sE t))/\gV (mG t m I) (fT t i+2)=rS W (Fw t i r):=by obtain⟨W,h1,h2⟩:=at2 S hr (P:=[⟨1,fT t i+0,0,Fs t i r⟩,⟨1,fT t i+1,0,Ws t i r⟩]) (x:=⟨1,fT t i+2,0,Fw t i r⟩) (Q:=[⟨1,fT t i+3,0,Zh t i r⟩]) rfl rfl;exact⟨W,h1.mono (λy hy=>Bq) (λy hy=>Bq),h2⟩
theorem rd_act:∃W,Rd t m I W (vs (qO t)++[fT t i+0,fT t i+1,fT t i+2]) (vs (rV t)++vs (sE t))/\gV (mG t m I) (fT t i+3)=rS W (Zh t i r):=by obtain⟨W,h1,h2⟩:=at2 S hr (P:=[⟨1,fT t i+0,0,Fs t i r⟩,⟨1,fT t i+1,0,Ws t i r⟩,⟨1,fT t i+2,0,Fw t i r⟩]) (x:=⟨1,fT t i+3,0,Zh t i r⟩) (Q:=[]) rfl rfl;exact⟨W,h1.mono (λy hy=>hy) (λy hy=>Bq),h2⟩
end eqs
theorem act_cnt{r:Ay}{v:Bool}{c:Int}(h:qMJ r c=true):qMJ r (Dz r v c).1=true:=by have h1:=of_decide_eq_true h;unfold Dz;split;split;split;exact decide_eq_true aB;exact h;exact decide_eq_true aB;exact h
theorem qUQ{p:Program}{m:Machine}(I:List Bool)(hf:gf p m=true)(hh:m.halted=false):gf p (yB p m I)=true/\(yB p m I).halted=false/\yB p m I=⟨yL (List.zip p.Ao m.counts) (inV p.inputs.toNat I m.vars),zw (List.zip p.Ao m.counts) (inV p.inputs.toNat I m.vars),false⟩:=by have hs:yB p m I=⟨yL (List.zip p.Ao m.counts) (inV p.inputs.toNat I m.vars),zw (List.zip p.Ao m.counts) (inV p.inputs.toNat I m.vars),false⟩:=(by unfold yB;rw[if_neg (by rw[hf,hh];simp)]);refine⟨?_,by rw[hs],hs⟩;rw[hs];unfold gf at hf⊢;simp only[pQ,decide_eq_true_eq]at hf;obtain⟨⟨hz,hvl,hcl⟩,hcnt⟩:=hf;obtain⟨hn1,hn2,hn3,hn4,hn5⟩:=zP hz;dsimp only;have hzl:(List.zip p.Ao m.counts).length=p.Ao.length:=qDU;rw[decide_eq_true ⟨hz,by rw[J5,Vl aB,hvl],by rw[Lj,hzl]⟩,pX,zQT];rw[zQT]at hcnt;intro x hx;obtain⟨k,hk⟩:=lO hx;obtain⟨r,c⟩:=x;rw[zal84q]at hk;obtain⟨hk1,hk2⟩:=hk;dsimp only at hk1 hk2⊢;unfold zw at hk2;rw[bd]at hk2;cases hz2:(List.zip p.Ao m.counts)[k]? with|none=>rw[hz2]at hk2;cases hk2|some y=>rw[hz2]at hk2;obtain⟨r',c'⟩:=y;have hm:=hcnt _ (kK hz2);rw[zal84q]at hz2;have:r'=r:=(by have:=hz2.1;dsimp only at this;rw[hk1]at this;exact(bO this).symm);subst this;simp only[jB,jA]at hk2;subst hk2;exact act_cnt hm
theorem qIV{p:Program}(h:bz p=0):gf p (fi p)=true/\(fi p).halted=false:=by unfold fi;rw[if_pos h];refine⟨?_,rfl⟩;unfold gf;dsimp only;rw[decide_eq_true ⟨h,aN,aN⟩,pX,zQT];intro x hx;obtain⟨r,c⟩:=x;have h1:=wv hx;have h2:=List.eq_of_mem_replicate h1.2;subst h2;obtain⟨_,_,_,h4,_⟩:=zP h;have h5:=h4 r h1.1;unfold eh at h5;simp only[pQ,lP,decide_eq_true_eq]at h5;dsimp only;unfold qMJ;exact decide_eq_true aB
variable {t:Ah}{i:Nat}{m:Machine}{I:List Bool}
structure MOkQ (t:Ah) (m:Machine):Prop where
 fits:gf (qz t) m=true
 run:m.halted=false
theorem MOkQ.lens(hC:COk t)(h:MOkQ t m):m.vars.length=gQ t/\m.counts.length=gQ t-qD t:=by have hf:=h.fits;unfold gf at hf;simp only[pQ,decide_eq_true_eq]at hf;rw[va hC]at hf;rw[y6 hC]at hf;exact⟨hf.1.2.1,hf.1.2.2⟩
theorem MOkQ.scanV(hC:COk t)(ht:WfB t)(ha:gQ t<=2000)(h:MOkQ t m)(I:List Bool):ScanV t m I:=⟨hC,ht,ha,(h.lens hC).1,(h.lens hC).2⟩
theorem MOkQ.fitsN(hC:COk t)(ha:gQ t<=2000)(h:MOkQ t m):fitsN t m=true:=decide_eq_true ⟨ha,h.lens hC⟩
theorem MOkQ.scan(hC:COk t)(h:MOkQ t m)(I:List Bool):MOkQ t (yB (qz t) m I)/\yB (qz t) m I=⟨mG t m I,Z7 t m I,false⟩:=by have:=qUQ I h.fits h.run;exact⟨⟨this.1,this.2.1⟩,this.2.2⟩
theorem qUJ(hC:COk t)(ht:WfB t)(ha:gQ t<=2000):MOkQ t (fi (qz t)):=by have:=qIV (qBC hC ht ha);exact⟨this.1,this.2⟩
theorem prg_scan(hC:COk t)(ht:WfB t)(ha:gQ t<=2000)(m:Machine)(I:List Bool)(hv:m.vars.length<=1000000000)(hc:m.counts.length<=1000000000):q0 (qz t) m I=some (yB (qz t) m I):=pScan_eq (prg_ok hC ht ha) m I (λr hr=>by have:=(W5 hC ht r hr).2;unfold oM;omega) hv hc
def Hp(t:Ah)(l:List Au):Machine:=l.foldl (λm p=>yB (qz t) m (cF t p)) (fi (qz t))
theorem qVY(l:List Au){p:Au}(h:l[k]?=some p):Hp t (l.take (k+1))=yB (qz t) (Hp t (l.take k)) (cF t p):=by unfold Hp;rw[iQ,h,xz];rfl
section blind
variable (S:ScanV t m []){r:Aj}(hr:t.Ab[i]?=some r)
include S
theorem blind{y:Nat}(hy:y<qD t):gV (Hm t m []) (y:Int)=false:=by rw[qFW S hy];rfl
include hr
end blind
variable {t:Ah}{i:Nat}{m:Machine}{I:List Bool}{p:Au}{s:Av}
theorem Ld{α:Type}{f:Nat->List α}{c:Nat}(h:∀i,(f i).length=c){i k:Nat}(hk:k<c):∀{n:Nat},i<n->((List.range n).flatMap f)[c*i+k]?=(f i)[k]?
 |0,hi=>aB
 |n+1,hi=>by
  rw[nO];have hl:=eJ h n;by_cases he:i=n;subst he;rw[xy aB,hl]
  congr 1
  omega
  have hlt:c*i+k<c*n:=by
   have:c*(i+1)<=c*n:=gm (oA _) aB;rw[Bh]at this;omega
  rw[Bb aB];exact Ld h hk aB
theorem qLH(l:List Bool)(k:Nat):qSW l k false=!mL l (k:Int):=by unfold qSW mL;rw[mF];by_cases h:k<l.length;rw[mF,show((k:Int)).toNat=k by omega,iG h,fx,iG h];cases l[k]<;>simp;rw[iL,zLn];rfl
theorem qPV(p:Au)(k:Nat):qSW p.claimed k false=!jO p k:=by unfold qSW jO;by_cases h:k<p.claimed.length;have hd:decide (p.claimed.length<=k)=false:=decide_eq_false aB;rw[hd,iG h,fx,iG h];cases p.claimed[k]<;>simp;have hd:decide (p.claimed.length<=k)=true:=decide_eq_true aB;rw[hd,zLn];rfl
theorem qWL(p:Au)(k:Nat):qSW p.passed k true=uL p k:=by unfold qSW uL;by_cases h:k<p.passed.length;have hd:decide (k<p.passed.length)=true:=decide_eq_true h;rw[hd,iG h,fx,iG h];cases p.passed[k]<;>simp;have hd:decide (k<p.passed.length)=false:=decide_eq_false h;rw[hd,zLn];rfl
theorem xS(_:COk t){V:List Bool}(hV:∀y:Nat,y<qD t->gV V (y:Int)=(cF t p).getD y false){x:Int}(h0:0<=x)(h1:x<t.Aa):gV V (2*x)=!iX p x/\gV V (2*x+1)=!mL p.closed x:=by have hin:qD t=2*t.Aa.toNat+2*t.Af.length+4*t.Ab.length:=rfl;obtain⟨k,rfl⟩:=yQ h0;have hk:k<t.Aa.toNat:=aB;have hl:=eJ (f:=inS p) (c:=2) (λ_=>rfl) t.Aa.toNat;have g (j:Nat) (hj:j<2):(cF t p)[2*k+j]?=(inS p k)[j]?:=(by unfold cF;rw[nT,Bb aB,Ld (f:=inS p) (λ_=>rfl) hj hk]);constructor;rw[show(2:Int)*(k:Int)=((2*k+0:Nat):Int) by omega,hV _ aB,fx,g 0 aB];show qSW p.occupied k false=_;exact qLH _ _;rw[show(2:Int)*(k:Int)+1=((2*k+1:Nat):Int) by omega,hV _ aB,fx,g 1 aB];show qSW p.closed k false=_;exact qLH _ _
section ins
variable (hC:COk t){V:List Bool}(hV:∀y:Nat,y<qD t->gV V (y:Int)=(cF t p).getD y false)
include hC hV
theorem in_pnt{r:Aj}(hr:r∈t.Ab){x:Ac}(hx:x∈gE (cV r)):gV V (2*t.Aa+2*zS t x.el+if x.pos=2 then 1 else 0)=xr t p x:=by have hin:qD t=2*t.Aa.toNat+2*t.Af.length+4*t.Ab.length:=rfl;have hlm:=hC.lim;have hs:=hC.set_in hr hx;obtain⟨k,hk1,hk2,_⟩:=hC.home hr hx;have hl:=eJ (f:=inS p) (c:=2) (λ_=>rfl) t.Aa.toNat;have hl2:=eJ (f:=inP p) (c:=2) (λ_=>rfl) t.Af.length;have g (j:Nat) (hj:j<2):(cF t p)[2*t.Aa.toNat+(2*k+j)]?=(inP p k)[j]?:=(by unfold cF;rw[nT,xy aB,hl,Bb aB,show 2*t.Aa.toNat+(2*k+j)-2*t.Aa.toNat=2*k+j by omega,Ld (f:=inP p) (λ_=>rfl) hj hk2]);have hpl:bI t x.el=k:=(by unfold bI;have:kA (cL t.Af x.el)=(k:Int):=hk1;cases e:cL t.Af x.el with|none=>rw[e]at this;simp only[kA]at this;omega|some q=>rw[e]at this;simp only[kA]at this;simp only[sK];omega);unfold xr;rw[hpl,hk1];by_cases h2:x.pos=2;rw[if_pos h2,show 2*t.Aa+2*(k:Int)+1=((2*t.Aa.toNat+(2*k+1):Nat):Int) by omega,hV _ aB,fx,g 1 aB,h2];rfl;rw[if_neg h2,show 2*t.Aa+2*(k:Int)+0=((2*t.Aa.toNat+(2*k+0):Nat):Int) by omega,hV _ aB,fx,g 0 aB,show x.pos=1 by omega];rfl
theorem fm(hi:i<t.Ab.length):gV V (yM t i+0)=!jO p i/\gV V (yM t i+1)=uL p i/\gV V (yM t i+2)=decide ((i:Int)∈p.calls)/\gV V (yM t i+3)=vT p i:=by have hin:qD t=2*t.Aa.toNat+2*t.Af.length+4*t.Ab.length:=rfl;have hlm:=hC.lim;have hl:=eJ (f:=inS p) (c:=2) (λ_=>rfl) t.Aa.toNat;have hl2:=eJ (f:=inP p) (c:=2) (λ_=>rfl) t.Af.length;have hl3:=eJ (f:=inR p) (c:=4) (λ_=>rfl) t.Ab.length;have g (j:Nat) (hj:j<4):gV V (yM t i+(j:Int))=((inR p i)[j]?).getD false:=(by rw[show yM t i+(j:Int)=((2*t.Aa.toNat+2*t.Af.length+(4*i+j):Nat):Int) by unfold yM;omega,hV _ aB,fx];unfold cF;rw[xy pF,xK,hl,hl2,show 2*t.Aa.toNat+2*t.Af.length+(4*i+j)-(2*t.Aa.toNat+2*t.Af.length)=4*i+j by omega,Ld (f:=inR p) (λ_=>rfl) hj hi]);refine⟨(g 0 aB).trans (qPV p i),(g 1 aB).trans (qWL p i),g 2 aB,g 3 aB⟩
end ins
structure Rep (t:Ah) (m:Machine) (s:Av):Prop where
 ok:MOkQ t m
 sound:lS t s=true
 bit:∀i,i<t.Ab.length->∀k:Nat,k<4->vb m (bF t i+k)=decide ((fF s i).state=(k:Int)+1)
 rel:∀i,i<t.Ab.length->∀k:Nat,k<bE t i->vb m (bF t i+4+k)=decide ((k:Int)<(fF s i).rel)
 cnt4:∀i,i<t.Ab.length->(fF s i).state=4->cn m (2*i)=(fF s i).timer
 cnt3:∀i,i<t.Ab.length->(fF s i).state=3->cn m (2*i+1)=(fF s i).timer
 lie:∀k,k<t.Af.length->vb m (qD t+k)=decide (s.lies[k]?=some 2)
theorem vr{x:Ag}(h:dA x (n:Int)=true)(hn:0<n):(x.state=0\/x.state=1\/x.state=2\/x.state=3\/x.state=4)/\0<=x.rel/\x.rel<(n:Int)/\(x.state<3->x.rel=0/\x.timer=0)/\(x.state=3->0<=x.timer/\x.timer<4)/\(x.state=4->0<=x.timer/\x.timer<12):=by unfold dA at h;split at h;have:=of_decide_eq_true h;omega;split at h;have:=of_decide_eq_true h;omega;split at h;have:=of_decide_eq_true h;omega;cases h
theorem qVD(hC:COk t)(ha:gQ t<=2000)(h:Rep t m s):qHN t m=qEQ t s:=by have hfit:=h.ok.fitsN hC ha;have hf:=fD h.sound;unfold qHN qEQ ee;rw[if_pos ⟨hfit,h.ok.run⟩];unfold xW;congr 1;funext g;apply zal18q.2;rw[zQU,zQU];constructor;rintro⟨k,hk,hb⟩;have hk':=zal120q.1 hk;have H:=iN hf hk';refine⟨k,hk,?_⟩;have b1:=h.bit k hk' 1 aB;rw[b1,H.r]at hb;simp only[jB,pQ,decide_eq_true_eq,jA]at hb⊢;exact⟨aB,hb.2⟩;rintro⟨k,hk,hb⟩;have hk':=zal120q.1 hk;have H:=iN hf hk';refine⟨k,hk,?_⟩;have b1:=h.bit k hk' 1 aB;rw[b1,H.r];simp only[jB,pQ,decide_eq_true_eq,jA]at hb⊢;exact⟨aB,hb.2⟩
theorem qVE(hC:COk t)(ht:WfB t)(ha:gQ t<=2000):Rep t (fi (qz t)) (B7 t):=by have hsv:=qOG hC ht ha;have hst:B7 t=⟨List.replicate t.Ab.length idleX,List.replicate t.Af.length 1⟩:=(by unfold B7;rw[if_pos hC.chk]);have hx:∀i,i<t.Ab.length->fF (B7 t) i=idleX:=λi hi=>(by unfold fF;rw[hst,bc,if_pos hi];rfl);refine⟨qUJ hC ht ha,qIU hC.chk,λi hi k hk=>?_,λi hi k hk=>?_,λi hi h=>?_,λi hi h=>?_,λk hk=>?_⟩;rw[hsv,Wm,hx i hi,decide_eq_false (by show ¬(0:Int)=(k:Int)+1;omega)];rw[hsv,Wm,hx i hi,decide_eq_false (by show ¬(k:Int)<0;omega)];rw[hx i hi]at h;exact absurd h aP;rw[hx i hi]at h;exact absurd h aP;rw[hsv,Wm,hst,decide_eq_false];rw[bc,if_pos hk];simp
variable {t:Ah}{i:Nat}{m:Machine}{I:List Bool}{p:Au}{s:Av}{W:List Bool}
theorem qQW{P:β->Bool}{l:List α}:(l.mapIdx f).all P=true↔∀k e,l[k]?=some e->P (f k e)=true:=by rw[zQT];constructor;intro h k e he;exact h _ (kK (i:=k) (by rw[bd,he];rfl));intro h x hx;obtain⟨k,hk⟩:=lO hx;rw[bd]at hk;cases he:l[k]? with|none=>rw[he]at hk;cases hk|some e=>rw[he]at hk;cases hk;exact h k e he
theorem qQV{P:β->Bool}{l:List α}:(l.mapIdx f).any P=true↔∃k e,l[k]?=some e/\P (f k e)=true:=by rw[zQU];constructor;rintro⟨x,hx,hp⟩;obtain⟨k,hk⟩:=lO hx;rw[bd]at hk;(cases he:l[k]? with|none=>rw[he]at hk;cases hk|some e=>rw[he]at hk;cases hk;exact⟨k,e,he,hp⟩);rintro⟨k,e,he,hp⟩;exact⟨_,kK (i:=k) (by rw[bd,he];rfl),hp⟩
theorem qBP{α:Type}(f:Nat->α){i:Nat}:∀{n:Nat},i<n->∃R,(List.range n).map f=(List.range i).map f++(f i::R)
 |0,h=>aB
 |n+1,h=>by
  by_cases he:i=n;subst he;exact⟨[],by rw[Ko]⟩;obtain ⟨R, hR⟩ := qBP f (n := n) (i := i) aB;exact⟨R++[f n],by rw[Ko,hR];simp only[nT,D3]⟩
structure Env (t:Ah) (p:Au) (x:Ag) (i:Nat) (W:List Bool):Prop where
 inp:∀y:Nat,y<qD t->gV W (y:Int)=(cF t p).getD y false
 st0:gV W ((bF t i:Int)+0)=decide (x.state=1)
 st1:gV W ((bF t i:Int)+1)=decide (x.state=2)
 st2:gV W ((bF t i:Int)+2)=decide (x.state=3)
 st3:gV W ((bF t i:Int)+3)=decide (x.state=4)
 rel:∀k:Nat,k<bE t i->gV W ((bF t i:Int)+(4+(k:Int)))=decide ((k:Int)<x.rel)
theorem qFX(S:ScanV t m (cF t p))(R:Rep t m s)(hi:i<t.Ab.length):Env t p (fF s i) i (Hm t m (cF t p)):=by have hr:=iG hi;have hb:=(qNW S.hC hi (k:=0) aB aB).1;refine⟨λy hy=>qFW S hy,?_,?_,?_,?_,λk hk=>?_⟩;rw[show(bF t i:Int)+0=((bF t i+0:Nat):Int) by omega,Cn S aB,R.bit i hi 0 aB];rfl;rw[show(bF t i:Int)+1=((bF t i+1:Nat):Int) by omega,Cn S aB,R.bit i hi 1 aB];rfl;rw[show(bF t i:Int)+2=((bF t i+2:Nat):Int) by omega,Cn S aB,R.bit i hi 2 aB];rfl;rw[show(bF t i:Int)+3=((bF t i+3:Nat):Int) by omega,Cn S aB,R.bit i hi 3 aB];rfl;rw[show(bF t i:Int)+(4+(k:Int))=((bF t i+4+k:Nat):Int) by omega,Cn S aB,R.rel i hi k hk]
theorem qFJ(S:ScanV t m (cF t p))(h:Rd t m (cF t p) W A B):∀y:Nat,y<qD t->gV W (y:Int)=(cF t p).getD y false:=λy hy=>by rw[h.inp _ aB];exact qFW S hy
theorem Mz(S:ScanV t m (cF t p))(R:Rep t m s)(hi:i<t.Ab.length)(h:Rd t m (cF t p) W A (vs (rV t)++vs (sE t))):Env t p (fF s i) i W:=by have hr:=iG hi;have E:=qFX S R hi;refine⟨qFJ S h,?_,?_,?_,?_,λk hk=>?_⟩;rw[h.old _ (vI _ (v_set hr))];exact E.st0;rw[h.old _ (kI _ (v_st hr aB aB))];exact E.st1;rw[h.old _ (kI _ (v_st hr aB aB))];exact E.st2;rw[h.old _ (kI _ (v_st hr aB aB))];exact E.st3;rw[h.old _ (kI _ (v_relQ hr hk))];exact E.rel k hk
theorem ev_at(_:COk t){x:Ag}(_:t.Ab[i]?=some r)(E:Env t p x i W)(h0:0<=x.rel)(h1:x.rel<=(bE t i:Int)):rS W (qXU t i)=decide (x.rel=(bE t i:Int)):=by unfold qXU;split;rw[pL];simp only[nU];rw[decide_eq_true aB];rename_i hne;rw[pB,show(bF t i:Int)+(4+((bE t i:Int)-1))=(bF t i:Int)+(4+((bE t i-1:Nat):Int)) by omega,E.rel _ aB,zal18q,decide_eq_true_eq,decide_eq_true_eq];omega
section evals
variable (hC:COk t){x:Ag}{r:Aj}(hr:t.Ab[i]?=some r)(E:Env t p x i W)(h0:0<=x.rel)(h1:x.rel<=(bE t i:Int))
include hC hr E h0 h1
theorem qHC:rS W (xq t i r)=!(r.Aa.drop x.rel.toNat).any (iX p):=by have hm:=kK hr;have hln:bE t i=r.Aa.length-1:=uA;have hsec:=hC.secs hm;unfold xq;rw[pL,zal18q,qQW,gH,zal44q];constructor;intro h n hn;obtain⟨k,hk⟩:=lO hn;rw[nC]at hk;have hx':=gJ hk;have hs:=hC.sec_in hm (kI _ (kK hk));have h2:=h _ n hk;have hf:=(xS hC E.inp hs.1 hs.2).1;split at h2;rename_i hl;rw[wR]at h2;simp only[pW,yO,wD,pB]at h2;rw[E.rel _ hl,hf,decide_eq_false aB,Bool.false_or]at h2;intro hc;rw[hc]at h2;cases h2;rw[pB,hf]at h2;intro hc;rw[hc]at h2;cases h2;intro h k n hk;have hx':=gJ hk;have hs:=hC.sec_in hm (kI _ (kK hk));have hf:=(xS hC E.inp hs.1 hs.2).1;have key:¬(k:Int)<x.rel->iX p n=false:=λhge=>(by have:=h n (kK (i:=k-x.rel.toNat) (by rw[nC,show x.rel.toNat+(k-x.rel.toNat)=k by omega];exact hk));simpa using this);split;rename_i hl;rw[wR];simp only[pW,yO,wD,pB];rw[E.rel k hl,hf];by_cases hlt:(k:Int)<x.rel;rw[decide_eq_true hlt,Bool.true_or];rw[key hlt];simp;rw[pB,hf,key aB];rfl
theorem ev_cur:rS W (qQI t i r)=!iX p (iI r x.rel):=by have hm:=kK hr;have hln:bE t i=r.Aa.length-1:=uA;have hsec:=hC.secs hm;have hat:r.Aa[x.rel.toNat]?=some (iI r x.rel):=(by unfold iI;rw[fx,Q8];rfl);have hsA:=hC.sec_in hm (kI _ (kK hat));have hfA:=(xS hC E.inp hsA.1 hsA.2).1;unfold qQI;rw[wR,zal18q,qQV];constructor;rintro⟨k,n,hk,hh⟩;have hx':=gJ hk;rw[pL,Bd,Bd]at hh;simp only[pQ]at hh;obtain⟨⟨g1,g2⟩,g3⟩:=hh;have hke:(k:Int)=x.rel:=(by have l1:(k:Int)<=x.rel:=(by by_cases hz:0<k;rw[if_pos hz]at g2;simp only[pC,nU,pD,pB]at g2;rw[show(bF t i:Int)+(4+((k:Int)-1))=(bF t i:Int)+(4+((k-1:Nat):Int)) by omega,E.rel _ aB]at g2;have:=of_decide_eq_true g2;omega;omega);have l2:x.rel<=(k:Int):=(by by_cases hz:k<bE t i;rw[if_pos hz]at g3;simp only[pC,nU,pD,qE,pB]at g3;rw[E.rel _ hz]at g3;simp only[gH,decide_eq_false_iff_not]at g3;omega;omega);omega);simp only[pC,nU,pD,pB]at g1;have:n=iI r x.rel:=(by rw[<- hke]at hat;rw[show((k:Int)).toNat=k by omega,hk]at hat;rw[<- hke];exact bO hat);rw[this,hfA]at g1;exact g1;intro hh;refine⟨x.rel.toNat,_,hat,?_⟩;rw[pL,Bd,Bd];simp only[pQ];refine⟨⟨?_,?_⟩,?_⟩;simp only[pC,nU,pD,pB];rw[hfA];exact hh;split;rename_i hz;simp only[pC,nU,pD,pB];rw[show(bF t i:Int)+(4+((x.rel.toNat:Int)-1))=(bF t i:Int)+(4+((x.rel.toNat-1:Nat):Int)) by omega,E.rel _ aB,decide_eq_true aB];rfl;split;rename_i hz;simp only[pC,nU,pD,qE,pB];rw[E.rel _ hz,decide_eq_false aB];rfl;rfl
end evals
theorem Lf(hC:COk t)(hV:∀y:Nat,y<qD t->gV W (y:Int)=(cF t p).getD y false)(hr:r∈t.Ab):rS W (xd t r)=pR t p r:=by unfold xd pR;rw[pL,Bd,Ma,Ma];congr 1;rw[zal18q,zQT,gH,zal44q];constructor;intro h n hn;have hs:=hC.sec_in hr hn;have h2:=h n hn;simp only[Function.comp,pB]at h2;rw[(xS hC hV hs.1 hs.2).1]at h2;intro hc;rw[hc]at h2;cases h2;intro h n hn;have hs:=hC.sec_in hr hn;have h2:=h n hn;simp only[Function.comp,pB];rw[(xS hC hV hs.1 hs.2).1];simpa using h2;rw[zal18q,zQT,zQT];constructor;intro h e he;have h2:=h e he;simp only[Function.comp]at h2;unfold qFN at h2;rw[pB,in_pnt hC hV hr he]at h2;exact h2;intro h e he;have h2:=h e he;simp only[Function.comp];unfold qFN;rw[pB,in_pnt hC hV hr he];exact h2
def Eg(v:Bool)(c n:Int):Int:=if v=true then(if c<n then c+1 else c)else 0
def xZ(v:Bool)(c n:Int):Bool:=v&&decide (Eg v c n=n)
theorem qCY(x v n:Int)(e:Ad)(b:Bool)(c:Int):Dz ⟨2,x,n,e⟩ b c=(Eg b c n,xZ b c n):=by unfold Dz Eg xZ Eg;dsimp only;rw[if_pos rfl];cases b with|false=>rfl|true=>rw[if_pos rfl,if_pos rfl];split<;>simp_all
section vals
variable (S:ScanV t m (cF t p))(R:Rep t m s){r:Aj}(hr:t.Ab[i]?=some r)
include S R hr
theorem bi:0<=(fF s i).rel/\(fF s i).rel<=(bE t i:Int)/\eZ t i=r:=by have hi:=gJ hr;have H:=iN (fD R.sound) hi;have hsec:=S.hC.secs H.mem;have F:=vr H.fits hsec.1;have hrr:eZ t i=r:=(by have:=H.r;rw[hr]at this;exact(bO this).symm);have hln:bE t i=r.Aa.length-1:=uA;rw[hrr]at F hsec;exact⟨F.2.1,aB,hrr⟩
theorem qKN:gV (mG t m (cF t p)) ((bF t i:Int)+(4+(bE t i:Int)))=xZ (decide ((fF s i).state=4)&&!jO p i&&!(r.Aa.drop (fF s i).rel.toNat).any (iX p)) (cn m (2*i)) 12/\(Z7 t m (cF t p))[2*i]?=some (Eg (decide ((fF s i).state=4)&&!jO p i&&!(r.Aa.drop (fF s i).rel.toNat).any (iX p)) (cn m (2*i)) 12)/\gV (mG t m (cF t p)) ((bF t i:Int)+(4+(bE t i:Int))+1)=xZ (decide ((fF s i).state=3)&&!jO p i&&decide ((fF s i).rel=(bE t i:Int))&&iX p (yH t i r)) (cn m (2*i+1)) 4/\(Z7 t m (cF t p))[2*i+1]?=some (Eg (decide ((fF s i).state=3)&&!jO p i&&decide ((fF s i).rel=(bE t i:Int))&&iX p (yH t i r)) (cn m (2*i+1)) 4):=by have hi:=gJ hr;obtain⟨h0,h1,_⟩:=bi S R hr;have hl:=Vf S.hC hr;obtain⟨W1,a1,a2,a3⟩:=at1 S hr (P:=[]) (x:=⟨2,(bF t i:Int)+(4+(bE t i:Int)),12,mZ [vE ((bF t i:Int)+3),vE (yM t i+0),xq t i r]⟩) (Q:=[⟨2,(bF t i:Int)+(4+(bE t i:Int))+1,4,mZ [vE ((bF t i:Int)+2),vE (yM t i+0),qXU t i,mS (nJ (yH t i r))]⟩]) rfl;obtain⟨W2,b1,b2,b3⟩:=at1 S hr (P:=[⟨2,(bF t i:Int)+(4+(bE t i:Int)),12,mZ [vE ((bF t i:Int)+3),vE (yM t i+0),xq t i r]⟩]) (x:=⟨2,(bF t i:Int)+(4+(bE t i:Int))+1,4,mZ [vE ((bF t i:Int)+2),vE (yM t i+0),qXU t i,mS (nJ (yH t i r))]⟩) (Q:=[]) rfl;have E1:=Mz S R hi (a1.mono (λy hy=>hy) (λy hy=>Bq));have E2:=Mz S R hi (b1.mono (λy hy=>hy) (λy hy=>Bq));have v1:rS W1 (mZ [vE ((bF t i:Int)+3),vE (yM t i+0),xq t i r])=(decide ((fF s i).state=4)&&!jO p i&&!(r.Aa.drop (fF s i).rel.toNat).any (iX p)):=(by rw[pL];simp only[pC,nU,pD,pB,E1.st3,(fm S.hC E1.inp hi).1,qHC S.hC hr E1 h0 h1,ez]);have v2:rS W2 (mZ [vE ((bF t i:Int)+2),vE (yM t i+0),qXU t i,mS (nJ (yH t i r))])=(decide ((fF s i).state=3)&&!jO p i&&decide ((fF s i).rel=(bE t i:Int))&&iX p (yH t i r)):=(by rw[pL];simp only[pC,nU,pD,qE,pB,E2.st2,(fm S.hC E2.inp hi).1,ev_at S.hC hr E2 h0 h1,(xS S.hC E2.inp hl.1 hl.2).1,ez,D5]);dsimp only at a2 a3 b2 b3;rw[qCY _ 0,v1]at a2 a3;rw[qCY _ 0,v2]at b2 b3;exact⟨a2,a3,b2,b3⟩
theorem n_keepV:gV (mG t m (cF t p)) (fT t i+0)=(decide ((fF s i).state=1)&&!vT p i&&!pR t p r):=by have hi:=gJ hr;obtain⟨W,a1,a2⟩:=rd_keep S hr;have E:=Mz S R hi a1;rw[a2];unfold Fs;rw[pL];simp only[pC,nU,pD,qE,pB,E.st0,(fm S.hC E.inp hi).2.2.2,Lf S.hC E.inp (kK hr),ez]
theorem Xx:gV (mG t m (cF t p)) ((bF t i:Int)+1)=((decide ((fF s i).state=1)||decide ((fF s i).state=2))&&!vT p i&&pR t p r):=by have hi:=gJ hr;obtain⟨W,a1,a2⟩:=rd_clear S hr;have E:=qFX S R hi;have hv:=qFJ S a1;have s0:gV W ((bF t i:Int)+0)=decide ((fF s i).state=1):=(by rw[a1.old _ (vI _ (v_set hr))];exact E.st0);have s1:gV W ((bF t i:Int)+1)=decide ((fF s i).state=2):=(by rw[a1.old _ (kI _ jI)];exact E.st1);rw[a2];unfold uP;rw[pL];simp only[pC,nU,pD,qE,wR,pW,yO,wD,pB,s0,s1,(fm S.hC hv hi).2.2.2,Lf S.hC hv (kK hr),ez]
theorem n_useV:gV (mG t m (cF t p)) (fT t i+1)=((decide ((fF s i).state=2)&&iX p (zM r))||(decide ((fF s i).state=3)&&(jO p i||(!(vT p i&&!(r.Aa.drop (fF s i).rel.toNat).any (iX p))&&!(decide ((fF s i).rel=(bE t i:Int))&&!iX p (yH t i r))&&!gV (mG t m (cF t p)) ((bF t i:Int)+(4+(bE t i:Int))+1))))||(decide ((fF s i).state=4)&&iX p (iI r (fF s i).rel))):=by have hi:=gJ hr;obtain⟨h0,h1,_⟩:=bi S R hr;have hl:=Vf S.hC hr;have hf:=Vg S.hC hr;obtain⟨W,a1,a2⟩:=rd_use S hr;have E:=Mz S R hi a1;rw[a2];unfold Ws qEN;rw[wR];simp only[pC,nU,pD,pL,qE,wR,pW,yO,wD,pB,E.st1,E.st2,E.st3,(fm S.hC E.inp hi).2.2.2,(fm S.hC E.inp hi).1,qHC S.hC hr E h0 h1,ev_at S.hC hr E h0 h1,ev_cur S.hC hr E h0 h1,(xS S.hC E.inp hl.1 hl.2).1,(xS S.hC E.inp hf.1 hf.2).1,a1.new _ (v_stand hr),ez,Bool.or_assoc,D5]
theorem n_holdV:gV (mG t m (cF t p)) (fT t i+2)=((decide ((fF s i).state=2)&&!iX p (zM r)&&!(vT p i&&!jO p i&&!iX p r.A1)&&(vT p i||!pR t p r))||(decide ((fF s i).state=3)&&!jO p i&&vT p i&&!(r.Aa.drop (fF s i).rel.toNat).any (iX p))||(decide ((fF s i).state=4)&&!iX p (iI r (fF s i).rel)&&!gV (mG t m (cF t p)) ((bF t i:Int)+(4+(bE t i:Int))))):=by have hi:=gJ hr;have hm:=kK hr;obtain⟨h0,h1,_⟩:=bi S R hr;have hf:=Vg S.hC hr;have ha:=S.hC.appr hm;obtain⟨W,a1,a2⟩:=rd_hold S hr;have E:=Mz S R hi a1;rw[a2];unfold Fw waitE;rw[wR];simp only[pC,nU,pD,pL,qE,wR,pW,yO,wD,pB,E.st1,E.st2,E.st3,(fm S.hC E.inp hi).2.2.2,(fm S.hC E.inp hi).1,qHC S.hC hr E h0 h1,ev_cur S.hC hr E h0 h1,Lf S.hC E.inp hm,(xS S.hC E.inp ha.1 ha.2).1,(xS S.hC E.inp hf.1 hf.2).1,a1.new _ (v_wait hr),ez,Bool.or_assoc,D5]
theorem n_actV:gV (mG t m (cF t p)) (fT t i+3)=(gV (mG t m (cF t p)) (fT t i+0)||gV (mG t m (cF t p)) ((bF t i:Int)+1)||gV (mG t m (cF t p)) (fT t i+1)||gV (mG t m (cF t p)) (fT t i+2)):=by have hi:=gJ hr;obtain⟨W,a1,a2⟩:=rd_act S hr;have E:=Mz S R hi a1;rw[a2,Xx S R hr];unfold Zh uP;rw[wR];simp only[pC,nU,pD,pL,qE,wR,pW,yO,wD,pB,E.st0,E.st1,(fm S.hC E.inp hi).2.2.2,Lf S.hC E.inp (kK hr),ez,Bool.or_assoc];rw[a1.new _ (vI _ aN),a1.new _ (vI _ aN),a1.new _ (vI _ aN)]
theorem n_relV{k:Nat}(hk:k<bE t i):gV (mG t m (cF t p)) ((bF t i:Int)+(4+(k:Int)))=((gV (mG t m (cF t p)) (fT t i+1)||gV (mG t m (cF t p)) (fT t i+2))&&(decide ((k:Int)<(fF s i).rel)||(decide ((fF s i).state=3)&&gV (mG t m (cF t p)) (fT t i+1)&&!jO p i&&!iX p (wl r k)&&(iX p (wl r (k+1))||uL p i)&&decide ((k:Int)<=(fF s i).rel)))):=by have hi:=gJ hr;have hm:=kK hr;obtain⟨h0,h1,_⟩:=bi S R hr;have hln:bE t i=r.Aa.length-1:=uA;have k1:=(xu S.hC hm (k:=k) aB).2;have k2:=(xu S.hC hm (k:=k+1) aB).2;obtain⟨j,hj⟩:∃j,j=bE t i-1-k:=⟨_,rfl⟩;have hkj:bE t i-1-j=k:=aB;obtain⟨Q0,hQ⟩:∃Q0,uZ t i r (bE t i)=uZ t i r j++(⟨1,(bF t i:Int)+(4+(k:Int)),0,Qc t i r k⟩::Q0):=(by obtain⟨Q0,hQ⟩:=qBP (λj=>(⟨1,(bF t i:Int)+(4+((bE t i-1-j:Nat):Int)),0,Qc t i r (bE t i-1-j)⟩:Ay)) (n:=bE t i) (i:=j) aB;refine⟨Q0,?_⟩;unfold uZ;rw[<- hkj];exact hQ);obtain⟨W,a1,a2⟩:=at3 S hr (P:=uZ t i r j) (x:=⟨1,(bF t i:Int)+(4+(k:Int)),0,Qc t i r k⟩) (Q:=Q0++[⟨1,(bF t i:Int)+1,0,uP t i r⟩,⟨1,(bF t i:Int)+2,0,Ih t i 1⟩,⟨1,(bF t i:Int)+3,0,Ih t i 2⟩]) (by unfold pZ;rw[hQ];simp) rfl;have E:=qFX S R hi;have hv:=qFJ S a1;have n1:gV W (fT t i+1)=gV (mG t m (cF t p)) (fT t i+1):=a1.new _ (by have:=Wr hr (k:=1) aB aB;simp only[zQN];grind);have n2:gV W (fT t i+2)=gV (mG t m (cF t p)) (fT t i+2):=a1.new _ (by have:=Wr hr (k:=2) aB aB;simp only[zQN];grind);have s2:gV W ((bF t i:Int)+2)=decide ((fF s i).state=3):=(by rw[a1.old _ aN];exact E.st2);have rk:gV W ((bF t i:Int)+(4+(k:Int)))=decide ((k:Int)<(fF s i).rel):=(by rw[a1.old _ aN];exact E.rel k hk);have rk1:0<k->gV W ((bF t i:Int)+(4+((k:Int)-1)))=decide ((k:Int)<=(fF s i).rel):=λhpos=>(by have hx:(bF t i:Int)+(4+((k:Int)-1))=(bF t i:Int)+(4+((k-1:Nat):Int)):=aB;rw[a1.old _ ?_,hx,E.rel (k-1) aB,zal18q,decide_eq_true_eq,decide_eq_true_eq];omega;have hmem:(bF t i:Int)+(4+((k:Int)-1))∈vs (uZ t i r (bE t i)):=(by rw[hx];refine zal115q.2 ⟨⟨1,(bF t i:Int)+(4+((bE t i-1-(bE t i-1-(k-1)):Nat):Int)),0,Qc t i r _⟩,rel_mem.2 ⟨bE t i-1-(k-1),aB,rfl⟩,?_⟩;dsimp only;omega);rw[hQ]at hmem;unfold vs at hmem⊢;rw[gS,zQN]at hmem;rcases hmem with hmem|hmem;obtain⟨z,hz,hze⟩:=zal115q.1 hmem;obtain⟨j',hj',rfl⟩:=rel_mem.1 hz;dsimp only at hze;omega;simp only[iW,gS,zQN,zQB]at hmem⊢;grind);dsimp only at a2;rw[a2];unfold Qc;rw[pL];simp only[pC,nU,pD,pL,qE,wR,pW,yO,wD,pB,Bd,n1,n2,s2,rk,(fm S.hC hv hi).1,(fm S.hC hv hi).2.1,(xS S.hC hv k1.1 k1.2).1,(xS S.hC hv k2.1 k2.2).1,D5];have e1:(if 0<k then[xQ t i ((k:Int)-1)]else[]).all (rS W)=decide ((k:Int)<=(fF s i).rel):=(by by_cases hpos:0<k;rw[if_pos hpos];simp only[pC,nU,pD,pB];exact rk1 hpos;rw[if_neg hpos,nU,decide_eq_true aB]);rw[e1];simp only[ez]
end vals
theorem qGG(k:Nat):decide ((k:Int)<0)=false:=decide_eq_false aB
section pure
variable {r:Aj}{p:Au}{c q l mm v:Bool}{last:Nat}{rel tim wc sc:Int}
theorem match0{x:Ag}(h0:x.state=0):vA r p c q l mm v x=idleX:=qSO aB aB aB aB
structure Match (r:Aj) (p:Au) (c q l mm v:Bool) (last:Nat) (wc sc:Int) (x y:Ag) (keep clr use hold:Bool):Prop where
 hkeep:keep=decide (y.state=1)
 hclr:clr=decide (y.state=2)
 huse:use=decide (y.state=3)
 hhold:hold=decide (y.state=4)
 hwc:y.state=4->Eg (decide (x.state=4)&&!c&&mm) wc 12=y.timer
 hsc:y.state=3->Eg (decide (x.state=3)&&!c&&decide (x.rel=(last:Int))&&iX p (iI r (last:Int))) sc 4=y.timer
 hrel:∀k:Nat,k<last->((use||hold)&&(decide ((k:Int)<x.rel)||(decide (x.state=3)&&use&&!c&&!iX p (iI r (k:Int))&&(iX p (iI r ((k:Int)+1))||q)&&decide ((k:Int)<=x.rel))))=decide ((k:Int)<y.rel)
theorem match_1{l v:Bool}(hvf:v=true->iX p (iI r 0)=false):Match r p c q l mm v last wc sc ⟨1,0,0⟩ (vA r p c q l mm v ⟨1,0,0⟩) (!l&&!v) (!l&&v) false false:=by rw[Ve rfl];cases l<;>cases v<;>refine⟨aP,aP,aP,aP,λh=>absurd h aP,λh=>absurd h aP,λk hk=>?_⟩<;>simp[idleX,qGG]<;>omega
theorem match_2{l v:Bool}(hvf:v=true->iX p (iI r 0)=false):Match r p c q l mm v last wc sc ⟨2,0,0⟩ (vA r p c q l mm v ⟨2,0,0⟩) false (!l&&v) (iX p (iI r 0)) (!iX p (iI r 0)&&!(l&&!c&&!iX p r.A1)&&(l||!v)):=by rw[qGF rfl];generalize iX p (iI r 0)=o at hvf;generalize iX p r.A1=a;cases o with|true=>have hv:v=false:=(by cases v;rfl;exact absurd (hvf rfl) aN);subst hv;rw[if_pos rfl];refine⟨aN,aN,aN,aN,λh=>absurd h aN,λ_=>rfl,λk hk=>?_⟩;simp|false=>rw[Dr];cases l<;>cases v<;>cases c<;>cases a<;>refine⟨aP,aP,aP,aP,λh=>?_,λh=>absurd h pE,λk hk=>?_⟩<;>first|rfl|(exact absurd h aN)|(simp[idleX];omega)|simp[idleX]
theorem match_4(hr0:0<=rel)(hr1:rel<=(last:Int))(ht:0<=tim/\tim<12)(hw:wc=tim):Match r p c q l mm v last wc sc ⟨4,rel,tim⟩ (vA r p c q l mm v ⟨4,rel,tim⟩) false false (iX p (iI r rel)) (!iX p (iI r rel)&&!xZ (true&&!c&&mm) wc 12):=by rw[qSM rfl];subst hw;dsimp only;generalize iX p (iI r rel)=o;cases o with|true=>rw[if_pos rfl];exact⟨aN,aN,aN,aN,λh=>absurd h aN,λ_=>by simp[Eg],λk hk=>aN⟩|false=>rw[Dr];by_cases hcm:(c||!mm)=true;rw[if_pos hcm];have hz:(true&&!c&&mm)=false:=(by revert hcm;cases c<;>cases mm<;>simp);rw[hz];refine⟨aN,aN,aN,by simp[xZ],λ_=>?_,λh=>absurd h aN,λk hk=>by simp[xZ]⟩;rw[show(decide ((4:Int)=4)&&!c&&mm)=(true&&!c&&mm)from by simp,hz];rfl;rw[if_neg hcm];have hz:(true&&!c&&mm)=true:=(by revert hcm;cases c<;>cases mm<;>simp);rw[hz];have ht1:Eg true wc 12=wc+1:=(by unfold Eg;rw[if_pos rfl,iL]);by_cases h12:wc+1=12;rw[if_pos h12];have hv:xZ true wc 12=true:=(by unfold xZ;rw[ht1,decide_eq_true h12];rfl);rw[hv];exact⟨pE,pE,pE,pE,λh=>absurd h pE,λh=>absurd h pE,λk hk=>qNP⟩;rw[if_neg h12];have hv:xZ true wc 12=false:=(by unfold xZ;rw[ht1,decide_eq_false h12];rfl);rw[hv];refine⟨aN,aN,aN,aN,λ_=>?_,λh=>absurd h aN,λk hk=>aN⟩;rw[show(decide ((4:Int)=4)&&!c&&mm)=(true&&!c&&mm)from by simp,hz,ht1]
theorem match_3(hr0:0<=rel)(hr1:rel<=(last:Int))(hlen:r.Aa.length=last+1)(ht:0<=tim/\tim<4)(hs:sc=tim):Match r p c q l mm v last wc sc ⟨3,rel,tim⟩ (vA r p c q l mm v ⟨3,rel,tim⟩) false false
  (c||(!(l&&mm)&&!(decide (rel=(last:Int))&&!iX p (iI r (last:Int)))&&!xZ (true&&!c&&decide (rel=(last:Int))&&iX p (iI r (last:Int))) sc 4)) (!c&&l&&mm):=by
 rw[qSN rfl];subst hs;dsimp only;rw[show(r.Aa.length:Int)-1=(last:Int) by omega]
 cases c with
 |true=>
  rw[if_pos rfl];exact⟨aN,aN,aN,aN,λh=>absurd h aN,λ_=>by simp[Eg],λk hk=>aN⟩
 |false=>
  rw[if_neg fS]
  cases hlm:(l&&mm)with
  |true=>
   rw[if_pos rfl];refine⟨aN,aN,aN,?_,λ_=>by simp[Eg],λh=>absurd h aN,λk hk=>by simp[ez,hlm]⟩;simp[ez,hlm]
  |false=>
   rw[if_neg fS];have hh:(!false&&l&&mm)=false:=by simp[ez,hlm]
   rw[hh];by_cases hl:rel=(last:Int)
   -- at the last
   rw[decide_eq_true hl];have hsr:iI r rel=iI r (last:Int):=by rw[hl]
   rw[hsr]
   cases ho:iX p (iI r (last:Int))with
   |false=>
    rw[sJ,if_pos rfl,if_pos hl];exact⟨pE,pE,pE,pE,λh=>absurd h pE,λh=>absurd h pE,λk hk=>qNP⟩
   |true=>
    rw[tX,if_neg fS,mF];have ht1:Eg true sc 4=sc+1:=by unfold Eg;rw[if_pos rfl,iL]
    by_cases h4:sc+1=4;rw[if_pos h4]
    have hv:xZ (true&&!false&&true&&true) sc 4=true:=by
     show xZ true sc 4=true;unfold xZ;rw[ht1,decide_eq_true h4];rfl
    rw[hv];exact⟨pE,pE,pE,pE,λh=>absurd h pE,λh=>absurd h pE,λk hk=>qNP⟩;rw[if_neg h4]
    have hv:xZ (true&&!false&&true&&true) sc 4=false:=by
     show xZ true sc 4=false;unfold xZ;rw[ht1,decide_eq_false h4];rfl
    rw[hv];refine⟨aN,aN,aN,aN,λh=>absurd h aN,λ_=>?_,λk hk=>?_⟩;dsimp only;rw[hl,ho];simpa using ht1;have : (k : Int) < rel := aB
    simp[this]
   rw[decide_eq_false hl];have hv:xZ (true&&!false&&false&&iX p (iI r (last:Int))) sc 4=false:=by simp[xZ]
   rw[hv];have hstale:Eg (decide ((3:Int)=3)&&!false&&decide (rel=(last:Int))&&iX p (iI r (last:Int))) sc 4=0:=by rw[decide_eq_false hl];simp[Eg]
   cases ho:iX p (iI r rel)with
   |true=>
    rw[tX,if_neg fS,iL];refine⟨aN,aN,aN,aN,λh=>absurd h aN,λ_=>hstale,λk hk=>?_⟩;by_cases hkr:(k:Int)=rel;rw[hkr,ho];simp;by_cases h1:(k:Int)<rel
    ·simp[h1]
    have h2 : ¬ (k : Int) <= rel := aB
    simp[h1,h2]
   |false=>
    rw[sJ,if_pos rfl,if_neg hl];by_cases hq:(q||iX p (iI r (rel+1)))=true;rw[if_pos hq];refine⟨aN,aN,aN,aN,λh=>absurd h aN,λ_=>hstale,λk hk=>?_⟩;by_cases hkr:(k:Int)=rel;have h3 : (iX p (iI r (rel + 1)) || q) = true := by rw [Bool.or_comm]; exact hq
    rw[hkr,ho];simp only[h3];simp;omega;by_cases h1:(k:Int)<rel
    ·have h4 : (k : Int) < rel + 1 := aB
     simp[h1,h4]
    have h2 : ¬ (k : Int) <= rel := aB
    have h4:¬(k:Int)<rel+1:=aB
    simp[h1,h2,h4];rw[if_neg hq];refine⟨aN,aN,aN,aN,λh=>absurd h aN,λ_=>hstale,λk hk=>?_⟩;by_cases hkr:(k:Int)=rel;have h3 : (iX p (iI r (rel + 1)) || q) = false := by rw [Bool.or_comm]; simpa using hq
    rw[hkr];simp only[h3];simp;by_cases h1:(k:Int)<rel
    ·simp[h1]
    have h2 : ¬ (k : Int) <= rel := aB
    simp[h1,h2]
end pure
variable {t:Ah}{i:Nat}{m:Machine}{p:Au}{s:Av}
theorem qLG(t:Ah)(i:Nat)(r:Aj):yH t i r=iI r (bE t i:Int):=by unfold yH iI;rw[yP]
theorem qRX(r:Aj)(k:Nat):wl r k=iI r (k:Int):=by unfold wl iI;rw[yP]
theorem qCH(r:Aj):zM r=iI r 0:=rfl
section step
variable (S:ScanV t m (cF t p))(R:Rep t m s){r:Aj}(hr:t.Ab[i]?=some r)
include S R hr
theorem Ch:Match r p (jO p i) (uL p i) (vT p i) (tU t s p i) (pR t p r) (bE t i) (cn m (2*i)) (cn m (2*i+1)) (fF s i) (lK t s p i) (gV (mG t m (cF t p)) (fT t i+0)) (gV (mG t m (cF t p)) ((bF t i:Int)+1)) (gV (mG t m (cF t p)) (fT t i+1)) (gV (mG t m (cF t p)) (fT t i+2)):=by have hi:=gJ hr;obtain⟨h0,h1,hrr⟩:=bi S R hr;have hm:=kK hr;have H:=iN (fD R.sound) hi;have hsec:=S.hC.secs hm;have F:=vr H.fits (S.hC.secs H.mem).1;have hln:bE t i=r.Aa.length-1:=uA;have c4:=R.cnt4 i hi;have c3:=R.cnt3 i hi;have k1:=n_keepV S R hr;have k2:=Xx S R hr;have k3:=n_useV S R hr;have k4:=n_holdV S R hr;have kt:=qKN S R hr;have hpath:jE t s i=if(fF s i).state=0 then[]else r.Aa.drop (fF s i).rel.toNat:=(by unfold jE pJ;rw[hrr]);have hvf:pR t p r=true->iX p (iI r 0)=false:=λh=>(by unfold pR at h;rw[pQ,gH,zal44q]at h;have h2:=h.1 (iI r 0) (kI _ (by rw[<- qCH];exact kK (Yi S.hC hm).1));simpa using h2);rw[kt.2.2.1]at k3;rw[kt.1]at k4;rw[qLG]at k3;rw[qCH]at k3 k4;unfold lK;rw[hrr];have hem:(fF s i).state≠0->tU t s p i=!(r.Aa.drop (fF s i).rel.toNat).any (iX p):=λh=>(by unfold tU;rw[hpath,if_neg h]);rw[k1,k2,k3,k4];generalize hE:tU t s p i=mm at hem;generalize fF s i=x at *;obtain⟨st,rel,tim⟩:=x;dsimp only at *;generalize pR t p r=v at *;generalize jO p i=c at *;generalize vT p i=l at *;generalize uL p i=q at *;generalize cn m (2*i)=wc at *;generalize cn m (2*i+1)=sc at *;generalize hD:(!(r.Aa.drop rel.toNat).any (iX p))=D at *;rcases F.1 with e|e|e|e|e<;>subst e;have hz:=F.2.2.2.1 aB;rw[hz.1,hz.2,match0 rfl];refine⟨pE,pE,pE,pE,λh=>absurd h aP,λh=>absurd h aP,λk hk=>?_⟩;rw[show decide ((k:Int)<idleX.rel)=false from qGG k];simp;have hz:=F.2.2.2.1 aB;rw[hz.1,hz.2];have h:=match_1 (r:=r) (p:=p) (c:=c) (q:=q) (mm:=mm) (last:=bE t i) (wc:=wc) (sc:=sc) (l:=l) (v:=v) hvf;simpa using h;have hz:=F.2.2.2.1 aB;rw[hz.1,hz.2];have h:=match_2 (r:=r) (p:=p) (c:=c) (q:=q) (mm:=mm) (last:=bE t i) (wc:=wc) (sc:=sc) (l:=l) (v:=v) hvf;simpa using h;have hz:=F.2.2.2.2.1 rfl;have h:=match_3 (r:=r) (p:=p) (c:=c) (q:=q) (l:=l) (mm:=mm) (v:=v) (last:=bE t i) (rel:=rel) (tim:=tim) (wc:=wc) (sc:=sc) h0 h1 aB hz (c3 rfl);rw[<- hem aP];simpa using h;have hz:=F.2.2.2.2.2 rfl;have h:=match_4 (r:=r) (p:=p) (c:=c) (q:=q) (l:=l) (mm:=mm) (v:=v) (last:=bE t i) (rel:=rel) (tim:=tim) (wc:=wc) (sc:=sc) h0 h1 hz (c4 rfl);rw[<- hem aP];simpa using h
theorem qJY:gV (mG t m (cF t p)) (fT t i+3)=!decide ((lK t s p i).state=0):=by have M:=Ch S R hr;have hi:=gJ hr;have H:=iN (fD (Ey (p:=p) R.sound)) hi;have hx:fF (eH t s p) i=lK t s p i:=qFL (by have:=(fitsB_iff.1 (fD R.sound)).2.1;omega);have hfit:=H.fits;rw[hx]at hfit;have F:=vr hfit (S.hC.secs H.mem).1;rw[n_actV S R hr,M.hkeep,M.hclr,M.huse,M.hhold];rcases F.1 with e|e|e|e|e<;>rw[e]<;>simp
theorem qJX{k:Nat}(hk:k<bE t i):gV (mG t m (cF t p)) ((bF t i:Int)+(4+(k:Int)))=decide ((k:Int)<(lK t s p i).rel):=by have M:=Ch S R hr;rw[n_relV S R hr hk,<- M.hrel k hk,qRX,qRX];push_cast;rfl
theorem N8:((lK t s p i).state=4->(Z7 t m (cF t p))[2*i]?=some (lK t s p i).timer)/\((lK t s p i).state=3->(Z7 t m (cF t p))[2*i+1]?=some (lK t s p i).timer):=by have M:=Ch S R hr;have kt:=qKN S R hr;obtain⟨h0,h1,hrr⟩:=bi S R hr;have hpath:jE t s i=if(fF s i).state=0 then[]else r.Aa.drop (fF s i).rel.toNat:=(by unfold jE pJ;rw[hrr]);constructor;intro h;rw[kt.2.1,<- M.hwc h];by_cases h4:(fF s i).state=4;have:tU t s p i=!(r.Aa.drop (fF s i).rel.toNat).any (iX p):=(by unfold tU;rw[hpath,mF]);rw[this];rw[decide_eq_false h4];simp;intro h;rw[kt.2.2.2,<- M.hsc h,qLG]
end step
variable {t:Ah}{i:Nat}{m:Machine}{p:Au}{s:Av}
theorem COk.nodup(hC:COk t)(hr:r∈t.Ab):r.Aa.Nodup:=by have h1:=((eB hC.chk).2.2.1 r hr).1;unfold rE at h1;simp only[pQ]at h1;have h2:=h1.1.1.2;unfold H3 at h2;rw[allB_iff]at h2;rw[qI];intro a c hac hcl he;have hcl2:c<(r.Aa++r.Ae).length:=pF;have h3:=h2 c hcl2;rw[gx (iG hcl2)]at h3;simp only[pQ,gH,decide_eq_false_iff_not]at h3;refine h3.2 (zal122q.2 ⟨a,aB,?_⟩);have e1:(r.Aa++r.Ae)[a]' aB=r.Aa[a]' aB:=List.getElem_append_left aB;have e2:(r.Aa++r.Ae)[c]'hcl2=r.Aa[c]'hcl:=List.getElem_append_left hcl;rw[e1,e2];rw[iG hcl,iG (show a<r.Aa.length by omega)]at he;exact bO he
theorem K2(hn:l.Nodup)(x:Int)(ρ:Nat):(0<=kA (cL l x)->((ρ:Int)<=kA (cL l x)↔x∈l.drop ρ))/\(kA (cL l x)<0↔x∉l)/\((kA (cL l x)<0\/(ρ:Int)<=kA (cL l x))↔x∉l.take ρ):=by cases e:cL l x with|none=>have hx:x∉l:=(by intro hm;have:=C0 l x;rw[e,decide_eq_true hm]at this;cases this);simp only[kA];exact⟨λh=>aB,⟨λ_=>hx,λ_=>aB⟩,⟨λ_ hm=>hx (ww hm),λ_=>.inl aB⟩⟩|some k=>obtain⟨y,hy,hyx,hk⟩:=vP e;have hyx:y=x:=(by simpa using hyx);subst hyx;have hmem:y∈l:=kK hy;have huniq:∀q,l[q]?=some y->q=k:=λq hq=>(by have hql:=gJ hq;rw[qI]at hn;rcases Nat.lt_trichotomy q k with h|h|h;exact absurd (by rw[hq,hy]) (hn q k h hk);exact h;exact absurd (by rw[hq,hy]) (hn k q h hql));have hd:(ρ:Int)<=(k:Int)↔y∈l.drop ρ:=(by constructor;intro h;exact kK (i:=k-ρ) (by rw[nC,show ρ+(k-ρ)=k by omega];exact hy);intro h;obtain⟨q,hq⟩:=lO h;rw[nC]at hq;have:=huniq _ hq;omega);simp only[kA];refine⟨λ_=>hd,⟨λh=>aB,λh=>absurd hmem h⟩,⟨λh hm=>?_,λh=>.inr ?_⟩⟩;obtain⟨q,hq,hqe⟩:=zal122q.1 hm;have:=huniq q (by rw[Q8,hqe]);omega;rcases Int.lt_or_le (k:Int) (ρ:Int)with h2|h2;exact absurd (zal122q.2 ⟨k,aB,by rw[iG hk]at hy;exact bO hy⟩) h;exact h2
def LK(ρ:Nat)(s:Sh):Prop:=s.1=true\/∃k∈s.2,(ρ:Int)<=k
theorem qIB:LK ρ (true,l):=.inl rfl
theorem Wx(hρ:ρ<=n){x:Int}{s:Sh}:LK ρ (yA n x s)↔LK ρ s\/x<0\/(ρ:Int)<=x:=by unfold yA;split;rename_i h;exact⟨λ_=>.inr aB,λ_=>qIB⟩;rename_i h;split;rename_i hm;constructor;exact .inl;rintro(h1|h1);exact h1;exact .inr ⟨x,hm,aB⟩;rename_i hm;unfold LK;constructor;rintro(h1|⟨k,hk,h2⟩);exact .inl (.inl h1);rcases zQN.1 hk with hk|hk;exact .inl (.inr ⟨k,hk,h2⟩);rw[zal121q]at hk;subst hk;exact .inr (.inr h2);rintro((h1|⟨k,hk,h2⟩)|h1);exact .inl h1;exact .inr ⟨k,kI _ hk,h2⟩;exact .inr ⟨x,vI _ aN,aB⟩
theorem qIG{s1:Sh}{b:Bool}{P:Prop}[Decidable P]:LK ρ (if s1.1=true then(true,s1.2)else if P then(b,s1.2)else(false,s1.2))↔LK ρ s1\/(P/\b=true):=by obtain⟨w,l⟩:=s1;cases w with|true=>exact⟨λ_=>.inl qIB,λ_=>qIB⟩|false=>dsimp only;rw[if_neg fS];split;rename_i hp;unfold LK;constructor;rintro(h|h);exact .inr ⟨hp,h⟩;exact .inl (.inr h);rintro((h|h)|h);cases h;exact .inr h;exact .inl h.2;rename_i hp;exact⟨.inl,λh=>h.elim id λh=>absurd h.1 hp⟩
theorem oneA_LK(hρ:ρ<=n)(hn:q.Aa.Nodup){f:Bool}{s:Sh}{x:Int}:LK ρ (Z3 n q f s x)↔LK ρ s\/x∈q.Aa.drop ρ\/(x∈q.Ae/\f=false):=by have hx:=K2 hn x ρ;unfold Z3;dsimp only;rw[qIG];have h1:LK ρ (if 0<=kA (cL q.Aa x)then yA n (kA (cL q.Aa x)) s else s)↔LK ρ s\/x∈q.Aa.drop ρ:=(by split;rename_i h0;rw[Wx hρ,<- hx.1 h0];constructor;rintro(h|h|h);exact .inl h;omega;exact .inr h;rintro(h|h);exact .inl h;exact .inr (.inr h);rename_i h0;have hno:=hx.2.1.1 aB;exact⟨.inl,λh=>h.elim id λh=>absurd (Bn h) hno⟩);rw[h1];simp only[gH,or_assoc]
theorem oneB_LK(hρ:ρ<=n)(hn:q.Aa.Nodup){f g:Bool}{s:Sh}{x:Int}:LK ρ (Z2 n q f g s x)↔LK ρ s\/(g=false/\x∈q.Aa.drop ρ)\/(x∈q.Ae/\f=false/\g=false):=by
 have hx:=K2 hn x ρ;unfold Z2;dsimp only
 have h1:LK ρ (if 0<=kA (cL q.Aa x)/\g=false then yA n (kA (cL q.Aa x)) s else s)↔LK ρ s\/(g=false/\x∈q.Aa.drop ρ):=by
  split;rename_i h0;rw[Wx hρ,<- hx.1 h0.1];constructor;rintro(h|h|h)
  ·exact .inl h
  omega;exact .inr ⟨h0.2,h⟩;rintro(h|h)
  ·exact .inl h
  exact .inr (.inr h.2);rename_i h0;refine⟨.inl,λh=>h.elim id λh=>?_⟩
  have hno:=hx.2.1.1 (by
   rcases Int.lt_or_le (kA (cL q.Aa x)) 0 with h2|h2
   exact h2
   exact absurd ⟨h2,h.1⟩ h0)
  exact absurd (Bn h.2) hno
 generalize (if 0<=kA (cL q.Aa x)/\g=false then yA n (kA (cL q.Aa x)) s else s)=s1 at h1
 have h2:LK ρ (if s1.1=true then(true,s1.2)else if x∈q.Ae then if f=false then(!g,s1.2)else(false,s1.2)else(false,s1.2))↔LK ρ s1\/(x∈q.Ae/\(!f&&!g)=true):=by
  have:=qIG (ρ:=ρ) (s1:=s1) (b:=!f&&!g) (P:=x∈q.Ae);rw[<- this];cases f<;>simp
 rw[h2,h1];simp only[pQ,gH,or_assoc]
theorem oneC_LK(hρ:ρ<=n)(hn:q.Aa.Nodup){s:Sh}{x:Ac}:LK ρ (Z1 t n q s x)↔LK ρ s\/(q8 x∈q.Am\/q8 x∈q.A4\/(q8 x∈q.Af/\zX t x.el∉q.Aa.take ρ)):=by have hx:=K2 hn (zX t x.el) ρ;unfold Z1;split;rename_i h;refine⟨λ_=>.inr ?_,λ_=>qIB⟩;rcases h with h|h;exact .inl h;exact .inr (.inl h);rename_i h;split;rename_i hp;rw[Wx hρ,hx.2.2];constructor;rintro(h1|h1);exact .inl h1;exact .inr (.inr (.inr ⟨hp,h1⟩));rintro(h1|h1|h1|h1);exact .inl h1;exact absurd (.inl h1) h;exact absurd (.inr h1) h;exact .inr h1.2;rename_i hp;refine⟨.inl,λh1=>?_⟩;rcases h1 with h1|h1|h1|h1;exact h1;exact absurd (.inl h1) h;exact absurd (.inr h1) h;exact absurd h1.1 hp
theorem La{α:Type}{ρ:Nat}{f:Sh->α->Sh}{E:α->Prop}(h:∀s x,LK ρ (f s x)↔LK ρ s\/E x):∀(l:List α)(s:Sh),LK ρ (l.foldl f s)↔LK ρ s\/∃x∈l,E x
 |[],s=>aN
 |x::r,s=>by
  rw[ey,La h r,h];constructor;rintro((h1|h1)|⟨y,hy,h1⟩)
  ·exact .inl h1
  exact .inr ⟨x,jI,h1⟩;exact .inr ⟨y,pP _ hy,h1⟩;rintro(h1|⟨y,hy,h1⟩)
  ·exact .inl (.inl h1)
  rcases zQB.1 hy with rfl|hy
  ·exact .inl (.inr h1)
  exact .inr ⟨y,hy,h1⟩
def qIA(t:Ah)(ρ:Nat)(r q:Aj):Prop:=(∃x∈r.Aa,x∈q.Aa.drop ρ\/(x∈q.Ae/\vZ q r=false))\/(∃x∈r.Ae,(vZ r q=false/\x∈q.Aa.drop ρ)\/(x∈q.Ae/\vZ q r=false/\vZ r q=false))\/(∃e∈gE (cV r),q8 e∈q.Am\/q8 e∈q.A4\/(q8 e∈q.Af/\zX t e.el∉q.Aa.take ρ))
theorem qUN(hC:COk t)(hq:t.Ab[o]?=some q)(hρ:ρ<=bE t o):LK ρ (cm t o r q)↔qIA t ρ r q:=by have hn:=hC.nodup (kK hq);unfold cm qIA;rw[La (f:=Z1 t (bE t o) q) (λs x=>oneC_LK hρ hn),La (f:=Z2 (bE t o) q (vZ q r) (vZ r q)) (λs x=>oneB_LK hρ hn),La (f:=Z3 (bE t o) q (vZ q r)) (λs x=>oneA_LK hρ hn)];have h0:¬LK ρ ((false,[]):Sh):=(by unfold LK;simp);simp only[h0,false_or,or_assoc]
theorem Yc(hC:COk t)(hr:r∈t.Ab){x:Ac}(hx:x∈gE (cV r)):zX t x.el=br t x.el:=by obtain⟨k,hk1,hk2,hk3,_⟩:=hC.home hr hx;obtain⟨q,hq,hql⟩:=lV ((eB hC.chk).2.2.1 r hr).2 (ascS_mem.1 hx);have:(q:Int)=(k:Int):=(by rw[<- hk1];unfold zS;rw[hq];rfl);have hqk:q=k:=aB;subst hqk;have h2:=Fv hC.chk hq;rw[hk3]at h2;exact bO h2
theorem agree_no{a b:List Ac}:(!tC a b)=true↔∃e∈a,∃d∈b,e.el=d.el/\¬e.pos=d.pos:=by rw[<- qCX,zQU];constructor;rintro⟨e,he,h⟩;rw[zQU]at h;obtain⟨d,hd,h⟩:=h;simp only[pQ,decide_eq_true_eq,gH,decide_eq_false_iff_not]at h;exact⟨e,he,d,hd,h⟩;rintro⟨e,he,d,hd,h⟩;refine⟨e,he,zQU.2 ⟨d,hd,?_⟩⟩;simp only[pQ,decide_eq_true_eq,gH,decide_eq_false_iff_not];exact h
theorem qMU(hC:COk t)(hf:kT t c=true)(hi:i<t.Ab.length)(ho:o<t.Ab.length)(hne:o≠i):(uF t c i o=true\/lZ t c i o=true)↔(fF c o).state≠0/\qIA t (fF c o).rel.toNat (eZ t i) (eZ t o):=by have H:=iN hf hi;have H':=iN hf ho;have hsi:=λ(e:Ac)(he:e∈gE (cV (eZ t i)))=>hC.set_in H.mem he;have hso:=λ(e:Ac)(he:e∈cV (eZ t o))=>hC.set_in H'.mem (ascS_mem.2 he);have hhi:=λ(e:Ac)(he:e∈gE (cV (eZ t i)))=>Yc hC H.mem he;unfold uF lZ mY jE lJ pJ sF tB;rw[decide_eq_false hne];by_cases h0:(fF c o).state=0;simp only[h0,if_true,ne_eq,not_true_eq_false,false_and,iff_false,not_or];constructor;simp[sZ,vX];simp[tC];simp only[h0,if_false,ne_eq,not_false_eq_true,true_and,sJ,pX];unfold qIA;constructor;rintro(h|h);unfold sZ vX at h;simp only[lP,pQ,zQU,decide_eq_true_eq,gH]at h;rcases h with((⟨x,hx,h⟩|⟨⟨x,hx,h⟩,h2⟩)|⟨⟨x,hx,h⟩,h2⟩)|⟨⟨⟨x,hx,h⟩,h2⟩,h3⟩;exact .inl ⟨x,hx,.inl h⟩;exact .inr (.inl ⟨x,hx,.inl ⟨h2,h⟩⟩);exact .inl ⟨x,hx,.inr ⟨h,h2⟩⟩;exact .inr (.inl ⟨x,hx,.inr ⟨h,h3,h2⟩⟩);rw[agree_no]at h;obtain⟨e,he,d,hd,h⟩:=h;have hd':=ascS_mem.1 hd;have hop:d=q8 e:=(by have h1:=hsi e he;have h2:=hso d (by simp only[cV,zQN,zal111q]at hd'⊢;grind);refine Yo h.1.symm ?_;show d.pos=3-e.pos;omega);subst hop;refine .inr (.inr ⟨e,he,?_⟩);simp only[zQN,zal111q]at hd';rcases hd' with(hd'|hd')|hd';refine .inr (.inr ⟨hd'.1,?_⟩);have:=hd'.2;unfold zm at this;rw[show(q8 e).el=e.el from rfl]at this;rw[hhi e he];simpa using this;exact .inl hd';exact .inr (.inl hd');rintro(⟨x,hx,h⟩|⟨x,hx,h⟩|⟨e,he,h⟩);left;unfold sZ vX;simp only[lP,pQ,zQU,decide_eq_true_eq,gH];rcases h with h|h;exact .inl (.inl (.inl ⟨x,hx,h⟩));exact .inl (.inr ⟨⟨x,hx,h.1⟩,h.2⟩);left;unfold sZ vX;simp only[lP,pQ,zQU,decide_eq_true_eq,gH];rcases h with h|h;exact .inl (.inl (.inr ⟨⟨x,hx,h.2⟩,h.1⟩));exact .inr ⟨⟨⟨x,hx,h.1⟩,h.2.2⟩,h.2.1⟩;right;rw[agree_no];have h1:=hsi e he;refine⟨e,he,q8 e,ascS_mem.2 ?_,rfl,?_⟩;simp only[zQN,zal111q];rcases h with h|h|h;exact .inl (.inr h);exact .inr h;refine .inl (.inl ⟨h.1,?_⟩);unfold zm;rw[show(q8 e).el=e.el from rfl];have:=h.2;rw[hhi e he]at this;simpa using this;show ¬e.pos=3-e.pos;omega
variable {t:Ah}{i:Nat}{m:Machine}{p:Au}{s:Av}
def qIT(t:Ah)(p:Au)(k:Nat)(c:Av):Av:=if(k:Int)∈p.calls/\zL t c p (k:Int)=0 then rK t c k else c
def pI(t:Ah)(p:Au)(c0:Av):Nat->Av
 |0=>c0
 |k+1=>qIT t p k (pI t p c0 k)
def Vu(t:Ah)(p:Au)(c0:Av)(k:Nat):Prop:=(k:Int)∈p.calls/\zL t (pI t p c0 k) p (k:Int)=0
theorem qIZ(h:Vu t p c0 k):pI t p c0 (k+1)=rK t (pI t p c0 k) k:=by show qIT t p k (pI t p c0 k)=_;have h':(k:Int)∈p.calls/\zL t (pI t p c0 k) p (k:Int)=0:=h;unfold qIT;rw[if_pos h']
theorem qEU(h:¬Vu t p c0 k):pI t p c0 (k+1)=pI t p c0 k:=by show qIT t p k (pI t p c0 k)=_;have h':¬((k:Int)∈p.calls/\zL t (pI t p c0 k) p (k:Int)=0):=h;unfold qIT;rw[if_neg h']
theorem free_out{n:Int}(h:n<0\/(t.Ab.length:Int)<=n):zL t c p n≠0:=by unfold zL;rw[iL];decide
theorem qIS{q:Av×List Int}{n:Int}(h:n<0\/(t.Ab.length:Int)<=n):(oC t p q n).1=q.1:=by unfold oC;rw[if_neg (free_out h)]
theorem qCP:∀(l:List Int)(q:Av×List Int),(∀x∈l,x<0\/(t.Ab.length:Int)<=x)->(mH t p q l).1=q.1
 |[],q,_=>rfl
 |x::r,q,h=>by
  show(mH t p (oC t p q x) r).1=q.1;rw[qCP r _ λy hy=>h y (pP _ hy),qIS (h x jI)]
theorem C6(c0:Av):∀(d k:Nat)(l:List Int)(q:Av×List Int),k+d=t.Ab.length->qIC l->(∀x∈l,(k:Int)<=x)->(∀x:Int,(k:Int)<=x->(x∈l↔x∈p.calls))->q.1=pI t p c0 k->(mH t p q l).1=pI t p c0 t.Ab.length
 |0,k,l,q,hk,_,hl,_,hq=>by
  rw[qCP l q λx hx=>.inr (by have:=hl x hx;omega),hq,show k=t.Ab.length by omega]
 |d+1,k,l,q,hk,ha,hl,hm,hq=>by
  by_cases hin:(k:Int)∈p.calls;have hkl := (hm (k : Int) aB).2 hin
  cases l with
  |nil=>cases hkl
  |cons x r=>
   have hx:x=(k:Int):=by
    rcases zQB.1 hkl with h|h
    exact h.symm;have h1:=(zal129q.1 ha).1 _ h;have h2:=hl x jI;omega
   subst hx;have hp:=zal129q.1 ha;show(mH t p (oC t p q (k:Int)) r).1=_;refine C6 c0 d (k+1) r _ aB hp.2 (λx hx=>by have:=hp.1 x hx;omega) (λx hx=>?_) ?_;rw [<- hm x aB, zQB];constructor;exact .inr;rintro(h|h)
   ·omega
   exact h;unfold oC;rw[hq];by_cases hf:zL t (pI t p c0 k) p (k:Int)=0;rw[if_pos hf,qIZ ⟨hin,hf⟩,yP];rw[if_neg hf,qEU λh=>hf h.2]
  refine C6 c0 d (k + 1) l q aB ha (fun x hx => ?_) (fun x hx => hm x aB) ?_
  ·have h1:=hl x hx;have h2:x≠(k:Int):=λh=>hin ((hm _ aB).1 (h ▸ hx));omega
  rw[hq,qEU λh=>hin h.1]
theorem qXA(c0:Av):(mH t p (c0,[]) (vG p.calls)).1=pI t p c0 t.Ab.length:=by have hasc:=Za p.calls;have hmem:∀x,x∈vG p.calls↔x∈p.calls:=λx=>ascZ_mem;generalize vG p.calls=l at hasc hmem;suffices h:∀(l:List Int)(q:Av×List Int),qIC l->(∀x:Int,0<=x->(x∈l↔x∈p.calls))->q.1=c0->(mH t p q l).1=pI t p c0 t.Ab.length from h l _ hasc (λx _=>hmem x) rfl;intro l;induction l with|nil=>intro q ha hm hq;exact C6 c0 t.Ab.length 0 [] q aB ha aN (λx hx=>hm x aB) hq|cons x r ih=>intro q ha hm hq;by_cases hx:x<0;show(mH t p (oC t p q x) r).1=_;refine ih _ (zal129q.1 ha).2 (λy hy=>?_) (by rw[qIS (.inl hx)];exact hq);rw[<- hm y hy,zQB];constructor;exact .inr;rintro(h|h);omega;exact h;refine C6 c0 t.Ab.length 0 (x::r) q aB ha (λy hy=>?_) (λy hy=>hm y aB) hq;rcases zQB.1 hy with h|h;omega;have:=(zal129q.1 ha).1 y h;omega
theorem Yd(hs:lS t c=true)(hi:i<t.Ab.length):zL t c p (i:Int)=0↔(fF c i).state=0/\((eZ t i).Aa++(eZ t i).Ae).any (mL p.closed)=false/\(∀o,o<t.Ab.length->uF t c i o=false/\lZ t c i o=false)/\(gE (cV (eZ t i))).any (sC t c p)=false:=by unfold zL;rw[if_neg (by rw[hs];simp;omega),yP];by_cases h1:(fF c i).state=0;rw[if_neg sN];by_cases h2:((eZ t i).Aa++(eZ t i).Ae).any (mL p.closed)=true;rw[if_pos h2];exact⟨λh=>aB,λh=>by rw[h.2.1]at h2;cases h2⟩;rw[if_neg h2];by_cases h3:(List.range t.Ab.length).any (uF t c i)=true;rw[if_pos h3];refine⟨λh=>aB,λh=>?_⟩;obtain⟨o,ho,hb⟩:=zQU.1 h3;rw[(h.2.2.1 o (zal120q.1 ho)).1]at hb;cases hb;rw[if_neg h3];by_cases h4:(List.range t.Ab.length).any (lZ t c i)=true;rw[if_pos h4];refine⟨λh=>aB,λh=>?_⟩;obtain⟨o,ho,hb⟩:=zQU.1 h4;rw[(h.2.2.1 o (zal120q.1 ho)).2]at hb;cases hb;rw[if_neg h4];by_cases h5:(gE (cV (eZ t i))).any (sC t c p)=true;rw[if_pos h5];exact⟨λh=>aB,λh=>by rw[h.2.2.2]at h5;cases h5⟩;rw[if_neg h5];refine⟨λ_=>⟨h1,yc,λo ho=>⟨?_,?_⟩,by simpa using h5⟩,λ_=>rfl⟩;(cases hb:uF t c i o with|false=>rfl|true=>exact absurd (zQU.2 ⟨o,zal120q.2 ho,hb⟩) h3);(cases hb:lZ t c i o with|false=>rfl|true=>exact absurd (zQU.2 ⟨o,zal120q.2 ho,hb⟩) h4);rw[if_pos h1];exact⟨λh=>aB,λh=>absurd h.1 h1⟩
structure CInv (t:Ah) (m:Machine) (p:Au) (s:Av) (k:Nat):Prop where
 sound:lS t (pI t p (eH t s p) k)=true
 at_yes:∀o:Nat,o<k->Vu t p (eH t s p) o->fF (pI t p (eH t s p) k) o=Ej
 at_no:∀o:Nat,o<t.Ab.length->(o<k->¬Vu t p (eH t s p) o)->fF (pI t p (eH t s p) k) o=lK t s p o
 idle:∀o:Nat,o<k->Vu t p (eH t s p) o->(lK t s p o).state=0/\(lK t s p o).rel=0
 called:∀o:Nat,o<k->(gV (mG t m (cF t p)) (fT t o+4)=true↔Vu t p (eH t s p) o)
 keeps:∀j:Nat,j<t.Af.length->(pI t p (eH t s p) k).lies[j]?=s.lies[j]?\/∃n,t.A9[j]?=some n/\iX p n=false
 lies:∀(j:Nat)(el:Int),t.Af[j]?=some el->((pI t p (eH t s p) k).lies[j]?=some 2↔(∃o,o<k/\Vu t p (eH t s p) o/\(⟨el,2⟩:Ac)∈cV (eZ t o))\/(s.lies[j]?=some 2/\¬∃o,o<k/\Vu t p (eH t s p) o/\(⟨el,1⟩:Ac)∈cV (eZ t o)))
theorem next_at(hs:lS t s=true)(ho:o<t.Ab.length):fF (eH t s p) o=lK t s p o:=qFL (by have:=(fitsB_iff.1 (fD hs)).2.1;omega)
theorem acc_idle(H:CInv t m p s k)(hk:k<t.Ab.length)(ha:Vu t p (eH t s p) k):(lK t s p k).state=0/\(lK t s p k).rel=0:=by have h1:=(Yd H.sound hk).1 ha.2;have h2:=H.at_no k hk (λh=>aB);have hf:=(iN (fD H.sound) hk).fits;rw[h2]at h1 hf;have hst:=h1.1;rw[yg (.inl hst)]at hf;exact⟨hst,(of_decide_eq_true hf).1⟩
theorem inv_zero(R:Rep t m s):CInv t m p s 0:=by refine⟨Ey R.sound,λo h=>aB,λo ho _=>next_at R.sound ho,λo h=>aB,λo h=>aB,λj _=>.inl rfl,λj el _=>?_⟩;constructor;intro h;exact .inr ⟨h,λ⟨o,ho,_⟩=>aB⟩;rintro(⟨o,ho,_⟩|h);omega;exact h.1
theorem qQO(S:ScanV t m (cF t p))(R:Rep t m s)(hk:k<t.Ab.length)(H:CInv t m p s k):gV (mG t m (cF t p)) (fT t k+4)=true↔Vu t p (eH t s p) k:=by have hr:t.Ab[k]?=some (eZ t k):=(iN (fD R.sound) hk).r;have hm:=kK hr;have hC:=S.hC;have hfS:=fD H.sound;obtain⟨W,a1,a2⟩:=at4 S hr;have hv:=qFJ S a1;have ask:=(fm hC hv hk).2.2.1;have x3:gV W (fT t k+3)=!decide ((lK t s p k).state=0):=(by rw[a1.new _ (by have:=Wr hr (k:=3) aB aB;simp only[zQN];grind)];exact qJY S R hr);have hxk:=H.at_no k hk (λh=>aB);rw[a2];unfold cv Vu;rw[pL,Bd,Bd,Bd,Yd H.sound hk,hxk];simp only[pQ,pC,nU,and_true,pB,qE,ask,x3,D5,decide_eq_true_eq];have hopen:(((eZ t k).Aa++(eZ t k).Ae).map Of).all (rS W)=true↔((eZ t k).Aa++(eZ t k).Ae).any (mL p.closed)=false:=(by rw[Ma,zQT,zal44q];constructor;intro h n hn;have hs:=hC.sec_in hm hn;have h2:=h n hn;simp only[Function.comp]at h2;unfold Of at h2;rw[pB,(xS hC hv hs.1 hs.2).2]at h2;intro hc;rw[hc]at h2;cases h2;intro h n hn;have hs:=hC.sec_in hm hn;have h2:=h n hn;simp only[Function.comp];unfold Of;rw[pB,(xS hC hv hs.1 hs.2).2];simpa using h2);have hother:∀o,o<t.Ab.length->o≠k->((wd t k o (eZ t k) (eZ t o)).all (rS W)=true↔(uF t (pI t p (eH t s p) k) k o=false/\lZ t (pI t p (eH t s p) k) k o=false)):=(by intro o ho hne;have Ho:=iN hfS ho;have hq:=Ho.r;have hqm:=Ho.mem;have hsec:=hC.secs hqm;have F:=vr Ho.fits hsec.1;have hln:bE t o=(eZ t o).Aa.length-1:=(by unfold bE;rw[hq]);have o3:gV W (fT t o+3)=!decide ((lK t s p o).state=0):=(by rw[a1.new _ (by have:=Wr hq (k:=3) aB aB;simp only[zQN];grind)];exact qJY S R hq);have o4:o<k->(gV W (fT t o+4)=true↔Vu t p (eH t s p) o):=λhlt=>(by rw[a1.new _ (by have:=Jz hq hlt;simp only[zQN];grind)];exact H.called o hlt);have orel:∀x:Nat,x<bE t o->gV W ((bF t o:Int)+(4+(x:Int)))=decide ((x:Int)<(fF (pI t p (eH t s p) k) o).rel):=λx hx=>(by rw[a1.new _ (by have:=v_relQ hq hx;simp only[zQN];grind),qJX S R hq hx];by_cases hacc:o<k/\Vu t p (eH t s p) o;rw[H.at_yes o hacc.1 hacc.2,(H.idle o hacc.1 hacc.2).2];rfl;rw[H.at_no o ho λh hA=>hacc ⟨h,hA⟩]);have oact:rS W (qAL t k o)=true↔(fF (pI t p (eH t s p) k) o).state≠0:=(by unfold qAL;by_cases hlt:o<k;rw[if_pos hlt,wR];simp only[pW,yO,wD,pB,lP,o3,o4 hlt,gH,decide_eq_false_iff_not];by_cases hacc:Vu t p (eH t s p) o;rw[H.at_yes o hlt hacc];exact⟨λ_=>aP,λ_=>.inr hacc⟩;rw[H.at_no o ho λ_=>hacc];exact⟨λh=>h.elim id λh=>absurd h hacc,λh=>.inl h⟩;rw[if_neg hlt,pB,o3,H.at_no o ho λh=>absurd h hlt];simp);have hLK:=qUN hC (r:=eZ t k) hq (ρ:=(fF (pI t p (eH t s p) k) o).rel.toNat) aB;have hbl:=qMU hC hfS hk ho hne;have hsh:=(Mq (b:=[]) hC S.ht hr hq).2;rw[show(uF t (pI t p (eH t s p) k) k o=false/\lZ t (pI t p (eH t s p) k) k o=false)↔¬(uF t (pI t p (eH t s p) k) k o=true\/lZ t (pI t p (eH t s p) k) k o=true) by simp,hbl,<- hLK];unfold wd LK;generalize cm t o (eZ t k) (eZ t o)=Sh at hsh;generalize (fF (pI t p (eH t s p) k) o).state=st at oact;have hrel0:0<=(fF (pI t p (eH t s p) k) o).rel:=F.2.1;generalize (fF (pI t p (eH t s p) k) o).rel=ρ at orel hrel0;by_cases hw:Sh.1=true;rw[if_pos hw];simp only[pC,nU,pD,qE,gH,hw,true_or,and_true];rw[<- oact];simp;rw[if_neg hw];by_cases hl:Sh.2.length=0;rw[if_pos hl,x7 hl];simp[hw];rw[if_neg hl];simp only[pC,nU,pD];rw[wR];simp only[Il,pW,yO,wD,qE,pL,lP,gH,hw,false_or,Ma,zQT,Function.comp];have hall:(∀x,x∈Sh.2->rS W (xQ t o x)=true)↔¬∃x,x∈Sh.2/\((ρ.toNat:Nat):Int)<=x:=(by constructor;rintro h ⟨x,hx,hle⟩;have hb:=hsh.2 x hx;have h2:=h x hx;rw[pB,show(bF t o:Int)+(4+x)=(bF t o:Int)+(4+((x.toNat:Nat):Int)) by omega,orel _ aB]at h2;have:=of_decide_eq_true h2;omega;intro h x hx;have hb:=hsh.2 x hx;rw[pB,show(bF t o:Int)+(4+x)=(bF t o:Int)+(4+((x.toNat:Nat):Int)) by omega,orel _ aB];refine decide_eq_true ?_;have:¬((ρ.toNat:Nat):Int)<=x:=λhc=>h ⟨x,hx,hc⟩;omega);rw[hall,<- Bool.not_eq_true,oact];constructor;rintro(h|h) ⟨h1,h2⟩;exact h h1;exact h (h2.resolve_left aN);intro h;by_cases h1:st≠0;exact .inr λh2=>h ⟨h1,.inr h2⟩;exact .inl h1);have hself:uF t (pI t p (eH t s p) k) k k=false/\lZ t (pI t p (eH t s p) k) k k=false:=(by unfold uF lZ;rw[decide_eq_true rfl];exact⟨rfl,rfl⟩);have hothers:(oV t k (eZ t k) t.Ab.length).all (rS W)=true↔∀o,o<t.Ab.length->uF t (pI t p (eH t s p) k) k o=false/\lZ t (pI t p (eH t s p) k) k o=false:=(by unfold oV;rw[List.all_flatMap,zQT];constructor;intro h o ho;by_cases hne:o=k;subst hne;exact hself;have h2:=h o (zal120q.2 ho);rw[if_neg hne,(iN hfS ho).r]at h2;exact(hother o ho hne).1 h2;intro h o ho;have ho:=zal120q.1 ho;by_cases hne:o=k;rw[if_pos hne];rfl;rw[if_neg hne,(iN hfS ho).r];exact(hother o ho hne).2 (h o ho));have hwish:((gE (cV (eZ t k))).map (Wg t)).all (rS W)=true↔(gE (cV (eZ t k))).any (sC t (pI t p (eH t s p) k) p)=false:=(by have key:∀e∈gE (cV (eZ t k)),rS W (Wg t e)=!sC t (pI t p (eH t s p) k) p e:=(by intro e he;have hset:=hC.set_in hm he;obtain⟨j,hj1,hj2,hj3,hj4,hj5⟩:=hC.home hm he;have hhome:=Yc hC hm he;obtain⟨q,hq,hql⟩:=lV ((eB hC.chk).2.2.1 _ hm).2 (ascS_mem.1 he);have hqj:q=j:=(by have:(q:Int)=(j:Int):=(by rw[<- hj1];unfold zS;rw[hq];rfl);omega);subst hqj;have hpj:=iG hj2;have hfree:rS W (nJ (zX t e.el))=!iX p (br t e.el):=(by rw[pB,(xS hC hv hj4 hj5).1,hhome]);have hls:=Gy (fD R.sound) hq;have hlc:=Gy hfS hq;have hlv:gV W ((qD t:Int)+(q:Int))=decide (s.lies[q]?=some 2):=(by rw[a1.old _ (by have:=v_lieQ hpj;simp only[zQN];grind),show(qD t:Int)+(q:Int)=((qD t+q:Nat):Int) by omega,Cn S aB];exact R.lie q hj2);have hlie:rS W (Jf t e)=decide (wQ t s e.el=e.pos):=(by unfold Jf;rw[hj1];have hb:=(fitsB_iff.1 (fD R.sound)).2.2.2.2 _ (kK hls);have hb2:=of_decide_eq_true hb;split;rename_i h1;rw[qE,pB,hlv,hls,h1];rcases hb2 with h|h<;>rw[h]<;>simp;rename_i h1;rw[pB,hlv,hls,show e.pos=2 by omega];rcases hb2 with h|h<;>rw[h]<;>simp);unfold Wg;rw[wR];simp only[pW,yO,wD,hlie,hfree];unfold sC;rcases H.keeps q hj2 with h|⟨n,hn,hocc⟩;have:wQ t (pI t p (eH t s p) k) e.el=wQ t s e.el:=(by rw[hls,hlc]at h;exact bO h);rw[this];simp;have hnh:n=br t e.el:=(by have:=Fv hC.chk hq;rw[hn]at this;exact bO this);have hocc2:mL p.occupied n=false:=hocc;show(decide (wQ t s e.el=e.pos)||!mL p.occupied (br t e.el))=!(!decide (wQ t (pI t p (eH t s p) k) e.el=e.pos)&&mL p.occupied (br t e.el));rw[<- hnh,hocc2];simp);rw[Ma,zQT,zal44q];constructor;intro h e he;have h2:=h e he;simp only[Function.comp]at h2;rw[key e he]at h2;intro hc;rw[hc]at h2;cases h2;intro h e he;have h2:=h e he;simp only[Function.comp];rw[key e he];simpa using h2);rw[hopen,hothers,hwish];constructor;rintro⟨⟨⟨⟨h1,h2⟩,h3⟩,h4⟩,h5⟩;exact⟨h1,h2,h3,h4,h5⟩;rintro⟨h1,h2,h3,h4,h5⟩;exact⟨⟨⟨⟨h1,h2⟩,h3⟩,h4⟩,h5⟩
variable {t:Ah}{i:Nat}{m:Machine}{p:Au}{s:Av}
theorem N9{t:Ah}(hz:fE t=0)(hj:t.Af[j]?=some el):cL t.Af el=some j:=by have hp:=(eB hz).2.1;unfold zE at hp;rw[pQ]at hp;have hall:=allB_iff.1 hp.2;have hjl:=gJ hj;have mono:∀b:Nat,∀a,a<b->b<t.Af.length->∀x y,t.Af[a]?=some x->t.Af[b]?=some y->x<y:=(by intro b;induction b with|zero=>intro a h;omega|succ b ih=>intro a hab hb x y hx hy;have h1:=hall (b+1) hb;have hb':t.Af[b]?=some (t.Af[b]' aB):=Q8;have hh:t.A9[b+1]?=some (t.A9[b+1]'(by have:=of_decide_eq_true hp.1;omega)):=iG _;rw[Gs hy (by rw[Nat.add_sub_cancel];exact hb') hh]at h1;have h2:=(of_decide_eq_true h1).2.1 aB;rcases fU a b with hlt|hge;have:=ih a hlt aB x _ hx hb';omega;have:a=b:=aB;subst this;rw[hx]at hb';cases hb';exact h2);unfold cL;rw[D2];refine⟨hjl,?_,λk hk=>?_⟩;rw[iG hjl]at hj;simp[bO hj];have hkl:k<t.Af.length:=aB;have:=mono j k hk hjl _ _ (iG hkl) hj;simp;omega
theorem qHT(hf:kT t c=true)(hk:k<t.Ab.length)(hj:t.Af[j]?=some el):(∀v,(⟨el,v⟩:Ac)∈cV (eZ t k)->(rK t c k).lies[j]?=some v)/\((∀v,(⟨el,v⟩:Ac)∉cV (eZ t k))->(rK t c k).lies[j]?=c.lies[j]?):=by have H:=iN hf hk;have hf':=fitsB_iff.1 hf;have hc:=eB hf'.1;have hix:=N9 hf'.1 hj;have hjl:=gJ hj;have hpl:∀e∈gE (cV (eZ t k)),bI t e.el=j->e.el=el:=λe he h=>(by obtain⟨q,hq,_⟩:=lV (hc.2.2.1 _ H.mem).2 (ascS_mem.1 he);exact M1 hq hix (by simpa[bI,hq]using h));constructor;intro v hv;refine Je t (gE (cV (eZ t k))) j v (λe he h=>?_) c.lies aB (.inl ⟨⟨el,v⟩,ascS_mem.2 hv,by simp[bI,hix]⟩);exact qFU (hc.2.2.1 _ H.mem).2 (hc.2.2.2.1 _ H.mem) (ascS_mem.1 he) hv (hpl e he h);intro hv;refine qBV t (gE (cV (eZ t k))) j (λe he h=>?_) c.lies;have hel:=hpl e he h;refine hv e.pos ?_;rw[<- hel];exact ascS_mem.1 he
theorem inv_succ(S:ScanV t m (cF t p))(R:Rep t m s)(hk:k<t.Ab.length)(H:CInv t m p s k):CInv t m p s (k+1):=by have hcv:=qQO S R hk H;have hfS:=fD H.sound;by_cases ha:Vu t p (eH t s p) k;have hseq:=qIZ ha;have hsnd:=Y2 ha.2;have hid:=acc_idle H hk ha;have hlen:=(fitsB_iff.1 hfS).2.1;have hcx:∀o,fF (rK t (pI t p (eH t s p) k) k) o=if o=k then Ej else fF (pI t p (eH t s p) k) o:=λo=>callI_x aB;refine⟨by rw[hseq];exact hsnd,λo ho hA=>?_,λo ho hA=>?_,λo ho hA=>?_,λo ho=>?_,λj hj=>?_,λj el hj=>?_⟩;rw[hseq,hcx];by_cases e:o=k;rw[if_pos e];rw[if_neg e];exact H.at_yes o aB hA;rw[hseq,hcx];by_cases e:o=k;subst e;exact absurd ha (hA aB);rw[if_neg e];exact H.at_no o ho λh=>hA aB;by_cases e:o=k;subst e;exact hid;exact H.idle o aB hA;by_cases e:o=k;subst e;exact hcv;exact H.called o aB;rw[hseq];rcases qXB ha.2 hj with h|h;rw[h];exact H.keeps j hj;exact .inr h;rw[hseq];have hl:=qHT hfS hk hj;have hold:=H.lies j el hj;have hix:=N9 (fitsB_iff.1 hfS).1 hj;have hco:=(Yd H.sound hk).1 ha.2;have Hk:=iN hfS hk;have hch:=eB S.hC.chk;have one {a b:Int} (h1:(⟨el,a⟩:Ac)∈cV (eZ t k)) (h2:(⟨el,b⟩:Ac)∈cV (eZ t k)):a=b:=qFU (hch.2.2.1 _ Hk.mem).2 (hch.2.2.2.1 _ Hk.mem) h1 h2 rfl;have agree {a b:Int} (h1:(⟨el,a⟩:Ac)∈cV (eZ t k)) {o:Nat} (ho:o<k) (hA:Vu t p (eH t s p) o) (h2:(⟨el,b⟩:Ac)∈cV (eZ t o)):a=b:=(by refine Classical.byContradiction λhne=>?_;have hcon:=(hco.2.2.1 o aB).2;unfold lZ at hcon;rw[decide_eq_false aB,sJ,pX]at hcon;have hb:(⟨el,b⟩:Ac)∈mY t (pI t p (eH t s p) k) o:=(by unfold mY tB;rw[H.at_yes o ho hA,if_neg aP,ascS_mem];have hkept:∀x,zm t (eZ t o) Ej x=true:=λx=>(by unfold zm Ej;simp);simp only[cV,zQN,zal111q,hkept,and_true]at h2⊢;exact h2);have:=agree_no.2 ⟨⟨el,a⟩,ascS_mem.2 h1,⟨el,b⟩,hb,rfl,hne⟩;rw[hcon]at this;cases this);by_cases h2:(⟨el,2⟩:Ac)∈cV (eZ t k);rw[hl.1 2 h2];exact⟨λ_=>.inl ⟨k,aB,ha,h2⟩,λ_=>rfl⟩;by_cases h1:(⟨el,1⟩:Ac)∈cV (eZ t k);rw[hl.1 1 h1];constructor;intro h;cases h;rintro(⟨o,ho,hA,hs⟩|⟨_,hno⟩);rcases fU o k with hlt|hge;exact absurd (agree h1 hlt hA hs) aP;rw[show o=k by omega]at hs;exact absurd hs h2;exact absurd ⟨k,aB,ha,h1⟩ hno;have hnone:∀v,(⟨el,v⟩:Ac)∉cV (eZ t k):=λv hv=>(by have:=S.hC.set_in Hk.mem (ascS_mem.2 hv);dsimp only at this;rcases (by omega:v=1\/v=2)with e|e<;>subst e;exact h1 hv;exact h2 hv);rw[hl.2 hnone,hold];have ex (v:Int):(∃o,o<k+1/\Vu t p (eH t s p) o/\(⟨el,v⟩:Ac)∈cV (eZ t o))↔∃o,o<k/\Vu t p (eH t s p) o/\(⟨el,v⟩:Ac)∈cV (eZ t o):=(by constructor;rintro⟨o,ho,hA,hs⟩;rcases fU o k with hlt|hge;exact⟨o,hlt,hA,hs⟩;rw[show o=k by omega]at hs;exact absurd hs (hnone v);rintro⟨o,ho,h⟩;exact⟨o,aB,h⟩);rw[ex 2,ex 1];have hseq:=qEU ha;refine⟨by rw[hseq];exact H.sound,λo ho hA=>?_,λo ho hA=>?_,λo ho hA=>?_,λo ho=>?_,λj hj=>by rw[hseq];exact H.keeps j hj,λj el hj=>?_⟩;rw[hseq];by_cases e:o=k;subst e;exact absurd hA ha;exact H.at_yes o aB hA;rw[hseq];exact H.at_no o ho λh=>hA aB;by_cases e:o=k;subst e;exact absurd hA ha;exact H.idle o aB hA;by_cases e:o=k;subst e;exact hcv;exact H.called o aB;rw[hseq,H.lies j el hj];have ex (v:Int):(∃o,o<k+1/\Vu t p (eH t s p) o/\(⟨el,v⟩:Ac)∈cV (eZ t o))↔∃o,o<k/\Vu t p (eH t s p) o/\(⟨el,v⟩:Ac)∈cV (eZ t o):=(by constructor;rintro⟨o,ho,hA,hs⟩;by_cases e:o=k;subst e;exact absurd hA ha;exact⟨o,aB,hA,hs⟩;rintro⟨o,ho,h⟩;exact⟨o,aB,h⟩);rw[ex 2,ex 1]
theorem qGS(S:ScanV t m (cF t p))(R:Rep t m s):∀k,k<=t.Ab.length->CInv t m p s k
 |0,_=>inv_zero R
 |k+1,h=>inv_succ S R aB (qGS S R k aB)
theorem qWH(S:ScanV t m (cF t p))(R:Rep t m s)(hj:t.Af[j]?=some el):gV (mG t m (cF t p)) ((qD t:Int)+(j:Int))=decide ((pI t p (eH t s p) t.Ab.length).lies[j]?=some 2):=by have hjl:=gJ hj;have H:=qGS S R t.Ab.length (oA _);have hf:=fD R.sound;obtain⟨W,a1,a2⟩:=at5 S hj;have hold:gV W ((qD t:Int)+(j:Int))=decide (s.lies[j]?=some 2):=(by rw[a1.old _ aN,show(qD t:Int)+(j:Int)=((qD t+j:Nat):Int) by omega,Cn S aB];exact R.lie j hjl);have hw (rev:Bool):(rC t el rev t.Ab.length).any (rS W)=true↔∃o,o<t.Ab.length/\Vu t p (eH t s p) o/\(⟨el,if rev=true then 2 else 1⟩:Ac)∈cV (eZ t o):=(by unfold rC;rw[List.any_flatMap,zQU];constructor;rintro⟨o,ho,h⟩;have ho:=zal120q.1 ho;have Ho:=iN hf ho;rw[Ho.r]at h;dsimp only at h;unfold cz at h;rw[D4,zQU]at h;obtain⟨x,hx,hev⟩:=h;rw[zal111q]at hx;simp only[Function.comp,pB]at hev;rw[a1.new _ (by have:=Jz Ho.r ho;unfold vW;simp only[zQN];grind),H.called o ho]at hev;refine⟨o,ho,hev,?_⟩;have hs:=S.hC.set_in Ho.mem hx.1;have hx2:=hx.2;simp only[pQ,decide_eq_true_eq,beq_iff_eq]at hx2;have hxe:x=⟨el,if rev=true then 2 else 1⟩:=(by refine Yo hx2.1 ?_;show x.pos=if rev=true then 2 else 1;rw[hx2.2];by_cases h2:x.pos=2;simp[h2];simp[h2];omega);rw[<- hxe];exact ascS_mem.1 hx.1;rintro⟨o,ho,hA,hs⟩;have Ho:=iN hf ho;refine⟨o,zal120q.2 ho,?_⟩;rw[Ho.r];dsimp only;unfold cz;rw[D4,zQU];refine⟨_,zal111q.2 ⟨ascS_mem.2 hs,?_⟩,?_⟩;cases rev<;>simp;simp only[Function.comp,pB];rw[a1.new _ (by have:=Jz Ho.r ho;unfold vW;simp only[zQN];grind),H.called o ho];exact hA);rw[a2,zal18q,decide_eq_true_eq,H.lies j el hj];unfold Kv;rw[wR];simp only[pW,yO,wD,wR,pL,qE,pC,nU,pD,pB,hold,lP,pQ,decide_eq_true_eq,gH];rw[hw true,<- Bool.not_eq_true,hw false];simp
theorem qWX(R:Rep t m s):(xV t s p).1=pI t p (eH t s p) t.Ab.length:=by unfold xV;rw[if_pos R.sound];exact qXA _
theorem Xd(hC:COk t)(ht:WfB t)(ha:gQ t<=2000)(R:Rep t m s)(p:Au):Rep t (yB (qz t) m (cF t p)) (xV t s p).1:=by have S:=R.ok.scanV hC ht ha (cF t p);have hsc:=R.ok.scan hC (cF t p);have H:=qGS S R t.Ab.length (oA _);have hN:=xT t;rw[qWX R];have xat:∀i,i<t.Ab.length->fF (pI t p (eH t s p) t.Ab.length) i=Ej/\Vu t p (eH t s p) i/\(lK t s p i).state=0/\(lK t s p i).rel=0\/fF (pI t p (eH t s p) t.Ab.length) i=lK t s p i/\¬Vu t p (eH t s p) i:=λi hi=>(by by_cases hA:Vu t p (eH t s p) i;exact .inl ⟨H.at_yes i hi hA,hA,H.idle i hi hA⟩;exact .inr ⟨H.at_no i hi λ_=>hA,hA⟩);have vbn:∀y:Nat,vb (yB (qz t) m (cF t p)) y=gV (mG t m (cF t p)) (y:Int):=λy=>(by rw[hsc.2,qGV];rfl);have cnn:∀(y:Nat)(v:Int),(Z7 t m (cF t p))[y]?=some v->cn (yB (qz t) m (cF t p)) y=v:=λy v h=>(by rw[hsc.2];unfold cn;rw[fx,h];rfl);refine⟨hsc.1,H.sound,λi hi k hk=>?_,λi hi k hk=>?_,λi hi h=>?_,λi hi h=>?_,λj hj=>?_⟩;have hr:=iG hi;have M:=Ch S R hr;have hcl:=H.called i hi;rw[vbn];rcases (by omega:k=0\/k=1\/k=2\/k=3)with e|e|e|e<;>subst e;rw[show((bF t i+0:Nat):Int)=(bF t i:Int)+0 by omega,at6 S hr,M.hkeep];rcases xat i hi with⟨hx,hA,h0,_⟩|⟨hx,hA⟩;rw[hx,hcl.2 hA,Bool.or_true];rfl;have:gV (mG t m (cF t p)) (fT t i+4)=false:=(by cases hg:gV (mG t m (cF t p)) (fT t i+4)with|false=>rfl|true=>exact absurd (hcl.1 hg) hA);rw[hx,this,wD];rfl;rw[show((bF t i+1:Nat):Int)=(bF t i:Int)+1 by omega,M.hclr];rcases xat i hi with⟨hx,hA,h0,_⟩|⟨hx,hA⟩;rw[hx,h0];rfl;rw[hx];rfl;rw[show((bF t i+2:Nat):Int)=(bF t i:Int)+2 by omega,new_used S hr,M.huse];rcases xat i hi with⟨hx,hA,h0,_⟩|⟨hx,hA⟩;rw[hx,h0];rfl;rw[hx];rfl;rw[show((bF t i+3:Nat):Int)=(bF t i:Int)+3 by omega,new_held S hr,M.hhold];rcases xat i hi with⟨hx,hA,h0,_⟩|⟨hx,hA⟩;rw[hx,h0];rfl;rw[hx];rfl;have hr:=iG hi;rw[vbn,show((bF t i+4+k:Nat):Int)=(bF t i:Int)+(4+(k:Int)) by omega,qJX S R hr hk];rcases xat i hi with⟨hx,hA,h0,hz⟩|⟨hx,hA⟩;rw[hx,hz];rfl;rw[hx];have hr:=iG hi;rcases xat i hi with⟨hx,hA,h0,hz⟩|⟨hx,hA⟩;rw[hx]at h;exact absurd h aP;rw[hx]at h⊢;exact cnn _ _ ((N8 S R hr).1 h);have hr:=iG hi;rcases xat i hi with⟨hx,hA,h0,hz⟩|⟨hx,hA⟩;rw[hx]at h;exact absurd h aP;rw[hx]at h⊢;exact cnn _ _ ((N8 S R hr).2 h);have hpj:=iG hj;rw[vbn,show((qD t+j:Nat):Int)=(qD t:Int)+(j:Int) by omega,qWH S R hpj]
variable {t:Ah}{m:Machine}{s:Av}{p:Au}{i:Nat}
section
variable (hC:COk t)(R:Rep t m s)
include hC R
section
variable {r:Aj}(hr:t.Ab[i]?=some r)
include hr
theorem wZ:i<t.Ab.length/\eZ t i=r/\bE t i+1=r.Aa.length/\(0<=(fF s i).rel/\(fF s i).rel<=(bE t i:Int))/\((fF s i).state<3->(fF s i).rel=0)/\0<=(fF s i).state/\(fF s i).state<=4:=by have hi:=gJ hr;have H:=iN (fD R.sound) hi;have hsec:=hC.secs H.mem;have F:=vr H.fits hsec.1;have hrr:eZ t i=r:=(by have:=H.r;rw[hr]at this;exact(bO this).symm);have hln:bE t i=r.Aa.length-1:=uA;rw[hrr]at F hsec;exact⟨hi,hrr,aB,⟨F.2.1,aB⟩,λh=>(F.2.2.2.1 h).1,aB,aB⟩
theorem H5(k:Nat)(hk:k<4):sv t m.vars i (k:Int)=true↔(fF s i).state=(k:Int)+1:=by have q:=wZ hC R hr;show gV m.vars ((bF t i:Int)+(k:Int))=true↔_;rw[show((bF t i:Int)+(k:Int))=((bF t i+k:Nat):Int) by omega,gV_vb,R.bit i q.1 k hk,decide_eq_true_iff]
theorem qSB(k:Nat)(hk:k<bE t i):rv t m.vars i k=true↔(k:Int)<(fF s i).rel:=by have q:=wZ hC R hr;show gV m.vars ((bF t i:Int)+(4+(k:Int)))=true↔_;rw[show((bF t i:Int)+(4+(k:Int)))=((bF t i+4+k:Nat):Int) by omega,gV_vb,R.rel i q.1 k hk,decide_eq_true_iff]
theorem q_live:Zn t m.vars i↔(fF s i).state≠0:=by have q:=wZ hC R hr;have b0:=H5 hC R hr 0 aB;have b1:=H5 hC R hr 1 aB;have b2:=H5 hC R hr 2 aB;have b3:=H5 hC R hr 3 aB;unfold Zn;refine Iff.trans (or_congr b0 (or_congr b1 (or_congr b2 b3))) ?_;omega
theorem q_lk{k:Nat}(hk:k<=bE t i)(h:Lk t m.vars i k):(fF s i).state≠0/\(fF s i).rel<=(k:Int):=by have q:=wZ hC R hr;refine⟨(q_live hC R hr).1 h.1,?_⟩;by_cases hl:k<bE t i;have h2:=h.2 hl;have h3:=qSB hC R hr k hl;rw[h2]at h3;have:¬(k:Int)<(fF s i).rel:=λhh=>fS (h3.2 hh);omega;omega
theorem qPB{k:Nat}{x:Int}(hx:r.Aa[k]?=some x)(h:Lk t m.vars i k):x∈jE t s i:=by have q:=wZ hC R hr;have hk:=gJ hx;have hl:=q_lk hC R hr aB h;unfold jE pJ;rw[if_neg hl.1,q.2.1];refine kK (i:=k-(fF s i).rel.toNat) ?_;rw[nC,<- hx];congr 1;omega
theorem q_over(h:Zn t m.vars i):lJ t s i=r.Ae:=by unfold lJ sF;rw[if_neg ((q_live hC R hr).1 h),(wZ hC R hr).2.1]
theorem q_lie{x:Ac}(hx:x∈gE (cV r))(h:Lk t m.vars i (kxN t i r x)):qTY t m.vars x:=by have q:=wZ hC R hr;have hm:=kK hr;have hkx:kxN t i r x<=bE t i:=(by unfold kxN;split;exact oA _;split;rename_i k hk;have:=(zQQ.1 (Vm hk)).1;omega;exact oA _);have hl:=q_lk hC R hr hkx h;have hb:x∈mY t s i:=(by unfold mY tB;rw[if_neg hl.1,q.2.1,ascS_mem];by_cases ho:x∈r.Am\/x∈r.A4;rcases ho with ho|ho;exact kI _ (vI _ ho);exact vI _ ho;have hp:x∈r.Af:=(by have:=ascS_mem.1 hx;simp only[cV,zQN]at this;rcases this with(h|h)|h;exact h;exact absurd (.inl h) ho;exact absurd (.inr h) ho);refine kI _ (kI _ (zal111q.2 ⟨hp,?_⟩));unfold zm;rw[gH,decide_eq_false_iff_not,<- Yc hC hm hx];refine((K2 (hC.nodup hm) (zX t x.el) (fF s i).rel.toNat).2.2).1 ?_;have h2:=hl.2;unfold kxN at h2;rw[if_neg ho]at h2;cases hk:cL r.Aa (zX t x.el)with|none=>exact .inl aP|some k=>rw[hk]at h2;dsimp only at h2;refine .inr ?_;show(((fF s i).rel.toNat:Nat):Int)<=(k:Int);omega);have hlie:=Nu R.sound q.1 x hb;have hin:=hC.set_in hm hx;obtain⟨k,hk1,hk2,_⟩:=hC.home hm hx;have hidx:cL t.Af x.el=some k:=(by unfold zS at hk1;cases hc:cL t.Af x.el with|none=>rw[hc]at hk1;have h1:(-1:Int)=(k:Int):=hk1;omega|some j=>rw[hc]at hk1;have h1:(j:Int)=(k:Int):=hk1;rw[show j=k by omega]);have hl2:=Gy (fD R.sound) hidx;have hv:=R.lie k hk2;rw[hl2,hlie]at hv;unfold qTY;rw[hk1,show((qD t:Int)+(k:Int))=((qD t+k:Nat):Int) by omega,gV_vb,hv,decide_eq_true_iff,jA];omega
end
theorem rep_inv:InvX t m.vars:=by refine⟨λi r hr=>?_,λi r hr k hk h=>?_,λi r hr k hk h=>?_,λa c r q ha hc hac x y u hx hy h=>?_,λa c r q ha hc hac hf u hu k hk h=>?_,λi r hr x hx h=>q_lie hC R hr hx h⟩;have b0:=H5 hC R hr 0 aB;have b1:=H5 hC R hr 1 aB;have b2:=H5 hC R hr 2 aB;have b3:=H5 hC R hr 3 aB;unfold Excl;simp only[show(0:Int)=((0:Nat):Int)from rfl,show(1:Int)=((1:Nat):Int)from rfl,show(2:Int)=((2:Nat):Int)from rfl,show(3:Int)=((3:Nat):Int)from rfl,b0,b1,b2,b3];omega;have h1:=(qSB hC R hr (k+1) hk).1 h;exact(qSB hC R hr k aB).2 (by push_cast at h1;omega);have q:=wZ hC R hr;have h1:=(qSB hC R hr k hk).1 h;have h3:¬(fF s i).state<3:=λhh=>(by have:=q.2.2.2.2.1 hh;omega);have b2:=H5 hC R hr 2 aB;have b3:=H5 hC R hr 3 aB;rcases (by omega:(fF s i).state=3\/(fF s i).state=4)with e|e;exact .inl (b2.2 e);exact .inr (b3.2 e);have qa:=wZ hC R ha;have qc:=wZ hC R hc;have hcl:=G9 R.sound qa.1 qc.1 hac;unfold mM sZ at hcl;simp only[qDL]at hcl;have:=zal44q.1 hcl.1.1.1 u (qPB hC R ha hx h.1);exact this (decide_eq_true (qPB hC R hc hy h.2));have qa:=wZ hC R ha;have qc:=wZ hC R hc;have hcl:=G9 R.sound qa.1 qc.1 hac;unfold mM sZ at hcl;simp only[qDL]at hcl;have h2:=hcl.1.1.2;rw[qa.2.1,qc.2.1,show oP r q=false from hf,sJ,pD,q_over hC R ha h.1]at h2;exact zal44q.1 h2 u hu (decide_eq_true (qPB hC R hc hk h.2))
end
theorem qVF(hC:COk t)(ht:WfB t)(ha:gQ t<=2000)(R:Rep t m s)(p:Au):GoodX t (yB (qz t) m (cF t p)).vars:=by refine⟨rep_inv hC (Xd hC ht ha R p),λi r hr h=>?_⟩;have S:=R.ok.scanV hC ht ha (cF t p);have hsc:=R.ok.scan hC (cF t p);rw[hsc.2]at h⊢;have h:gV (mG t m (cF t p)) ((bF t i:Int)+1)=true:=h;rw[Xx S R hr]at h;simp only[pQ]at h;show rS (mG t m (cF t p)) (xd t r)=true;rw[Lf hC (λy hy=>by rw[new_in S aB];exact qFW S hy) (kK hr)];exact h.2
theorem obsT_len(hC:COk t):(qGC t).length<=1000000:=by have hlm:=hC.lim;have hPl:=I5 hC t.Ab.length aB;have hOl:=I6 hC t.Ab.length aB;have hLl:=Nh hC t.Ab.length aB;have hpl:=gC (f:=qx t) (c:=1) I0 t.Ab.length;have hol:=gC (f:=M9 t) (c:=1) (λ_=>by simp[M9]) t.Ab.length;have hrl:=gC (f:=qFE t) (c:=1) (λ_=>by simp[qFE]) t.Ab.length;unfold qGC;simp only[xK];unfold Cm I7 qBW;omega
theorem holds_no(hC:COk t){m:Machine}(H:GoodX t m.vars):vL (qGC t) m=some (-1):=by have hl:=obsT_len hC;rw[Holds_eq m qDO (λe he=>by have:=obs_sz hC e he;exact⟨ok_sz 100000 _ this qDO,aB⟩)];unfold qQC;rw[if_neg ?_];rw[Nat.not_lt,Nat.le_iff_lt_or_eq];refine .inr (Eq.symm (List.findIdx_eq_length.2 λe he=>?_));rw[obs_hold hC H e he];rfl
variable {t:Ah}{i:Nat}{m:Machine}{p:Au}{s:Av}
def Ms(t:Ah)(l:List Au):Av:=l.foldl (λs p=>(xV t s p).1) (B7 t)
theorem qUS(t:Ah)(l:List Au){p:Au}(h:l[k]?=some p):Ms t (l.take (k+1))=(xV t (Ms t (l.take k)) p).1:=by unfold Ms;rw[iQ,h,xz];rfl
theorem rep_run(hC:COk t)(ht:WfB t)(ha:gQ t<=2000)(l:List Au):Rep t (Hp t l) (Ms t l):=by unfold Hp Ms;have:∀(l:List Au)(m:Machine)(s:Av),Rep t m s->Rep t (l.foldl (λm p=>yB (qz t) m (cF t p)) m) (l.foldl (λs p=>(xV t s p).1) s):=(by intro l;induction l with|nil=>intro m s h;exact h|cons p r ih=>intro m s h;exact ih _ _ (Xd hC ht ha h p));exact this l _ _ (qVE hC ht ha)
theorem Qr(R:lS t s=true)(p:Au):(xV t s p).2.clear=qEQ t (xV t s p).1:=by unfold xV;rw[if_pos R]
theorem He:rT=some true:=bg
theorem light_t(l:Ar)(L:List Au):sD (Gk l L) λb=>b=true->L.length<=16/\∀y∈L,y.calls.length<=60/\y.cancels.length<=60:=by
 unfold Gk;split;exact tot_some.2 aN;rename_i hc;simp only[lP,decide_eq_true_eq,not_or]at hc;refine fX (P:=λo=>match o with|.inl _=>∀y∈L,y.calls.length<=60/\y.cancels.length<=60|.inr b=>b=false) (pG L aB (λi=>∀y∈L.take i,y.calls.length<=60/\y.cancels.length<=60) aN ?_ ?_) (λ_ h=>tot_some.2 λ_=>⟨aB,h⟩) (λb hb h=>by rw[hb]at h;cases h);intro i e hx hI;have hi:=gJ hx;rw[iL];simp only[aR hx];refine bC (P:=λr=>r=false->e.calls.length<=60/\e.cancels.length<=60) ?_ λr hr=>?_
 iterate 6
  split;exact tot_some.2 aN
 exact tot_some.2 λh=>by have:=of_decide_eq_false h;omega
 cases r with
 |true=>rw[if_pos rfl];exact⟨_,rfl,.inr ⟨_,rfl,rfl⟩⟩
 |false=>
  rw[if_neg fS,yu hi];refine⟨_,rfl,.inl ⟨rfl,λy hy=>?_⟩⟩;rcases (jP hx).1 hy with hy|rfl
  exact hI y hy;exact hr rfl
 intro hI;rw[mF];rw[kH]at hI;exact⟨_,rfl,_,rfl,hI⟩
theorem qKT{p0:Ar}{p1:List Au}(w0:p0.Wf)(w1:p1.length<=reachBytes/\∀y∈p1,Au.Wf y):qk p0 p1=some true:=by obtain⟨⟨t,e⟩,hB,hq⟩:=Build_t w0;obtain⟨b,hb,hl⟩:=light_t p0 p1;dsimp only at hq;unfold qk;rw[hB,aC];dsimp only;rw[hb,aC];cases b with|false=>rw[if_pos (by rfl),aC,if_pos rfl,He];rfl|true=>obtain⟨hl1,hl2⟩:=hl rfl;rw[if_neg aP,aC];by_cases he:e=0;subst he;obtain⟨hk,T⟩:=hq rfl;have hz:=qUH hk T;have hT:=tabk_ok hk T;have ht:=tab_wf hk T;have hC:=qJK hT hz;have hlm:=hC.lim;rw[if_neg aP,qTK hT ht,if_pos hz,aC];by_cases ha:2000<gQ t;rw[if_pos ha];dsimp only;rw[if_neg aP,if_pos rfl,He];rfl;have ha':gQ t<=2000:=aB;have hP:=prg_ok hC ht ha';have hN:=xT t;rw[if_neg ha];dsimp only;rw[if_pos rfl,All_eq hT ht,if_pos hz,if_neg ha,aC];dsimp only;rw[Start_eq t hT,aC,qBF hP,aC];rw[iM p1.length (λk=>((Ms t (p1.take k)).Ab,(Ms t (p1.take k)).lies,(Hp t (p1.take k)).vars,(Hp t (p1.take k)).counts,(Hp t (p1.take k)).halted)) (o:=.inl ((Ms t p1).Ab,(Ms t p1).lies,(Hp t p1).vars,(Hp t p1).counts,(Hp t p1).halted)) (by rfl) aB (λk hk=>?_) qDW,iA];rw[He];rfl;have hk':=iG hk;have hpm:=fV hk;generalize p1[k]=p at hk' hpm;have hR:=rep_run hC ht ha' (p1.take k);have hM:=hR.ok.lens hC;have hR2:=Xd hC ht ha' hR p;have hfit:=fitsB_iff.1 (fD hR.sound);have hpb:=hl2 p hpm;have hst:=qVD hC ha' hR2;have hgd:=qVF hC ht ha' hR p;have hip:pN t p=some (cF t p):=(by rw[qXO t p hT qL qL,if_pos hz]);dsimp only;rw[iL,aR hk'];rw[show(⟨(Hp t (p1.take k)).vars,(Hp t (p1.take k)).counts,(Hp t (p1.take k)).halted⟩:Machine)=Hp t (p1.take k)from rfl,show(⟨(Ms t (p1.take k)).Ab,(Ms t (p1.take k)).lies⟩:Av)=Ms t (p1.take k)from rfl];rw[qXP t _ p hT ht.sok aB aB aB aB,aC];rw[aR hk',hip,aC,qVY p1 hk',qUS t p1 hk'];rw[prg_scan hC ht ha' _ _ aB aB,aC,qXD hT (Ep hz),if_pos hz,aC,holds_no hC hgd,hst];have hclr:=Qr hR.sound p;generalize Hp t (p1.take k)=m at *;generalize Ms t (p1.take k)=s at *;rw[hclr,if_pos rfl,if_pos rfl,aC,aC,if_neg aP];have hlen:(qEQ t (xV t s p).1).length<=1000000:=(by unfold qEQ;rw[y5];omega);generalize qEQ t (xV t s p).1=X at hlen;rw[zI (λj:Nat=>(j:Int)) X.length (s:=(0:Int)) (o:=.inl ((xV t s p).1.Ab,(xV t s p).1.lies,(yB (qz t) m (cF t p)).vars,(yB (qz t) m (cF t p)).counts,(yB (qz t) m (cF t p)).halted)) rfl aB (λj hj=>?_) rB,iA];rw[yu hk];have hx:=iG hj;rw[iL,aR hx,aR hx,Dr,yu hj];rfl;rw[if_pos (by rw[decide_eq_false he];rfl),He];rfl
end Go.Proofs.YtandcfplaooadaaGreatDoor
