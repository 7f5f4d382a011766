/- A part of the proof. No condition. -/
import Derived.Test.YtldaknhjmhlefaaGreatDoorQf
set_option linter.unusedSimpArgs false
set_option linter.unusedVariables false

set_option linter.unusedVariables false
set_option linter.unusedSimpArgs false
set_option linter.unusedSectionVars false
set_option maxHeartbeats 1000000
set_option maxRecDepth 100000
namespace Go.Proofs.YtldaknhjmhlefaaGreatDoor
open Go Go.TL
variable {t:Al}{i:Nat}{V0 V1 W W':List Bool}
theorem all_cg{l:List Ab}(h:∀e∈l,lA W e=lA W' e):l.all (lA W)=l.all (lA W'):=by
 induction l with
 |nil=>rfl
 |cons x l ih=>rw[pT,pT,h x rL,ih λe he=>h e (gg _ he)]
theorem any_cg{l:List Ab}(h:∀e∈l,lA W e=lA W' e):l.any (lA W)=l.any (lA W'):=by
 induction l with
 |nil=>rfl
 |cons x l ih=>rw[nT,nT,h x rL,ih λe he=>h e (gg _ he)]
theorem Ji{l:List Ab}(h:∀e∈l,lA W e=lA W' e):lA W (fX l)=lA W' (fX l):=by rw[pI,pI,all_cg h]
theorem or_cg{l:List Ab}(h:∀e∈l,lA W e=lA W' e):lA W (qX l)=lA W' (qX l):=by rw[uN,uN,any_cg h]
theorem Oy{y:Int}(h:gV W y=gV W' y):lA W (vE y)=lA W' (vE y):=by rw[uF,uF,h]
def AgI(t:Al)(W W':List Bool):Prop:=∀y:Int,y<(tE t:Int)->gV W y=gV W' y
def AgR(t:Al)(i:Nat)(W W':List Bool):Prop:=∀k:Nat,k<bA t i->gV W ((cD t i:Int)+(4+(k:Int)))=gV W' ((cD t i:Int)+(4+(k:Int)))
section
variable (hC:COk t)
include hC
theorem Cv{r:Ak}(hr:r∈t.Ac){s:Int}(hs:s∈r.Aa++r.Ae):2*s+1<(tE t:Int):=by
 have h1:=hC.sec_in hr hs;unfold tE;omega
theorem Jc(hi:i<t.Ac.length){k:Int}(hk:k<=3):uI t i+k<(tE t:Int):=by
 have h1:=hC.lim;unfold uI tE;omega
theorem Gf{r:Ak}(hr:r∈t.Ac)(h:AgI t W W'):lA W (qR t r)=lA W' (qR t r):=by
 refine Ji λe he=>?_;rcases zQN.1 he with he|he
 obtain⟨s,hs,rfl⟩:=zal96q.1 he;have:=Cv hC hr hs;exact Oy (h _ (by omega));obtain⟨x,hx,rfl⟩:=zal96q.1 he;have h1:=hC.set_in hr hx;have h2:=hC.lim;refine Oy (h _ ?_);unfold tE;split<;>omega
theorem empt_cg{r:Ak}(hr:r∈t.Ac)(h:AgI t W W')(h2:AgR t i W W'):lA W (fk t i r)=lA W' (fk t i r):=by
 refine Ji λe he=>?_;obtain⟨k,hk,rfl⟩:=List.mem_mapIdx.1 he;have:=Cv hC hr (sJ _ (fH hk));have hf:=Oy (h (2*r.Aa[k]) (by omega));split;rename_i hkl;refine or_cg λe he=>?_;simp only[zQB,qZ,or_false]at he;rcases he with rfl|rfl
 exact Oy (h2 k hkl);exact hf;exact hf
theorem giv_cg{r:Ak}(hr:t.Ac[i]?=some r)(h:AgI t W W')(h2:AgR t i W W'):lA W (Cu t i r)=lA W' (Cu t i r):=by
 refine Ji λe he=>?_;simp only[zQB,qZ,or_false]at he;rcases he with rfl|rfl
 exact Oy (h _ (Jc hC (zQQ.1 hr).1 (by omega)));exact empt_cg hC (lG hr) h h2
theorem Zy{r:Ak}(hr:t.Ac[i]?=some r)(h:AgI t W W')(h2:AgR t i W W'):lA W (wm t i r)=lA W' (wm t i r):=by
 have hm:=lG hr;have hsec:=hC.secs hm;have hln:bA t i=r.Aa.length-1:=by unfold bA;rw[hr]
 refine or_cg λe he=>?_;obtain⟨k,hk,rfl⟩:=zal96q.1 he;have hk:=zal101q.1 hk;refine Ji λe he=>?_;simp only[zQB,qZ,or_false]at he;rcases he with rfl|rfl
 refine Ji fun e he => ?_;rcases zQN.1 he with he|he
 split at he
 ·rw[zal102q]at he;subst he;have:=h2 (k-1) (by omega);rw[show((k-1:Nat):Int)=(k:Int)-1 by omega]at this;exact Oy this
 cases he;split at he
 ·rw[zal102q]at he;subst he;rw[pY,pY,Oy (h2 k (by omega))]
 cases he;have h3 := (xN hC hm (k := k) (by omega)).1;have:=Cv hC hm (sJ _ (lG h3));exact Oy (h _ (by omega))
end
section
variable {r:Ak}(hr:t.Ac[i]?=some r)
include hr
theorem cX2{P Q:List Ap}{x:Ap}(hx:vW t i r=P++x::Q):∃A B,oI t=A++x::B/\(∀z∈P,z.var∈vs A)/\(∀z∈Q,z.var∈vs (x::B))/\vs (qk t)⊆vs (x::B):=by
 have hi:=(zQQ.1 hr).1;obtain⟨R,hR⟩:=zJ (rt t (vW t)) hi;rw[em hr,hx]at hR;refine⟨yN t++((List.range i).flatMap (rt t (vW t))++P),Q++R++yM t++qk t++Dv t,?_,λz hz=>y8 (by simp[hz]),λz hz=>y8 (by simp[hz]),λy hy=>?_⟩;unfold oI;rw[show rN t=_ from hR];simp only[lM,zb];unfold vs at *; simp only[mU,nE,zQN,zQB]at *; exact .inr (.inl (.inr hy))
theorem cX3:∃A B,oI t=A++⟨1,gR t i+4,0,qg t i r⟩::B/\vs (rN t)⊆vs A/\vs ((List.range i).flatMap (rt t (wx t)))⊆vs A:=by
 have hi:=(zQQ.1 hr).1;obtain⟨R,hR⟩:=zJ (rt t (wx t)) hi;rw[em hr]at hR;refine⟨yN t++rN t++((List.range i).flatMap (rt t (wx t))),R++qk t++Dv t,?_,λy hy=>?_,λy hy=>?_⟩;unfold oI;rw[show yM t=_ from hR];unfold wx;simp only[lM,zb,gE];unfold vs at *; simp only[mU,zQN]at *; exact .inl (.inr hy);unfold vs at *; simp only[mU,zQN]at *; exact .inr hy
theorem cX4:∃A B,oI t=A++⟨1,(cD t i:Int)+0,0,qX [oU t i 0,oU t i 4]⟩::B/\vs (rN t)⊆vs A/\vs (yM t)⊆vs A:=by
 have hi:=(zQQ.1 hr).1;obtain⟨R,hR⟩:=zJ (B5 t) hi;refine⟨yN t++rN t++yM t++((List.range i).flatMap (B5 t)),R++Dv t,?_,λy hy=>?_,λy hy=>?_⟩;unfold oI;rw[show qk t=_ from hR];unfold B5;simp only[lM,zb,gE];unfold vs at *; simp only[mU,zQN]at *; exact .inl (.inl (.inr hy));unfold vs at *; simp only[mU,zQN]at *; exact .inl (.inr hy)
theorem Mm{x:Ap}(h:x∈vW t i r):x.var∈vs (rN t):=y8 (rt_mem.2 ⟨i,r,(zQQ.1 hr).1,hr,h⟩)
theorem Y6:gR t i+3∈vs (rN t):=Mm hr (x:=⟨1,gR t i+3,0,qX [oU t i 0,qE t i 1,qE t i 2,qE t i 3]⟩) (by unfold vW;simp)
theorem wX_aux0:gR t i+0∈vs (rN t):=Mm hr (x:=⟨1,gR t i+0,0,bw t i r⟩) (by unfold vW;simp)
theorem wX_rel{k:Nat}(hk:k<bA t i):(cD t i:Int)+(4+(k:Int))∈vs (rN t):=by
 have h:=Mm hr (x:=⟨1,(cD t i:Int)+(4+((bA t i-1-(bA t i-1-k):Nat):Int)),0,_⟩) (by unfold vW;simp only[zQN];exact .inl (.inr (relsX_mem.2 ⟨bA t i-1-k,by omega,rfl⟩)));dsimp only at h
 rwa [show bA t i-1-(bA t i-1-k)=k by omega]at h
theorem F8{n:Nat}(hn:i<n):gR t i+4∈vs ((List.range n).flatMap (rt t (wx t))):=y8 (f:=Ap.var) (a:=⟨1,gR t i+4,0,qg t i r⟩) (rt_mem.2 ⟨i,r,hn,hr,rL⟩)
end
theorem wX_set(hi:i<t.Ac.length):(cD t i:Int)+0∈vs (qk t):=y8 (f:=Ap.var) (a:=⟨1,(cD t i:Int)+0,0,_⟩) (zal94q.2 ⟨i,zal101q.2 hi,zal102q.2 rfl⟩)
theorem cX5{p:Nat}{el:Int}(hp:t.Ag[p]?=some el):∃A B,oI t=A++⟨1,(tE t:Int)+(p:Int),0,Ll t p el⟩::B/\vs (yM t)⊆vs A:=by
 have hi:=(zQQ.1 hp).1;obtain⟨R,hR⟩:=zJ (pt t (Nu t)) hi;rw[Zk hp]at hR;refine⟨yN t++rN t++yM t++qk t++((List.range p).flatMap (pt t (Nu t))),R,?_,λy hy=>?_⟩;unfold oI;rw[show Dv t=_ from hR];unfold Nu;simp only[lM,zb,gE];unfold vs at *; simp only[mU,zQN]at *; exact .inl (.inl (.inr hy))
structure ScX (t:Al) (V0 V1:List Bool):Prop where
 inp:AgI t V1 V0
 rung:∀A x B,oI t=A++x::B->x.kind=1->∃W,(∀y∈vs A,gV W y=gV V1 y)/\(∀y∈vs (x::B),gV W y=gV V0 y)/\AgI t W V0/\(∀y,gV W y=gV V0 y\/gV W y=gV V1 y)/\gV V1 x.var=lA W x.expr
theorem scX(hC:COk t)(hc:wN (Kf t)=0){C:List Int}{V:List Bool}(hv:V.length=uL t)(hcn:C.length=(oI t).length):ScX t V (tG (List.zip (oI t) C) V):=by
 obtain⟨h1,h2,h3,h4,h5⟩:=zO hc;have hn:=ku hC
 have hin:∀z∈oI t,(tE t:Int)<=z.var/\z.var<(uL t:Int):=λz hz=>by
  have h:=h4 z hz;unfold E4 at h;simp only[wP,decide_eq_true_eq]at h;rw[<- hn];exact h.2.1
 refine⟨λy hy=>B7 (n:=uL t) _ _ (λz hz=>?_) hv (λz hz he=>?_),λA x B e hk=>?_⟩;have:=hin z.1 (Bu (show(z.1,z.2)∈_ from hz)).1;omega;have:=hin z.1 (Bu (show(z.1,z.2)∈_ from hz)).1;omega;have s := Xa (n := uL t) (A := A) (B := B) (x := x) (C := C) (V := V) (by rw [<- e]; exact hcn) hv (by rw [<- e]; exact fun z hz => by have := hin z hz; omega) (by rw [<- e]; exact h5);rw[<- e]at s;obtain⟨W,w1,w2,w3,-⟩:=s;have hnd:(vs (A++x::B)).Nodup:=by rw[<- e];exact h5
 unfold vs at hnd;rw[mU,zal106q]at hnd;refine⟨W,w1,λy hy=>w2 y λhy2=>hnd.2.2 y hy2 y hy rfl,λy hy=>w2 y λhy2=>?_,λy=>?_,?_⟩;obtain⟨z,hz,rfl⟩:=zal96q.1 hy2;have:=hin z (by rw[e];exact sJ _ hz);omega;by_cases hy:y∈vs A
 ·exact .inr (w1 y hy)
 exact .inl (w2 y hy);rw[w3];unfold Ol;rw[if_neg (by omega)]
abbrev sv(t:Al)(V:List Bool)(i:Nat)(k:Int):Bool:=gV V ((cD t i:Int)+k)
abbrev av(t:Al)(V:List Bool)(i:Nat)(k:Int):Bool:=gV V (gR t i+k)
abbrev rv(t:Al)(V:List Bool)(i k:Nat):Bool:=gV V ((cD t i:Int)+(4+(k:Int)))
theorem rel_Q{r:Ak}{Q:List Ap}{B:List Int}(hQ:∀z∈Q,z.var∈B)(h:∀z∈qA t i r (bA t i),z∈Q){k:Nat}(hk:k<bA t i):(cD t i:Int)+(4+(k:Int))∈B:=by
 have:=hQ _ (h _ (relsX_mem.2 ⟨bA t i-1-k,by omega,rfl⟩));dsimp only at this
 rwa [show bA t i-1-(bA t i-1-k)=k by omega]at this
section
variable (hC:COk t)(S:ScX t V0 V1){r:Ak}(hr:t.Ac[i]?=some r)
include hC S hr
theorem f_keep(h:av t V1 i 0=true):sv t V0 i 0=true/\lA V0 (qR t r)=false:=by
 have hi:=(zQQ.1 hr).1;obtain⟨A,B,e,hP,hQ,h6⟩:=cX2 hr (P:=[]) (x:=⟨1,gR t i+0,0,bw t i r⟩) (Q:=([⟨1,gR t i+1,0,zk t i r⟩,⟨1,gR t i+2,0,zI t i r⟩,⟨1,(cD t i:Int)+1,0,nC t i r⟩]++qA t i r (bA t i))++[⟨1,(cD t i:Int)+2,0,oU t i 1⟩,⟨1,(cD t i:Int)+3,0,oU t i 2⟩,⟨1,gR t i+3,0,qX [oU t i 0,qE t i 1,qE t i 2,qE t i 3]⟩]) rfl;obtain⟨W,w1,w2,w3,w4,w5⟩:=S.rung _ _ _ e rfl;dsimp only at w5;have h:=w5.symm.trans h;unfold bw at h;rw[pI]at h;simp only[pT,wG,wH,pY,uF,wP,lW,Gf hC (lG hr) w3]at h;rw[w2 _ (h6 (wX_set hi))]at h;exact⟨h.1,h.2.2⟩
theorem f_use(h:av t V1 i 1=true):(sv t V0 i 1=true/\gV V0 (2*nZ r)=false)\/(sv t V0 i 3=true/\lA V0 (wm t i r)=false)\/(sv t V0 i 2=true/\(gV V0 (uI t i+0)=false\/lA V0 (Cu t i r)=false)):=by
 have hi:=(zQQ.1 hr).1;have hm:=lG hr;obtain⟨A,B,e,hP,hQ,h6⟩:=cX2 hr (P:=[⟨1,gR t i+0,0,bw t i r⟩]) (x:=⟨1,gR t i+1,0,zk t i r⟩) (Q:=([⟨1,gR t i+2,0,zI t i r⟩,⟨1,(cD t i:Int)+1,0,nC t i r⟩]++qA t i r (bA t i))++[⟨1,(cD t i:Int)+2,0,oU t i 1⟩,⟨1,(cD t i:Int)+3,0,oU t i 2⟩,⟨1,gR t i+3,0,qX [oU t i 0,qE t i 1,qE t i 2,qE t i 3]⟩]) rfl;obtain⟨W,w1,w2,w3,w4,w5⟩:=S.rung _ _ _ e rfl;dsimp only at w5;have h:=w5.symm.trans h;have hR:AgR t i W V0:=λk hk=>w2 _ (rel_Q (r:=r) hQ (λz hz=>by simp[hz]) hk);have e1:=w2 _ (hQ ⟨1,(cD t i:Int)+1,0,nC t i r⟩ (by simp));have e2:=w2 _ (hQ ⟨1,(cD t i:Int)+2,0,oU t i 1⟩ (by simp));have e3:=w2 _ (hQ ⟨1,(cD t i:Int)+3,0,oU t i 2⟩ (by simp));dsimp only at e1 e2 e3;have ef:=w3 (2*nZ r) (by have:=Cv hC hm (sJ _ (lG (wo hC hm).1));omega);have ea:=w3 _ (Jc hC hi (k:=0) (by omega));unfold zk at h;rw[uN]at h;simp only[nT,vd,ce,pT,wG,wH,pI,uN,pY,uF,e1,e2,e3,ef,ea,giv_cg hC hr w3 hR,Zy hC hr w3 hR,lC,wP,lW]at h;rcases h with h|h|⟨h,h2|h2⟩
 exact .inl h;exact .inr (.inl h);exact .inr (.inr ⟨h,.inl h2⟩);exact .inr (.inr ⟨h,.inr h2.1⟩)
theorem f_hold(h:av t V1 i 2=true):(sv t V0 i 1=true/\gV V0 (2*nZ r)=true/\(gV V0 (uI t i+3)=true\/lA V0 (qR t r)=false))\/(sv t V0 i 2=true/\gV V0 (uI t i+0)=true/\lA V0 (Cu t i r)=true)\/(sv t V0 i 3=true/\lA V0 (wm t i r)=true):=by
 have hi:=(zQQ.1 hr).1;have hm:=lG hr;obtain⟨A,B,e,hP,hQ,h6⟩:=cX2 hr (P:=[⟨1,gR t i+0,0,bw t i r⟩,⟨1,gR t i+1,0,zk t i r⟩]) (x:=⟨1,gR t i+2,0,zI t i r⟩) (Q:=([⟨1,(cD t i:Int)+1,0,nC t i r⟩]++qA t i r (bA t i))++[⟨1,(cD t i:Int)+2,0,oU t i 1⟩,⟨1,(cD t i:Int)+3,0,oU t i 2⟩,⟨1,gR t i+3,0,qX [oU t i 0,qE t i 1,qE t i 2,qE t i 3]⟩]) rfl;obtain⟨W,w1,w2,w3,w4,w5⟩:=S.rung _ _ _ e rfl;dsimp only at w5;have h:=w5.symm.trans h;have hR:AgR t i W V0:=λk hk=>w2 _ (rel_Q (r:=r) hQ (λz hz=>by simp[hz]) hk);have e1:=w2 _ (hQ ⟨1,(cD t i:Int)+1,0,nC t i r⟩ (by simp));have e2:=w2 _ (hQ ⟨1,(cD t i:Int)+2,0,oU t i 1⟩ (by simp));have e3:=w2 _ (hQ ⟨1,(cD t i:Int)+3,0,oU t i 2⟩ (by simp));dsimp only at e1 e2 e3;have ef:=w3 (2*nZ r) (by have:=Cv hC hm (sJ _ (lG (wo hC hm).1));omega);have ea:=w3 _ (Jc hC hi (k:=0) (by omega));have ec:=w3 _ (Jc hC hi (k:=3) (by omega));unfold zI at h;rw[uN]at h;simp only[nT,vd,ce,pT,wG,wH,pI,uN,pY,uF,e1,e2,e3,ef,ea,ec,giv_cg hC hr w3 hR,Zy hC hr w3 hR,Gf hC hm w3,lC,wP,lW]at h;rcases h with h|h|h
 exact .inl ⟨h.1,h.2.1,h.2.2.1⟩;exact .inr (.inl h);exact .inr (.inr ⟨h.1,h.2.1⟩)
theorem N2(h:sv t V1 i 1=true):(sv t V0 i 0=true\/sv t V0 i 1=true)/\gV V0 (uI t i+3)=false/\lA V0 (qR t r)=true:=by
 have hi:=(zQQ.1 hr).1;obtain⟨A,B,e,hP,hQ,h6⟩:=cX2 hr (P:=[⟨1,gR t i+0,0,bw t i r⟩,⟨1,gR t i+1,0,zk t i r⟩,⟨1,gR t i+2,0,zI t i r⟩]) (x:=⟨1,(cD t i:Int)+1,0,nC t i r⟩) (Q:=qA t i r (bA t i)++[⟨1,(cD t i:Int)+2,0,oU t i 1⟩,⟨1,(cD t i:Int)+3,0,oU t i 2⟩,⟨1,gR t i+3,0,qX [oU t i 0,qE t i 1,qE t i 2,qE t i 3]⟩]) rfl;obtain⟨W,w1,w2,w3,w4,w5⟩:=S.rung _ _ _ e rfl;dsimp only at w5;have h:=w5.symm.trans h;have e1:=w2 _ (rL (a:=(⟨1,(cD t i:Int)+1,0,nC t i r⟩:Ap).var));dsimp only at e1;unfold nC at h;rw[pI]at h;simp only[nT,vd,ce,pT,wG,wH,uN,pY,uF,e1,w2 _ (h6 (wX_set hi)),w3 _ (Jc hC hi (k:=3) (by omega)),Gf hC (lG hr) w3,lC,wP,lW]at h;exact h
theorem f_s2:sv t V1 i 2=av t V1 i 1:=by
 obtain⟨A,B,e,hP,hQ,h6⟩:=cX2 hr (P:=[⟨1,gR t i+0,0,bw t i r⟩,⟨1,gR t i+1,0,zk t i r⟩,⟨1,gR t i+2,0,zI t i r⟩,⟨1,(cD t i:Int)+1,0,nC t i r⟩]++qA t i r (bA t i)) (x:=⟨1,(cD t i:Int)+2,0,oU t i 1⟩) (Q:=[⟨1,(cD t i:Int)+3,0,oU t i 2⟩,⟨1,gR t i+3,0,qX [oU t i 0,qE t i 1,qE t i 2,qE t i 3]⟩]) rfl;obtain⟨W,w1,w2,w3,w4,w5⟩:=S.rung _ _ _ e rfl;dsimp only at w5;rw[uF,w1 _ (hP ⟨1,gR t i+1,0,zk t i r⟩ (by simp))]at w5;exact w5
theorem f_s3:sv t V1 i 3=av t V1 i 2:=by
 obtain⟨A,B,e,hP,hQ,h6⟩:=cX2 hr (P:=[⟨1,gR t i+0,0,bw t i r⟩,⟨1,gR t i+1,0,zk t i r⟩,⟨1,gR t i+2,0,zI t i r⟩,⟨1,(cD t i:Int)+1,0,nC t i r⟩]++qA t i r (bA t i)++[⟨1,(cD t i:Int)+2,0,oU t i 1⟩]) (x:=⟨1,(cD t i:Int)+3,0,oU t i 2⟩) (Q:=[⟨1,gR t i+3,0,qX [oU t i 0,qE t i 1,qE t i 2,qE t i 3]⟩]) (by unfold vW;simp);obtain⟨W,w1,w2,w3,w4,w5⟩:=S.rung _ _ _ e rfl;dsimp only at w5;rw[uF,w1 _ (hP ⟨1,gR t i+2,0,zI t i r⟩ (by simp))]at w5;exact w5
theorem f_act:av t V1 i 3=true↔av t V1 i 0=true\/sv t V1 i 1=true\/sv t V1 i 2=true\/sv t V1 i 3=true:=by
 obtain⟨A,B,e,hP,hQ,h6⟩:=cX2 hr (P:=[⟨1,gR t i+0,0,bw t i r⟩,⟨1,gR t i+1,0,zk t i r⟩,⟨1,gR t i+2,0,zI t i r⟩,⟨1,(cD t i:Int)+1,0,nC t i r⟩]++qA t i r (bA t i)++[⟨1,(cD t i:Int)+2,0,oU t i 1⟩,⟨1,(cD t i:Int)+3,0,oU t i 2⟩]) (x:=⟨1,gR t i+3,0,qX [oU t i 0,qE t i 1,qE t i 2,qE t i 3]⟩) (Q:=[]) (by unfold vW;simp);obtain⟨W,w1,w2,w3,w4,w5⟩:=S.rung _ _ _ e rfl;dsimp only at w5;have e0:=w1 _ (hP ⟨1,gR t i+0,0,bw t i r⟩ (by simp));have e1:=w1 _ (hP ⟨1,(cD t i:Int)+1,0,nC t i r⟩ (by simp));have e2:=w1 _ (hP ⟨1,(cD t i:Int)+2,0,oU t i 1⟩ (by simp));have e3:=w1 _ (hP ⟨1,(cD t i:Int)+3,0,oU t i 2⟩ (by simp));dsimp only at e0 e1 e2 e3;rw[uN]at w5;simp only[nT,vd,ce,uF,e0,e1,e2,e3]at w5;rw[show av t V1 i 3=_ from w5];simp only[lC]
theorem Z2{k:Nat}(hk:k<bA t i):(rv t V1 i k=true->(av t V1 i 1=true\/av t V1 i 2=true)/\(rv t V0 i k=true\/(0<k->rv t V0 i (k-1)=true\/rv t V1 i (k-1)=true)))/\((av t V1 i 1=true\/av t V1 i 2=true)->rv t V0 i k=true->rv t V1 i k=true):=by
 have hx:(⟨1,(cD t i:Int)+(4+(k:Int)),0,Mr t i r k⟩:Ap)∈qA t i r (bA t i):=relsX_mem.2 ⟨bA t i-1-k,by omega,by rw[show bA t i-1-(bA t i-1-k)=k by omega]⟩;obtain⟨R1,R2,hR⟩:=List.append_of_mem hx;obtain⟨A,B,e,hP,hQ,h6⟩:=cX2 hr (P:=[⟨1,gR t i+0,0,bw t i r⟩,⟨1,gR t i+1,0,zk t i r⟩,⟨1,gR t i+2,0,zI t i r⟩,⟨1,(cD t i:Int)+1,0,nC t i r⟩]++R1) (x:=⟨1,(cD t i:Int)+(4+(k:Int)),0,Mr t i r k⟩) (Q:=R2++[⟨1,(cD t i:Int)+2,0,oU t i 1⟩,⟨1,(cD t i:Int)+3,0,oU t i 2⟩,⟨1,gR t i+3,0,qX [oU t i 0,qE t i 1,qE t i 2,qE t i 3]⟩]) (by unfold vW;rw[hR];simp);obtain⟨W,w1,w2,w3,w4,w5⟩:=S.rung _ _ _ e rfl;dsimp only at w5;have e1:=w1 _ (hP ⟨1,gR t i+1,0,zk t i r⟩ (by simp));have e2:=w1 _ (hP ⟨1,gR t i+2,0,zI t i r⟩ (by simp));have e3:=w2 _ (rL (a:=(⟨1,(cD t i:Int)+(4+(k:Int)),0,Mr t i r k⟩:Ap).var));dsimp only at e1 e2 e3
 have hat:lA W (qCU t i k)=true->0<k->rv t V0 i (k-1)=true\/rv t V1 i (k-1)=true:=λh h0=>by
  unfold qCU at h;rw[pI,List.all_append,if_pos h0,wP,pT,wP,uF]at h;have h:=h.1.1;rw[show(cD t i:Int)+(4+((k:Int)-1))=(cD t i:Int)+(4+((k-1:Nat):Int)) by omega]at h;rcases w4 ((cD t i:Int)+(4+((k-1:Nat):Int)))with g|g
  exact .inl (g.symm.trans h);exact .inr (g.symm.trans h)
 unfold Mr at w5;rw[pI]at w5;simp only[nT,vd,ce,pT,wG,wH,uN,uF,e1,e2,e3]at w5;rw[show rv t V1 i k=_ from w5,wP,lC,lC];refine⟨λh=>⟨h.1,h.2.imp id λh2=>?_⟩,λh h2=>⟨h,.inl h2⟩⟩;rw[pI]at h2;simp only[pT,wG,wH,wP]at h2;exact hat h2.2.2.2.1
theorem N3(h:av t V1 i 4=true):av t V1 i 3=false/\∀j q,t.Ac[j]?=some q->j≠i->0<=nI t q r->(av t V1 j 3=true->nI t q r<(bA t j:Int)/\gV V1 ((cD t j:Int)+(4+nI t q r))=true)/\(j<i->av t V1 j 4=false):=by
 obtain⟨A,B,e,h2,h3⟩:=cX3 hr;obtain⟨W,w1,w2,w3,w4,w5⟩:=S.rung _ _ _ e rfl;dsimp only at w5;have h:=w5.symm.trans h;unfold qg at h;rw[pI,List.all_append,List.all_append,List.all_append,pT,pT,pY,uF,uF,w1 _ (h2 (Y6 hr))]at h;simp only[wP,lW]at h;refine⟨h.1.1.1.2.1,λj q hq hji hb=>?_⟩;have hj:=(zQQ.1 hq).1;have hz:=zQT.1 h.1.2;unfold apsX at hz;unfold qAK at hz;have hz2:=hz (fS (if j<i then qX [if nI t q r<(bA t j:Int)then fX [oU t j 3,fS (nM t j (nI t q r))]else oU t j 3,oU t j 4]else if nI t q r<(bA t j:Int)then fX [oU t j 3,fS (nM t j (nI t q r))]else oU t j 3)) (rt_mem.2 ⟨j,q,hj,hq,by rw[if_neg (by omega)];exact zal102q.2 rfl⟩)
 have hA:lA W (if nI t q r<(bA t j:Int)then fX [oU t j 3,fS (nM t j (nI t q r))]else oU t j 3)=false/\(j<i->gV W (gR t j+4)=false):=by
  rw[pY,lW]at hz2;by_cases hlt:j<i;rw[if_pos hlt,uN,nT,nT,uF]at hz2;simp only[Bool.or_eq_false_iff]at hz2;exact⟨hz2.1,λ_=>hz2.2.1⟩;rw[if_neg hlt]at hz2;exact⟨hz2,λh=>absurd h hlt⟩
 refine⟨λh3j=>?_,λhlt=>(w1 _ (h3 (F8 hq hlt))).symm.trans (hA.2 hlt)⟩;have hA:=hA.1;have h3j:gV W (gR t j+3)=true:=(w1 _ (h2 (Y6 hq))).trans h3j;by_cases hl:nI t q r<(bA t j:Int);refine⟨hl,?_⟩;rw[if_pos hl,pI]at hA;simp only[pT,wG,wH,pY,uF,h3j,yB,Bool.not_eq_false']at hA;obtain⟨b,hb⟩:∃b:Nat,nI t q r=(b:Int):=⟨(nI t q r).toNat,by omega⟩;rw[hb]at hA hl⊢;rw[<- w1 _ (h2 (wX_rel hq (k:=b) (by omega)))];exact hA;rw[if_neg hl,uF,h3j]at hA;cases hA
theorem f_set:sv t V1 i 0=true↔av t V1 i 0=true\/av t V1 i 4=true:=by
 have hi:=(zQQ.1 hr).1;obtain⟨A,B,e,h2,h3⟩:=cX4 hr;obtain⟨W,w1,w2,w3,w4,w5⟩:=S.rung _ _ _ e rfl;dsimp only at w5;rw[uN]at w5;simp only[nT,vd,ce,uF,w1 _ (h2 (wX_aux0 hr)),w1 _ (h3 (F8 hr hi))]at w5;rw[show sv t V1 i 0=_ from w5,lC]
end
theorem f_lie(S:ScX t V0 V1){p:Nat}{el:Int}(hp:t.Ag[p]?=some el):gV V1 ((tE t:Int)+(p:Int))=true↔(∃j q,t.Ac[j]?=some q/\(⟨el,2⟩:Ad)∈fM (dI q)/\av t V1 j 4=true)\/(gV V0 ((tE t:Int)+(p:Int))=true/\¬∃j q,t.Ac[j]?=some q/\(⟨el,1⟩:Ad)∈fM (dI q)/\av t V1 j 4=true):=by
 obtain⟨A,B,e,h3⟩:=cX5 hp;obtain⟨W,w1,w2,w3,w4,w5⟩:=S.rung _ _ _ e rfl;dsimp only at w5;have e1:=w2 _ (rL (a:=(⟨1,(tE t:Int)+(p:Int),0,Ll t p el⟩:Ap).var));dsimp only at e1
 have hw (pos:Int):(oH t el pos t.Ac.length).any (lA W)=true↔∃j q,t.Ac[j]?=some q/\(⟨el,pos⟩:Ad)∈fM (dI q)/\av t V1 j 4=true:=by
  rw[zQU];unfold oH;constructor;rintro⟨x,hx,hv⟩;obtain⟨j,q,hj,hq,hx⟩:=rt_mem.1 hx;unfold vi at hx;split at hx;rename_i hm;rw[zal102q]at hx;subst hx;rw[uF,w1 _ (h3 (F8 hq hj))]at hv;exact⟨j,q,hq,hm,hv⟩;cases hx;rintro⟨j,q,hq,hm,hv⟩;have hj:=(zQQ.1 hq).1;refine⟨oU t j 4,rt_mem.2 ⟨j,q,hj,hq,by unfold vi;rw[if_pos hm];exact zal102q.2 rfl⟩,?_⟩;rw[uF,w1 _ (h3 (F8 hq hj))];exact hv
 rw[w5];unfold Ll;rw[uN,nT,nT,uN,pI,pT,pT,pY,uN,uF,e1];simp only[vd,wG,ce,wH,lC,wP,lW,hw,<- Bool.not_eq_true]
variable {t:Al}{i:Nat}{V V0 V1:List Bool}
def qu(t:Al)(V:List Bool)(i:Nat):Prop:=sv t V i 0=true\/sv t V i 1=true\/sv t V i 2=true\/sv t V i 3=true
def Lk(t:Al)(V:List Bool)(i k:Nat):Prop:=qu t V i/\(k<bA t i->rv t V i k=false)
def qCQ(t:Al)(V:List Bool)(i:Nat):Prop:=¬(sv t V i 1=true/\sv t V i 0=true)/\¬(sv t V i 2=true/\sv t V i 0=true)/\¬(sv t V i 2=true/\sv t V i 1=true)/\¬(sv t V i 3=true/\sv t V i 0=true)/\¬(sv t V i 3=true/\sv t V i 1=true)/\¬(sv t V i 3=true/\sv t V i 2=true)
def kxN(t:Al)(i:Nat)(r:Ak)(x:Ad):Nat:=if x∈r.An\/x∈r.Ax then bA t i else match dU r.Aa (mY t x.el)with
 |some k=>k
 |none=>bA t i
def L8(t:Al)(V:List Bool)(x:Ad):Prop:=gV V ((tE t:Int)+qU t x.el)=true↔¬x.pos=1
structure InvX (t:Al) (V:List Bool):Prop where
 one:∀i r,t.Ac[i]?=some r->qCQ t V i
 rel:∀i r,t.Ac[i]?=some r->∀k,k+1<bA t i->rv t V i (k+1)=true->rv t V i k=true
 use:∀i r,t.Ac[i]?=some r->∀k,k<bA t i->rv t V i k=true->sv t V i 2=true\/sv t V i 3=true
 path:∀a c r q,t.Ac[a]?=some r->t.Ac[c]?=some q->a≠c->∀(x y:Nat)(s:Int),r.Aa[x]?=some s->q.Aa[y]?=some s->¬(Lk t V a x/\Lk t V c y)
 over:∀a c r q,t.Ac[a]?=some r->t.Ac[c]?=some q->a≠c->mO r q=false->∀s∈r.Ae,∀k:Nat,q.Aa[k]?=some s->¬(qu t V a/\Lk t V c k)
 lie:∀i r,t.Ac[i]?=some r->∀x∈fM (dI r),Lk t V i (kxN t i r x)->L8 t V x
def PrvX(t:Al)(V:List Bool):Prop:=∀i r,t.Ac[i]?=some r->sv t V i 1=true->lA V (qR t r)=true
theorem inv_dead(h:∀y,gV V y=false):InvX t V:=by
 have hl:∀i,¬qu t V i:=λi hl=>by
  unfold qu at hl;simp only[h,gk,or_self]at hl
 refine⟨λi r hr=>?_,λi r hr k hk h1=>?_,λi r hr k hk h1=>?_,λa c r q ha hc hac x y s hx hy h1=>hl _ h1.1.1,λa c r q ha hc hac hf s hs k hk h1=>hl _ h1.1,λi r hr x hx h1=>absurd h1.1 (hl _)⟩;unfold qCQ;simp[h];exact absurd ((h _).symm.trans h1) gB;exact absurd ((h _).symm.trans h1) gB
theorem Vc{f:Nat->Bool}{n:Nat}(h:∀k,k+1<n->f (k+1)=true->f k=true):∀d k,k+d<n->f (k+d)=true->f k=true
 |0,k,_,h2=>h2
 |d+1,k,h1,h2=>Vc h d k (by omega) (h (k+d) (by omega) h2)
theorem Ij{r:Ak}(hr:t.Ac[i]?=some r):bA t i=r.Aa.length-1:=by unfold bA;rw[hr]
section
variable (hC:COk t)(S:ScX t V0 V1)
include hC S
section
variable {r:Ak}(hr:t.Ac[i]?=some r)
include hr
theorem Mk:qu t V1 i↔av t V1 i 3=true\/av t V1 i 4=true:=by
 have a:=f_act hC S hr;have s:=f_set hC S hr;unfold qu;constructor;rintro(h|h)
 ·rcases s.1 h with h|h
  ·exact .inl (a.2 (.inl h))
  exact .inr h
 exact .inl (a.2 (.inr h));rintro(h|h)
 ·rcases a.1 h with h|h
  ·exact .inl (s.2 (.inl h))
  exact .inr h
 exact .inl (s.2 (.inr h))
theorem x_excl(e:qCQ t V0 i):qCQ t V1 i:=by
 have k:=f_keep hC S hr;have u:=f_use hC S hr;have h:=f_hold hC S hr;have c:=N2 hC S hr;have s2:=f_s2 hC S hr;have s3:=f_s3 hC S hr;have a:=f_act hC S hr;have s0:=f_set hC S hr;have l:=λh=>(N3 hC S hr h).1
 have fp:lA V0 (qR t r)=true->gV V0 (2*nZ r)=true:=λhp=>by
  unfold qR at hp;rw[pI,zQT]at hp;have:=hp (gG (nZ r)) (sJ _ (y8 (f:=gG) (sJ _ (lG (wo hC (lG hr)).1))))
  rwa [uF]at this
 rw[s2,s3]at a;obtain⟨e1,e2,e3,e4,e5,e6⟩:=e;unfold qCQ;rw[s2,s3];generalize lA V0 (qR t r)=pr at *;generalize lA V0 (Cu t i r)=gi at *;generalize lA V0 (wm t i r)=he at *;generalize gV V0 (2*nZ r)=fi at *;generalize gV V0 (uI t i+0)=k0 at *;generalize gV V0 (uI t i+3)=k3 at *;generalize sv t V0 i 0=o0 at *;generalize sv t V0 i 1=o1 at *;generalize sv t V0 i 2=o2 at *;generalize sv t V0 i 3=o3 at *;generalize sv t V1 i 0=n0 at *;generalize sv t V1 i 1=n1 at *;generalize av t V1 i 0=a0 at *;generalize av t V1 i 1=a1 at *;generalize av t V1 i 2=a2 at *;generalize av t V1 i 3=a3 at *;generalize av t V1 i 4=a4 at *;clear s2 s3;refine⟨?_,?_,?_,?_,?_,?_⟩<;>grind
theorem x_rel(H:InvX t V0){k:Nat}(hk:k+1<bA t i)(h:rv t V1 i (k+1)=true):rv t V1 i k=true:=by
 obtain⟨h1,h2⟩:=(Z2 hC S hr hk).1 h;have h3:=(Z2 hC S hr (k:=k) (by omega)).2 h1;rcases h2 with h2|h2
 exact h3 (H.rel i r hr k hk h2);rcases h2 (by omega) with h2 | h2
 ·exact h3 h2
 exact h2
theorem x_use{k:Nat}(hk:k<bA t i)(h:rv t V1 i k=true):sv t V1 i 2=true\/sv t V1 i 3=true:=by
 rw[f_s2 hC S hr,f_s3 hC S hr];exact((Z2 hC S hr hk).1 h).1
theorem Ig(H:InvX t V0){k:Nat}(h3:av t V1 i 3=true)(h:Lk t V1 i k):Lk t V0 i k:=by
 have a:=(f_act hC S hr).1 h3;rw[f_s2 hC S hr,f_s3 hC S hr]at a;obtain⟨e1,e2,e3,e4,e5,e6⟩:=H.one i r hr;have kk:=f_keep hC S hr;have c:=N2 hC S hr;refine⟨?_,λhk=>?_⟩;rcases a with a|a|a|a
 ·exact .inl (kk a).1
 exact(c a).1.imp id .inl;rcases f_use hC S hr a with h|h|h
 ·exact .inr (.inl h.1)
 exact .inr (.inr (.inr h.1));exact .inr (.inr (.inl h.1));rcases f_hold hC S hr a with h|h|h
 ·exact .inr (.inl h.1)
 exact .inr (.inr (.inl h.1));exact .inr (.inr (.inr h.1))
 cases ho:rv t V0 i k with
 |false=>rfl
 |true=>
  have hu:=H.use i r hr k hk ho
  have ha:av t V1 i 1=true\/av t V1 i 2=true:=by
   rcases a with a|a|a|a
   rcases hu with hu|hu
   ·exact absurd ⟨hu,(kk a).1⟩ e2
   exact absurd ⟨hu,(kk a).1⟩ e4;rcases (c a).1 with g|g<;>rcases hu with hu|hu
   ·exact absurd ⟨hu,g⟩ e2
   exact absurd ⟨hu,g⟩ e4;exact absurd ⟨hu,g⟩ e3;exact absurd ⟨hu,g⟩ e5;exact .inl a;exact .inr a
  have:=(Z2 hC S hr hk).2 ha ho;rw[h.2 hk]at this;cases this
end
theorem Yh(H:InvX t V0){a c:Nat}{r q:Ak}(hra:t.Ac[a]?=some r)(hrc:t.Ac[c]?=some q)(hac:a≠c){k:Nat}(hk:(k:Int)<=nI t r q)(h4:av t V1 c 4=true)(h3:av t V1 a 3=true)(hL:Lk t V1 a k):False:=by
 obtain⟨hl,hg⟩:=((N3 hC S hrc h4).2 a r hra hac (by omega)).1 h3;obtain⟨b,hb⟩:∃b:Nat,nI t r q=(b:Int):=⟨(nI t r q).toNat,by omega⟩;rw[hb]at hl hg hk;have:=Vc (f:=λk=>rv t V1 a k) (n:=bA t a) (λk hk=>x_rel hC S hra H hk) (b-k) k (by omega) (by rw[show k+(b-k)=b by omega];exact hg);rw[hL.2 (by omega)]at this;cases this
theorem two{a c:Nat}{r q:Ak}(hra:t.Ac[a]?=some r)(hrc:t.Ac[c]?=some q)(hac:a≠c)(h1:0<=nI t r q)(h2:0<=nI t q r)(ha:av t V1 a 4=true)(hc:av t V1 c 4=true):False:=by
 rcases Nat.lt_or_gt_of_ne hac with h|h
 have:=((N3 hC S hrc hc).2 a r hra hac h1).2 h;rw[ha]at this;cases this;have:=((N3 hC S hra ha).2 c q hrc (Ne.symm hac) h2).2 h;rw[hc]at this;cases this
theorem clash(H:InvX t V0){a c:Nat}{r q:Ak}(hra:t.Ac[a]?=some r)(hrc:t.Ac[c]?=some q)(hac:a≠c){x y:Nat}(h1:(x:Int)<=nI t r q)(h2:(y:Int)<=nI t q r)(ho:¬(Lk t V0 a x/\Lk t V0 c y)):¬(Lk t V1 a x/\Lk t V1 c y):=by
 rintro⟨ha,hc⟩;rcases (Mk hC S hra).1 ha.1 with la|la<;>rcases (Mk hC S hrc).1 hc.1 with lc|lc
 exact ho ⟨Ig hC S hra H la ha,Ig hC S hrc H lc hc⟩;exact Yh hC S H hra hrc hac h1 lc la ha;exact Yh hC S H hrc hra (Ne.symm hac) h2 la lc hc;exact two hC S hra hrc hac (by omega) (by omega) la lc
omit S in
theorem kx_blk{r q:Ak}(hr:t.Ac[i]?=some r){x y:Ad}(hx:x∈fM (dI r))(hy:y∈fM (dI q))(he:x.el=y.el)(hp:¬x.pos=y.pos):(kxN t i r x:Int)<=nI t r q:=by
 have hsec:=hC.secs (lG hr);have hln:=Ij hr
 have hk:kxN t i r x<r.Aa.length/\(x∈r.An\/x∈r.Ax\/mY t x.el∉r.Aa\/r.Aa[kxN t i r x]?=some (mY t x.el)):=by
  unfold kxN;split;rename_i h;exact⟨by omega,h.elim .inl λh=>.inr (.inl h)⟩
  cases hi:dU r.Aa (mY t x.el)with
  |none=>
   refine⟨by dsimp only;omega,.inr (.inr (.inl λhm=>?_))⟩;have:=z8 r.Aa (mY t x.el);rw[hi,decide_eq_true hm]at this;cases this
  |some k=>
   obtain⟨z,hz,hzp,hl⟩:=bx hi;have:z=mY t x.el:=by simpa using hzp
   exact⟨hl,.inr (.inr (.inr (by rw[<- this];exact hz)))⟩
 exact Yi hk.1 (.inr (.inr ⟨x,hx,y,hy,he,hp,hk.2⟩))
omit S in
theorem one_p{r:Ak}(hr:r∈t.Ac){x y:Ad}(hx:x∈fM (dI r))(hy:y∈fM (dI r))(he:x.el=y.el):x.pos=y.pos:=by
 have h:=pR hC.chk;exact one_pos (h.2.2.1 r hr).2 (h.2.2.2.1 r hr) (ascS_mem.1 hx) (ascS_mem.1 hy) he
theorem x_lie(H:InvX t V0){r:Ak}(hr:t.Ac[i]?=some r){x:Ad}(hx:x∈fM (dI r))(hL:Lk t V1 i (kxN t i r x)):L8 t V1 x:=by
 have hm:=lG hr;have hset:=hC.set_in hm hx
 obtain⟨p,hp⟩:∃p,dU t.Ag x.el=some p:=by
  cases hi:dU t.Ag x.el with
  |none=>
   have:=hset.1;unfold qU at this;rw[hi]at this;exact absurd this (by decide)
  |some p=>exact⟨p,rfl⟩
 obtain⟨z,hz,hzp,-⟩:=bx hp;have hz2:z=x.el:=by simpa using hzp
 rw[hz2]at hz;have hidx:qU t x.el=(p:Int):=by unfold qU;rw[hp];rfl
 have hf:=f_lie S hz
 have other {j:Nat} {q:Ak} {y:Ad} (hq:t.Ac[j]?=some q) (hy:y∈fM (dI q)) (he:x.el=y.el) (hpos:¬x.pos=y.pos) (h4:av t V1 j 4=true):False:=by
  have hji:i≠j:=λh=>by
   subst h;rw[hr]at hq;injection hq with hq;subst hq;exact hpos (one_p hC hm hx hy he)
  have b1:=kx_blk hC hr hx hy he hpos;have b2:=kx_blk hC hq hy hx he.symm (λh=>hpos h.symm);rcases (Mk hC S hr).1 hL.1 with l|l
  exact Yh hC S H hr hq hji b1 h4 l hL;exact two hC S hr hq hji (by omega) (by omega) l h4
 unfold L8;rw[hidx,hf];have hx1:∀k:Int,x.pos=k->(⟨x.el,k⟩:Ad)=x:=λk hk=>V6 rfl hk.symm;rcases (Mk hC S hr).1 hL.1 with l|l
 have ho:=H.lie i r hr x hx (Ig hC S hr H l hL);unfold L8 at ho;rw[hidx]at ho;constructor;rintro(⟨j,q,hq,hy,h4⟩|⟨h,-⟩) hp1
 ·exact other hq hy rfl (by dsimp only;omega) h4
 exact ho.1 h hp1;intro hp1;refine .inr ⟨ho.2 hp1,?_⟩;rintro⟨j,q,hq,hy,h4⟩;exact other hq hy rfl (by dsimp only;omega) h4;constructor
 ·rintro(⟨j,q,hq,hy,h4⟩|⟨-,h⟩) hp1
  ·exact other hq hy rfl (by dsimp only;omega) h4
  exact h ⟨i,r,hr,by rw[hx1 1 hp1];exact hx,l⟩
 intro hp1;exact .inl ⟨i,r,hr,by rw[hx1 2 (by omega)];exact hx,l⟩
theorem inv_scan(H:InvX t V0):InvX t V1:=by
 refine⟨λi r hr=>x_excl hC S hr (H.one i r hr),λi r hr k hk=>x_rel hC S hr H hk,λi r hr k hk=>x_use hC S hr hk,λa c r q ha hc hac x y s hx hy=>?_,λa c r q ha hc hac hf s hs k hk=>?_,λi r hr x hx=>x_lie hC S H hr hx⟩;exact clash hC S H ha hc hac (Wj hx (lG hy)) (Wj hy (lG hx)) (H.path a c r q ha hc hac x y s hx hy);have hsec:=hC.secs (lG ha);have hln:=Ij ha;have live {V:List Bool}:Lk t V a (bA t a)↔qu t V a:=⟨λh=>h.1,λh=>⟨h,λh=>absurd h (Nat.lt_irrefl _)⟩⟩;rw[<- live];refine clash hC S H ha hc hac ?_ (blk_over hf hk hs) (by rw[live];exact H.over a c r q ha hc hac hf s hs k hk);rw[blk_all hf hs (lG hk)];omega
theorem prv_scan:PrvX t V1:=λi r hr h=>by
 rw[Gf hC (lG hr) S.inp];exact(N2 hC S hr h).2.2
end
variable {t:Al}{i:Nat}{V V':List Bool}
theorem inv_cg(hC:COk t)(h:∀y:Int,(tE t:Int)<=y->gV V' y=gV V y)(H:InvX t V):InvX t V':=by
 have hb:∀i,tE t<=cD t i:=λi=>by unfold cD;omega
 have es:∀i (k:Int),0<=k->sv t V' i k=sv t V i k:=λi k hk=>h _ (by have:=hb i;omega);have er:∀i k,rv t V' i k=rv t V i k:=λi k=>h _ (by have:=hb i;omega)
 have el:∀i,qu t V' i↔qu t V i:=λi=>by
  unfold qu;rw[es i 0 (by omega),es i 1 (by omega),es i 2 (by omega),es i 3 (by omega)]
 have ek:∀i k,Lk t V' i k↔Lk t V i k:=λi k=>by
  unfold Lk;rw[el,er]
 refine⟨λi r hr=>?_,λi r hr k hk=>?_,λi r hr k hk=>?_,λa c r q ha hc hac x y s hx hy=>?_,λa c r q ha hc hac hf s hs k hk=>?_,λi r hr x hx=>?_⟩;unfold qCQ;rw[es i 0 (by omega),es i 1 (by omega),es i 2 (by omega),es i 3 (by omega)];exact H.one i r hr;rw[er,er];exact H.rel i r hr k hk;rw[er,es i 2 (by omega),es i 3 (by omega)];exact H.use i r hr k hk;rw[ek,ek];exact H.path a c r q ha hc hac x y s hx hy;rw[el,ek];exact H.over a c r q ha hc hac hf s hs k hk;rw[ek];unfold L8;rw[h _ (by have:=(hC.set_in (lG hr) hx).1;omega)];exact H.lie i r hr x hx
theorem gV_in{n:Nat}{I V:List Bool}{y:Int}(hy:(n:Int)<=y):gV (inV n I V) y=gV V y:=by
 obtain⟨k,rfl⟩:∃k:Nat,y=((n+k:Nat):Int):=⟨(y-n).toNat,by omega⟩;rw[gV_nat,gV_nat];unfold inV;rw[qv,Dm (by simp),pB,vg,q8,qv,show n+(n+k-n)=n+k by omega]
theorem Vx(p:Go.Proofs.YtldaknhjmhlefaaGreatDoor.Program)(y:Int):gV (vm p).vars y=false:=by
 unfold vm gV;split;rw[qv,q9];split<;>simp;simp
def Jn(t:Al)(V:List Bool):Prop:=InvX t V/\PrvX t V
theorem Ba:Jn t (vm (Kf t)).vars:=⟨inv_dead (Vx _),λi r hr h=>by rw[show sv t (vm (Kf t)).vars i 1=false from Vx _ _]at h;cases h⟩
theorem qBT(hC:COk t){m:Machine}{I:List Bool}(H:Jn t m.vars):Jn t (E1 (Kf t) m I).vars:=by
 unfold E1;split;exact Ba;rename_i h;simp only[not_or]at h
 have hf:qr (Kf t) m=true:=by
  cases hf:qr (Kf t) m with
  |true=>rfl
  |false=>exact absurd hf h.2
 unfold qr at hf;rw[wP,decide_eq_true_eq]at hf;obtain⟨⟨h1,h2,h3⟩,-⟩:=hf;have hin:=Ip t;have hn:=ku hC;have h2:m.vars.length=uL t:=h2.trans hn;have S:ScX t (inV (tE t) I m.vars) (tG (List.zip (oI t) m.counts) (inV (tE t) I m.vars)):=scX hC h1 (by rw[Nx (by omega),h2]) h3;exact⟨inv_scan hC S (inv_cg hC (λy hy=>gV_in hy) H.1),prv_scan hC S⟩
theorem K2{α:Type}{f:Nat->Ak->List α}{o:α}(h:o∈rt t f i):∃r,t.Ac[i]?=some r/\o∈f i r:=by
 unfold rt at h
 cases hr:t.Ac[i]? with
 |none=>rw[hr]at h;cases h
 |some r=>rw[hr]at h;exact⟨r,rfl,h⟩
theorem Ny{l:List Int}{s:Int}{k:Nat}(h:dU l s=some k):l[k]?=some s:=by
 obtain⟨z,hz,hzp,-⟩:=bx h;rw[hz,show z=s by simpa using hzp]
theorem Le(hC:COk t)(P:Ab->Prop)
  (h1:∀a c r q,t.Ac[a]?=some r->t.Ac[c]?=some q->a≠c->∀(x k:Nat)(s:Int),r.Aa[x]?=some s->q.Aa[k]?=some s->P (fS (fX [rI t a x,rI t c k])))
  (h2:∀a c r q,t.Ac[a]?=some r->t.Ac[c]?=some q->a≠c->mO r q=false->∀s∈r.Ae,∀k:Nat,q.Aa[k]?=some s->P (fS (fX [zH t a,rI t c k])))
  (h3:∀i r,t.Ac[i]?=some r->∀x∈fM (dI r),P (qX [fS (Kq t i r x),yf t x]))
  (h4:∀i r,t.Ac[i]?=some r->P (prE t i r)) (h5:∀i,i<t.Ac.length->P (Ld t i)) (h6:∀i,i<t.Ac.length->P (K5 t i)):∀o∈Nm t,P o.expr:=by
 intro o ho;unfold Nm at ho;simp only[zQN]at ho;rcases ho with((((ho|ho)|ho)|ho)|ho)|ho
 obtain⟨a,-,ho⟩:=zal94q.1 ho;obtain⟨j,-,ho⟩:=zal94q.1 ho;obtain⟨r,hr,ho⟩:=K2 ho;obtain⟨q,hq,ho⟩:=K2 ho;obtain⟨x,hx,ho⟩:=zal94q.1 ho;have hx:=(xN hC (lG hr) (zal101q.1 hx)).1;unfold wc at ho
 cases hk:dU q.Aa (wJ r x)with
 |none=>rw[hk]at ho;cases ho
 |some k=>
  rw[hk]at ho;rw[zal102q.1 ho];exact h1 a _ r q hr hq (by omega) x k _ hx (Ny hk)
 obtain⟨a,-,ho⟩:=zal94q.1 ho;obtain⟨c,-,ho⟩:=zal94q.1 ho;obtain⟨r,hr,ho⟩:=K2 ho;obtain⟨q,hq,ho⟩:=K2 ho;split at ho;cases ho;rename_i hac;simp only[not_or,zal20q]at hac;obtain⟨x,hx,ho⟩:=zal94q.1 ho;have hx:=(Zn hC (lG hr) (zal101q.1 hx)).1;unfold wd at ho
 cases hk:dU q.Aa (r.Ae.getD x 0)with
 |none=>rw[hk]at ho;cases ho
 |some k=>
  rw[hk]at ho;rw[zal102q.1 ho];exact h2 a c r q hr hq hac.1 hac.2 _ (lG hx) k (Ny hk)
 obtain⟨a,-,ho⟩:=zal94q.1 ho;obtain⟨r,hr,ho⟩:=K2 ho;obtain⟨x,hx,rfl⟩:=zal96q.1 ho;exact h3 a r hr x hx;obtain⟨a,-,ho⟩:=zal94q.1 ho;obtain⟨r,hr,ho⟩:=K2 ho;rw[zal102q.1 ho];exact h4 a r hr;obtain⟨a,ha,ho⟩:=zal94q.1 ho;unfold Ea at ho;rw[zal102q.1 ho];exact h5 a (zal101q.1 ha);obtain⟨a,ha,ho⟩:=zal94q.1 ho;unfold Ms at ho;rw[zal102q.1 ho];exact h6 a (zal101q.1 ha)
theorem live_ev:lA V (zH t i)=true↔qu t V i:=by
 unfold zH qu;rw[uN];simp only[nT,vd,ce,uF,lC]
theorem Gn{k:Nat}(hk:k<=bA t i):lA V (rI t i k)=true↔Lk t V i k:=by
 unfold rI Lk;split;rw[live_ev];exact⟨λh=>⟨h,λh2=>by omega⟩,λh=>h.1⟩;rw[pI];simp only[pT,wG,wH,pY,uF,wP,lW,live_ev];exact⟨λh=>⟨h.1,λ_=>h.2⟩,λh=>⟨h.1,h.2 (by omega)⟩⟩
theorem obs_hold(hC:COk t)(H:Jn t V):∀o∈Nm t,lA V o.expr=true:=by
 have lst {i:Nat} {r:Ak} (hr:t.Ac[i]?=some r) {k:Nat} {s:Int} (hk:r.Aa[k]?=some s):k<=bA t i:=by
  have:=Ij hr;have:=(zQQ.1 hk).1;omega
 refine Le hC (λe=>lA V e=true) (λa c r q ha hc hac x k s hx hk=>?_) (λa c r q ha hc hac hf s hs k hk=>?_) (λi r hr x hx=>?_) (λi r hr=>?_) (λi hi=>?_) (λi hi=>?_);rw[pY,pI];simp only[pT,wG,wH,lW,<- Bool.not_eq_true,wP,Gn (lst ha hx),Gn (lst hc hk)];exact H.1.path a c r q ha hc hac x k s hx hk;rw[pY,pI];simp only[pT,wG,wH,lW,<- Bool.not_eq_true,wP,live_ev,Gn (lst hc hk)];exact H.1.over a c r q ha hc hac hf s hs k hk
 have hb:lA V (Kq t i r x)=true->Lk t V i (kxN t i r x):=by
  unfold Kq kxN;have hl:lA V (zH t i)=true->Lk t V i (bA t i):=λh=>⟨live_ev.1 h,λh2=>by omega⟩;split;exact hl
  cases hk:dU r.Aa (mY t x.el)with
  |none=>exact hl
  |some k=>exact(Gn (lst hr (Ny hk))).1
 have ho:=H.1.lie i r hr x hx;rw[uN,nT,pY,nT]
 cases hv:lA V (Kq t i r x)with
 |false=>rfl
 |true=>
  have ho:=ho (hb hv);unfold L8 at ho;unfold yf;by_cases hp:x.pos=1;rw[if_pos hp,pY,uF]
  cases hg:gV V ((tE t:Int)+qU t x.el)with
  |false=>rfl
  |true=>exact absurd hp (ho.1 hg)
  rw[if_neg hp,uF,ho.2 hp];rfl
 unfold prE;rw[uN,nT,pY,uF,nT]
 cases hv:gV V ((cD t i:Int)+1)with
 |false=>rfl
 |true=>rw[H.2 i r hr hv];rfl
 unfold Ld;rw[pI,zQT];intro e he;obtain⟨a,ha,he⟩:=zal94q.1 he;obtain⟨c,hc,rfl⟩:=zal96q.1 he;have ha:=zal101q.1 ha;have hc:=zal101q.1 hc;rw[pY,pI];simp only[pT,wG,wH,lW,uF,<- Bool.not_eq_true,wP];obtain⟨e1,e2,e3,e4,e5,e6⟩:=H.1.one i _ (gN hi);have:(a=1/\c=0)\/(a=2/\c=0)\/(a=2/\c=1)\/(a=3/\c=0)\/(a=3/\c=1)\/(a=3/\c=2):=by omega
 rcases this with⟨rfl,rfl⟩|⟨rfl,rfl⟩|⟨rfl,rfl⟩|⟨rfl,rfl⟩|⟨rfl,rfl⟩|⟨rfl,rfl⟩
 exact e1;exact e2;exact e3;exact e4;exact e5;exact e6;unfold K5;rw[pI,zQT];intro e he;obtain⟨j,hj,he⟩:=zal94q.1 he;have hj:=zal101q.1 hj;unfold yn at he;rw[zal102q.1 he,uN,nT,pY,uF,nT,uF];have hr:=H.1.rel i _ (gN hi) j (by omega);rw[show 1+j=j+1 by omega]
 cases hv:gV V ((cD t i:Int)+(4+((j+1:Nat):Int)))with
 |false=>rfl
 |true=>rw[show gV V ((cD t i:Int)+(4+(j:Int)))=true from hr hv];rfl
theorem obs_sz(hC:COk t):∀o∈Nm t,nU o.expr<=100000:=by
 have hl:∀i,nU (zH t i)<=10:=λi=>by simp[zH,nU,qD]
 have hk:∀i k,nU (rI t i k)<=20:=λi k=>by
  have:=hl i;unfold rI;split;omega;simp only[nU,qD];omega
 refine Le hC (λe=>nU e<=100000) (λa c r q ha hc hac x k s hx hy=>?_) (λa c r q ha hc hac hf s hs k _=>?_) (λi r hr x hx=>?_) (λi r hr=>?_) (λi hi=>?_) (λi hi=>?_);have h1:=hk a x;have h2:=hk c k;simp only[nU,qD];omega;have h1:=hl a;have h2:=hk c k;simp only[nU,qD];omega
 have h1:nU (Kq t i r x)<=20:=by
  unfold Kq;split;have:=hl i;omega;split
  ·exact hk i _
  have:=hl i;omega
 have h2:nU (yf t x)<=2:=by unfold yf;split<;>simp[nU,qD]
 simp only[nU,qD];omega;have:=z_prov hC hr;simp only[prE,nU,qD];omega;refine zm (s := 10) (k := 100) (fun e he => ?_) (Q6 t i 4 (by omega)) (by omega);obtain⟨a,ha,he⟩:=zal94q.1 he;obtain⟨c,hc,rfl⟩:=zal96q.1 he;simp[nU,qD];refine zm (s := 10) (k := 100) (fun e he => ?_) ?_ (by omega)
 ·obtain⟨j,hj,he⟩:=zal94q.1 he;unfold yn at he;rw[zal102q.1 he];simp[nU,qD]
 have := dV (f := yn t i) (c := 1) (fun _ => by simp [yn]) (bA t i - 1);have:=hC.last24 i;omega
theorem H4{p:Go.Proofs.YtldaknhjmhlefaaGreatDoor.Program}(h:Slim p)(m:Machine):yS p m=some (qr p m):=by
 have hr:=h.Ai;unfold yS qr;rw[K7 h,aA];by_cases hh:wN p=0/\m.vars.length=p.names.length/\m.counts.length=p.Ai.length;obtain⟨h1,h2,h3⟩:=hh;have hzl:(List.zip p.Ai m.counts).length=p.Ai.length:=by rw[List.length_zip];omega
 rw[if_pos h1,if_pos (by omega),aA,decide_eq_true (show(m.counts.length:Int)=(p.Ai.length:Int) by omega),if_neg (by simp),decide_eq_true ⟨h1,h2,h3⟩,yB];rw[mE (List.zip p.Ai m.counts) (λx=>!cntB x.1 x.2) (.inr false) (.inl ()) (by omega) (λi x hx=>?_) (by rw[if_neg (by omega)];rfl),xJ];cases (List.zip p.Ai m.counts).all (λx=>cntB x.1 x.2)<;>rfl;have hi:=(zQQ.1 hx).1;obtain⟨r,c⟩:=x;rw[List.getElem?_zip_eq_some]at hx;obtain⟨hx1,hx2⟩:=hx;dsimp only at hx1 hx2⊢;rw[if_pos (by omega),aJ hx2,aJ hx2,aJ hx1,aB (bG hi (by omega))];unfold cntB;by_cases hc:c<0;rw [if_pos hc, aA, if_pos rfl, if_pos (by rw [decide_eq_false (by omega)]; rfl)];rfl;rw[if_neg hc,aA];by_cases hd:r.A1<c;rw[decide_eq_true hd,if_pos rfl,if_pos (by rw[decide_eq_false (by omega)];rfl)];rfl;rw[decide_eq_false hd,if_neg (by simp),if_neg (by rw[decide_eq_true (by omega)];simp)];rw[decide_eq_false hh,Dn]
 have e1:(if wN p=(0:Int)then if(m.vars.length:Int)=(p.names.length:Int)then some (!(decide ((m.counts.length:Int)=(p.Ai.length:Int))))else some true else some true)=some true:=by
  by_cases h1:wN p=0;rw[if_pos h1];by_cases h2:m.vars.length=p.names.length;rw[if_pos (by omega),decide_eq_false (by omega)];rfl;rw[if_neg (by omega)];rw[if_neg h1]
 rw[e1,aA,if_pos rfl]
theorem act_ref(r : Ap)(c : Int)(v : Bool)(h0 : 0 <= c)(h1 : c <= r.A1)(hp : r.kind = 2 -> 1 <= r.A1 /\ r.A1 <= 1073741824) : (if r.kind = (2 : Int) then
       aD (
        if v=true then
         aE (bH (c+(1:Int))) <|
         some (min (c+(1:Int)) r.A1)
        else
         some (0:Int)) λn43=>
       some (decide (n43=r.A1),n43)
      else
       some (v,c))=some ((Ol r v c).2,(Ol r v c).1):=by
 unfold Ol;by_cases h2:r.kind=2;have hp:=hp h2;rw[if_pos h2,if_pos h2]
 cases v with
 |false=>rw[if_neg gB,if_neg gB,aA,decide_eq_false (by omega)]
 |true=>
  rw[if_pos rfl,if_pos rfl,aB (by unfold bH;omega),aA];by_cases hl:c<r.A1;rw[if_pos hl,Int.min_eq_left (by omega)];rw[if_neg hl,Int.min_eq_right (by omega),show r.A1=c by omega]
 rw[if_neg h2,if_neg h2]
theorem rIn_eq{p:Go.Proofs.YtldaknhjmhlefaaGreatDoor.Program}{n:Nat}{I V:List Bool}(hn:p.inputs=(n:Int))(hl:n<=V.length)(hv:V.length<=1000000000):bB (ρ:=List Bool) (λ(i14,b15)=>
    if i14<p.inputs then
     if i14<(I.length:Int)then
      bC I i14 λe21=>
      bC b15 i14 λe22=>
      aE (bH (i14+(1:Int))) <|
      some (.inl ((i14+(1:Int)),(b15.set i14.toNat e21)))
     else
      bC b15 i14 λe19=>
      aE (bH (i14+(1:Int))) <|
      some (.inl ((i14+(1:Int)),(b15.set i14.toNat false)))
    else
     aT (
      some b15)) ((0:Int),(([]:List Bool)++V))=some (inV n I V):=by
 have hsetin (k:Nat) (hk:k<V.length):(inV k I V).set k (I.getD k false)=inV (k+1) I V:=by
  unfold inV;rw[List.set_append_right _ _ (by simp),qY,mU];simp only[vg,q8,gl,nE,q7,lM];rw[Ww hk];rfl
 rw[hn,lR n (λk=>inV k I V) (o:=inV n I V) (by simp[inV]) (by omega) (λk hk=>?_) (by dsimp only;rw[if_neg (by omega)];rfl)];have hlk:(inV k I V).length=V.length:=Nx (by omega);have hgk:(inV k I V)[k]?=some ((inV k I V)[k]'(by omega)):=gN (by omega);dsimp only;rw[if_pos (by omega),show((k:Int)).toNat=k by omega,<- hsetin k (by omega)];by_cases hki:k<I.length;rw [if_pos (by omega), aJ (gN hki), aJ hgk, aB (by unfold bH; omega), qv, gN hki];rfl;rw [if_neg (by omega), aJ hgk, aB (by unfold bH; omega), qv, lB (by omega)];rfl
theorem fits_iff{p:Go.Proofs.YtldaknhjmhlefaaGreatDoor.Program}{m:Machine}(h:qr p m=true):wN p=0/\m.vars.length=p.names.length/\m.counts.length=p.Ai.length/\∀x∈List.zip p.Ai m.counts,0<=x.2/\x.2<=x.1.A1:=by
 unfold qr at h;simp only[wP,decide_eq_true_eq,zQT]at h;obtain⟨⟨hz,hvl,hcl⟩,hcnt⟩:=h;refine⟨hz,hvl,hcl,λx hx=>?_⟩;have:=hcnt x hx;unfold cntB at this;exact of_decide_eq_true this
theorem rScan_eq{p:Go.Proofs.YtldaknhjmhlefaaGreatDoor.Program}(h:Slim p){m:Machine}(I:List Bool)(hf:qr p m=true)(hh:m.halted=false):qK p m I=some ⟨tG (List.zip p.Ai m.counts) (inV p.inputs.toNat I m.vars),ww (List.zip p.Ai m.counts) (inV p.inputs.toNat I m.vars),false⟩:=by
 have hr:=h.Ai;obtain⟨hz,hvl,hcl,hcnt⟩:=fits_iff hf;obtain⟨hn1,hn2,hn3,hn4,hn5⟩:=zO hz;unfold qK;rw[H4 h,aA,hf,if_neg (by simp),aA,hh,if_neg (by simp),aB (by simp;omega),aB (by simp;omega),rIn_eq (n:=p.inputs.toNat) (by omega) (by omega) (by omega),aA];have hV0:(inV p.inputs.toNat I m.vars).length=p.names.length:=by rw[Nx (by omega),hvl]
 generalize inV p.inputs.toNat I m.vars=V0 at hV0;have hzl:(List.zip p.Ai m.counts).length=p.Ai.length:=by rw[List.length_zip];omega
 rw[lR p.Ai.length (λk=>(tG ((List.zip p.Ai m.counts).take k) V0,(ww (List.zip p.Ai m.counts) V0).take k++m.counts.drop k)) (o:=(tG (List.zip p.Ai m.counts) V0,ww (List.zip p.Ai m.counts) V0)) (by simp[tG]) (by omega) (λk hk=>?_) (by dsimp only;rw[if_neg (by omega),bc (by omega),bc (by rw[I4];omega),List.drop_of_length_le (by omega),lL];rfl),aA];have hrk:=gN hk;obtain⟨c,hck⟩:∃c,m.counts[k]?=some c:=⟨_,gN (by omega)⟩;have hrm:=fH hk;have hrb:=hn4 _ hrm;have hrs:=h.size _ hrm;generalize p.Ai[k]=r at hrk hrm hrb hrs;have hzk:(List.zip p.Ai m.counts)[k]?=some (r,c):=List.getElem?_zip_eq_some.2 ⟨hrk,hck⟩;have hcb3:=hcnt _ (lG hzk);unfold E4 at hrb;simp only[wP,lC,decide_eq_true_eq]at hrb;dsimp only at hcb3;have hVk:(tG ((List.zip p.Ai m.counts).take k) V0).length=p.names.length:=by rw[Hs,hV0]
 have hcg:((ww (List.zip p.Ai m.counts) V0).take k++m.counts.drop k)[k]?=some c:=by
  rw[Dm (by rw[kO];omega),kO,I4,hzl,show k-min k p.Ai.length=0 by omega,pB];exact hck
 have hvk:0<=r.var/\r.var.toNat<p.names.length:=by omega
 have hnext:tG ((List.zip p.Ai m.counts).take (k+1)) V0=qj (tG ((List.zip p.Ai m.counts).take k) V0) (r,c):=by
  rw[mF,hzk,Qh];rfl
 have hcnx:(ww (List.zip p.Ai m.counts) V0)[k]?=some (Ol r (lA (tG ((List.zip p.Ai m.counts).take k) V0) r.expr) c).1:=by
  unfold ww;rw[va,hzk];rfl
 have hcset (x:Int) (hx:(ww (List.zip p.Ai m.counts) V0)[k]?=some x):((ww (List.zip p.Ai m.counts) V0).take k++m.counts.drop k).set k x=(ww (List.zip p.Ai m.counts) V0).take (k+1)++m.counts.drop (k+1):=by
  have hlt:((ww (List.zip p.Ai m.counts) V0).take k).length=k:=by rw[kO,I4];omega
  rw[List.set_append_right _ _ (by omega),hlt,gl,mF,hx,Ww (by omega),List.set_cons_zero,lM];rfl
 rw[hnext,<- hcset _ hcnx];unfold qj;dsimp only;rw[if_pos (by omega),aJ hrk];generalize (ww (List.zip p.Ai m.counts) V0).take k++m.counts.drop k=T at hcg;generalize tG ((List.zip p.Ai m.counts).take k) V0=U at hVk;obtain⟨old,hvg⟩:∃b,U[r.var.toNat]?=some b:=⟨_,gN (by omega)⟩;rw[REval_eq U (by omega),aA];have hact:=act_ref r c (lA U r.expr) hcb3.1 hcb3.2 (λh2=>by omega);have hg64:bH ((k:Int)+1):=bG hk (by omega);by_cases h2:r.kind=2;rw[if_pos h2]at hact;rw[if_pos h2,aJ hcg]
 cases hv:lA U r.expr with
 |false=>
  rw[hv,if_neg gB,aA]at hact;have h3:=cV (cC hact);rw[if_neg gB,aA,aJ hcg,aA];dsimp only;rw[wC hvk.1 hvg,aB hg64,<- h3.1,<- h3.2];rfl
 |true=>
  have hg1:bH (c+1):=by unfold bH;omega
  rw[hv,if_pos rfl,aB hg1,aA]at hact;have h3:=cV (cC hact);rw[if_pos rfl,aB hg1,aA,aJ hcg,aA];dsimp only;rw[wC hvk.1 hvg,aB hg64,<- h3.1,<- h3.2];rfl
 rw[if_neg h2]at hact;have h3:=cV (cC hact);rw[if_neg h2,aA];dsimp only;rw[wC hvk.1 hvg,aB hg64,<- h3.1,<- h3.2]
 have hTs:T.set k c=T:=by
  apply tH;intro j;rw[hZ];split;rename_i hj;subst hj;rw[if_pos (zQQ.1 hcg).1,hcg];rfl
 rw[hTs]
theorem scan_run{p:Go.Proofs.YtldaknhjmhlefaaGreatDoor.Program}{m:Machine}(I:List Bool)(hf:qr p m=true)(hh:m.halted=false):E1 p m I=⟨tG (List.zip p.Ai m.counts) (inV p.inputs.toNat I m.vars),ww (List.zip p.Ai m.counts) (inV p.inputs.toNat I m.vars),false⟩:=by
 unfold E1;rw[if_neg (by rw[hf,hh];simp)]
theorem Qz{p:Go.Proofs.YtldaknhjmhlefaaGreatDoor.Program}(h:Slim p):sV p=some (vm p):=by
 unfold sV vm;rw[K7 h,aA];by_cases hz:wN p=0;have:=zO hz;have:=h.Ai;rw[if_pos hz,if_pos hz,aB (by omega),aB (by omega),show((p.names.length:Int)).toNat=p.names.length by omega,show((p.Ai.length:Int)).toNat=p.Ai.length by omega];rw[if_neg hz,if_neg hz]
theorem Zj{p:Go.Proofs.YtldaknhjmhlefaaGreatDoor.Program}(h:Slim p):yR p=some (haltP p):=by
 unfold yR;rw[Qz h,aA];rfl
theorem rScan26{p:Go.Proofs.YtldaknhjmhlefaaGreatDoor.Program}(h:Slim p)(m:Machine)(I:List Bool):qK p m I=some (E1 p m I):=by
 by_cases hf:qr p m=true
 cases hh:m.halted with
 |false=>rw[rScan_eq h I hf hh,scan_run I hf hh]
 |true=>
  unfold qK E1;rw[H4 h,aA,hf];simp only[hh,vf,if_true,if_false,aA,gk];rw[Zj h,aA,if_pos (.inl trivial)]
 have hf : qr p m = false := by simpa using hf
 unfold qK E1;rw[H4 h,aA,hf];simp only[Hd,if_true,aA];rw[Zj h,aA,if_pos (.inr trivial)]
def oV{α:Type}(m:Option α)(Q:α->Prop):Prop:=∃r,m=some r/\Q r
section
variable {α β σ ρ:Type}
theorem tot_some{a:α}{Q:α->Prop}:oV (some a) Q↔Q a:=⟨λ⟨_,h,q⟩=>by cases h;exact q,λq=>⟨_,rfl,q⟩⟩
theorem tot_bind{m:Option α}{k:α->Option β}{Q:β->Prop}:oV (aD m k) Q↔oV m λa=>oV (k a) Q:=by
 cases m with
 |none=>exact⟨λ⟨_,h,_⟩=>(by cases h),λ⟨_,h,_⟩=>(by cases h)⟩
 |some a=>exact⟨λh=>⟨a,rfl,h⟩,λ⟨_,h,q⟩=>(by cases h;exact q)⟩
theorem tot_bindS{m:Option (α ⊕ β)}{k:α->Option β}{Q:β->Prop}:oV (dS m k) Q↔oV m λo=>match o with|.inl a=>oV (k a) Q|.inr b=>Q b:=by
 cases m with
 |none=>exact⟨λ⟨_,h,_⟩=>(by cases h),λ⟨_,h,_⟩=>(by cases h)⟩
 |some o=>
  cases o with
  |inl a=>exact⟨λh=>⟨_,rfl,h⟩,λ⟨_,h,q⟩=>(by cases h;exact q)⟩
  |inr b=>exact⟨λ⟨_,h,q⟩=>⟨_,rfl,by cases h;exact q⟩,λ⟨_,h,q⟩=>(by cases h;exact⟨_,rfl,q⟩)⟩
theorem vK{m:Option α}{P Q:α->Prop}(h:oV m P)(hi:∀a,P a->Q a):oV m Q:=by
 obtain⟨r,h1,h2⟩:=h;exact⟨r,h1,hi r h2⟩
theorem aP{m:Option α}{k:α->Option β}{P:α->Prop}{Q:β->Prop}(h:oV m P)(hi:∀a,P a->oV (k a) Q):oV (aD m k) Q:=tot_bind.2 (vK h hi)
theorem fB{m:Option (α ⊕ β)}{k:α->Option β}{P:α ⊕ β->Prop}{Q:β->Prop}(h:oV m P)(hi:∀a,P (.inl a)->oV (k a) Q)(hr:∀b,P (.inr b)->Q b):oV (dS m k) Q:=tot_bindS.2 (vK h λo=>by cases o with|inl a=>exact hi a|inr b=>exact hr b)
theorem jM{l:List α}{i:Int}{k:α->Option β}{Q:β->Prop}(h0:0<=i)(h1:i<(l.length:Int))(h:∀e∈l,l[i.toNat]?=some e->oV (k e) Q):oV (bC l i k) Q:=by
 have hx:=gN (l:=l) (show i.toNat<l.length by omega);rw[wC h0 hx];exact h _ (fH _) hx
theorem hU{f:σ->Option (σ ⊕ ρ)}{s:σ}{Q:ρ->Prop}(I:Nat->σ->Prop)(n:Nat)(hn:n<=1000000000000000)(h0:I 0 s)(hs:∀i s,i<n->I i s->oV (f s) λo=>match o with|.inl s'=>I (i+1) s'|.inr r=>Q r)(he:∀s,I n s->oV (f s) λo=>match o with|.inl _=>False|.inr r=>Q r):oV (bB f s) Q:=by
 have key:∀(k i:Nat) s,i+k=n->I i s->∃r,pN f (k+1) s=some r/\Q r:=by
  intro k
  induction k with
  |zero=>
   intro i s hi hI;obtain⟨o,h1,h2⟩:=he s (by rw[show n=i by omega];exact hI)
   cases o with
   |inl s'=>exact h2.elim
   |inr r=>exact⟨r,by simp[pN,h1],h2⟩
  |succ k ih=>
   intro i s hi hI;obtain⟨o,h1,h2⟩:=hs i s (by omega) hI
   cases o with
   |inl s'=>
    obtain⟨r,h3,h4⟩:=ih (i+1) s' (by omega) h2;exact⟨r,by rw[pN,h1];exact h3,h4⟩
   |inr r=>exact⟨r,by rw[pN,h1],h2⟩
 obtain⟨r,h1,h2⟩:=key n 0 s (by omega) h0;exact⟨r,zG h1 (by unfold eO;omega),h2⟩
theorem mB{f:Int->Option (Int ⊕ ρ)}(l:List α)(hl:l.length<=1000000000000000){Q:ρ->Prop}(I:Nat->Prop)(h0:I 0)(hs:∀(i:Nat)(e:α),l[i]?=some e->I i->oV (f (i:Int)) λo=>(o=.inl ((i:Int)+1)/\I (i+1))\/∃r,o=.inr r/\Q r)(he:I l.length->oV (f (l.length:Int)) λo=>∃r,o=.inr r/\Q r):oV (bB f 0) Q:=by
 refine hU (λi s=>s=(i:Int)/\I i) l.length hl ⟨rfl,h0⟩ ?_ ?_;rintro i s hi ⟨rfl,hI⟩;refine vK (hs i _ (gN hi) hI) ?_;rintro o (⟨rfl,h⟩|⟨r,rfl,h⟩);exact⟨by push_cast;rfl,h⟩;exact h;rintro s ⟨rfl,hI⟩;refine vK (he hI) ?_;rintro o ⟨r,rfl,h⟩;exact h
theorem xP{f:Int->Option (Int ⊕ ρ)}(n:Nat)(hl:n<=1000000000000000){Q:ρ->Prop}(I:Nat->Prop)(h0:I 0)(hs:∀(i:Nat),i<n->I i->oV (f (i:Int)) λo=>(o=.inl ((i:Int)+1)/\I (i+1))\/∃r,o=.inr r/\Q r)(he:I n->oV (f (n:Int)) λo=>∃r,o=.inr r/\Q r):oV (bB f 0) Q:=by
 refine hU (λi s=>s=(i:Int)/\I i) n hl ⟨rfl,h0⟩ ?_ ?_;rintro i s hi ⟨rfl,hI⟩;refine vK (hs i hi hI) ?_;rintro o (⟨rfl,h⟩|⟨r,rfl,h⟩);exact⟨by push_cast;rfl,h⟩;exact h;rintro s ⟨rfl,hI⟩;refine vK (he hI) ?_;rintro o ⟨r,rfl,h⟩;exact h
theorem eM{i n:Nat}(h:i<n)(hn:n<=1000000000000000):bH ((i:Int)+1):=by unfold bH;omega
end
theorem Name_t(s:BA)(h:s.size<=1000000000000000):oV (yY s) λ_=>True:=by
 have hsz:s.data.toList.length=s.size:=by rw[rG];rfl
 unfold yY;refine fB (P:=λ_=>True) (mB s.data.toList (by omega) (λ_=>True) trivial ?_ ?_) (λ_ _=>tot_some.2 trivial) (λ_ _=>trivial);intro i e hx _;have hi:=(zQQ.1 hx).1;have hg:=eM (show i<s.size by omega) h;rw[if_pos (by omega)];simp only[aJ hx];refine aP (P:=λ_=>True) ?_ λx _=>?_;split<;>exact tot_some.2 trivial;refine aP (P := fun _ => True) ?_ fun y _ => ?_
 ·split
  ·split<;>exact tot_some.2 trivial
  exact tot_some.2 trivial
 split
 ·exact⟨_,rfl,.inr ⟨_,rfl,trivial⟩⟩
 rw[aB hg];exact⟨_,rfl,.inl ⟨rfl,trivial⟩⟩;intro _;rw[if_neg (by omega)];exact⟨_,rfl,_,rfl,trivial⟩
def Ds(k:Int):Int:=if k=1 then 2 else if k=2 then 3 else if k=3 then 4 else 0
theorem Jk(k:Int):qQ k=some (Ds k):=by
 unfold qQ Ds;split;rfl;split
 ·rfl
 split<;>rfl
theorem O7(k:Int):0<=Ds k/\Ds k<=4:=by
 unfold Ds;split;omega;split
 ·omega
 split<;>omega
theorem Yt(k a b:Int):oV (mW k a b) λr=>0<=r.1/\r.1<=2:=by
 unfold mW;split;exact tot_some.2 (by dsimp only;omega);split
 ·exact tot_some.2 (by dsimp only;omega)
 split<;>exact tot_some.2 (by dsimp only;omega)
def kS(l:Aq)(e:End):Prop:=0<=e.el/\e.el<(l.Ar.length:Int)/\0<=e.side/\e.side<4
theorem Er{l:Aq}{e:End}(h:kS l e)(hl:l.Ar.length<=1000000):End.ok e:=by
 obtain⟨h1,h2,h3,h4⟩:=h;unfold End.ok bH;omega
theorem Jo(l:Aq)(e:End):oV (pG l e) λr=>r=true->kS l e:=by
 unfold pG
 have key:oV (if(0:Int)<=e.el then
   if e.el<(l.Ar.length:Int)then
    if(0:Int)<=e.side then
     bC l.Ar e.el λe6=>
     aD (qQ e6.kind) λr7=>
     some (decide (e.side<r7))
    else
     some false
   else
    some false
  else
   some false) λr=>r=true->kS l e:=by
  split;split
  ·split
   ·refine jM (by omega) (by omega) fun x hx _ => ?_;rw[Jk,aA];refine tot_some.2 λhs=>?_;have:=of_decide_eq_true hs;have:=O7 x.kind;exact⟨by omega,by omega,by omega,by omega⟩
   exact tot_some.2 (by simp)
  exact tot_some.2 (by simp);exact tot_some.2 (by simp)
 exact aP key λx hx=>tot_some.2 hx
theorem Om(l:List BA)(hl:l.length<=1000000000):oV (qN l) λ_=>True:=by
 unfold qN;refine fB (P:=λ_=>True) (mB l (by omega) (λ_=>True) trivial ?_ ?_) (λ_ _=>tot_some.2 trivial) (λ_ _=>trivial);intro i e hx _;have hi:=(zQQ.1 hx).1;rw[if_pos (by omega)];refine fB (P:=λo=>match o with|.inl _=>True|.inr b=>∃r,b=.inr r) (xP i (by omega) (λ_=>True) trivial ?_ ?_) ?_ ?_;intro k hk _;have hk2:=gN (l:=l) (show k<l.length by omega);rw[if_pos (by omega),aJ hx,aJ hk2];split;exact⟨_,rfl,.inr ⟨_,rfl,_,rfl⟩⟩;rw[aB (eM hk (by omega))];exact⟨_,rfl,.inl ⟨rfl,trivial⟩⟩;intro _;rw[if_neg (by omega)];exact⟨_,rfl,_,rfl,trivial⟩;intro a _;rw[aB (eM hi (by omega))];exact⟨_,rfl,.inl ⟨rfl,trivial⟩⟩;rintro b ⟨r,rfl⟩;exact .inr ⟨_,rfl,trivial⟩;intro _;rw[if_neg (by omega)];exact⟨_,rfl,_,rfl,trivial⟩
theorem qCO(l:List Int)(hl:l.length<=1000000000):oV (rV l) λ_=>True:=by
 unfold rV;refine fB (P:=λ_=>True) (mB l (by omega) (λ_=>True) trivial ?_ ?_) (λ_ _=>tot_some.2 trivial) (λ_ _=>trivial);intro i e hx _;have hi:=(zQQ.1 hx).1;rw[if_pos (by omega)];refine fB (P:=λo=>match o with|.inl _=>True|.inr b=>∃r,b=.inr r) (xP i (by omega) (λ_=>True) trivial ?_ ?_) ?_ ?_;intro k hk _;have hk2:=gN (l:=l) (show k<l.length by omega);rw[if_pos (by omega),aJ hx,aJ hk2];split;exact⟨_,rfl,.inr ⟨_,rfl,_,rfl⟩⟩;rw[aB (eM hk (by omega))];exact⟨_,rfl,.inl ⟨rfl,trivial⟩⟩;intro _;rw[if_neg (by omega)];exact⟨_,rfl,_,rfl,trivial⟩;intro a _;rw[aB (eM hi (by omega))];exact⟨_,rfl,.inl ⟨rfl,trivial⟩⟩;rintro b ⟨r,rfl⟩;exact .inr ⟨_,rfl,trivial⟩;intro _;rw[if_neg (by omega)];exact⟨_,rfl,_,rfl,trivial⟩
theorem Ends_t(l:List End)(hl:l.length<=1000000000)(ho:∀e∈l,End.ok e):oV (uV l) λ_=>True:=by
 unfold uV;refine fB (P:=λ_=>True) (mB l (by omega) (λ_=>True) trivial ?_ ?_) (λ_ _=>tot_some.2 trivial) (λ_ _=>trivial);intro i e hx _;have hi:=(zQQ.1 hx).1;rw[if_pos (by omega)];refine fB (P:=λo=>match o with|.inl _=>True|.inr b=>∃r,b=.inr r) (xP i (by omega) (λ_=>True) trivial ?_ ?_) ?_ ?_;intro k hk _;have hk2:=gN (l:=l) (show k<l.length by omega);rw[if_pos (by omega),aJ hx,aJ hk2,aB ⟨ho _ (lG hx),ho _ (lG hk2)⟩];split;exact⟨_,rfl,.inr ⟨_,rfl,_,rfl⟩⟩;rw[aB (eM hk (by omega))];exact⟨_,rfl,.inl ⟨rfl,trivial⟩⟩;intro _;rw[if_neg (by omega)];exact⟨_,rfl,_,rfl,trivial⟩;intro a _;rw[aB (eM hi (by omega))];exact⟨_,rfl,.inl ⟨rfl,trivial⟩⟩;rintro b ⟨r,rfl⟩;exact .inr ⟨_,rfl,trivial⟩;intro _;rw[if_neg (by omega)];exact⟨_,rfl,_,rfl,trivial⟩
structure LayW (l:Aq):Prop where
 name:l.name.size<=1000000000000000
 Aa:∀s∈l.Aa,s.size<=1000000000000000
 Ar:∀x∈l.Ar,A6.Wf x
 joints:l.joints.length<=100000000/\∀j∈l.joints,End.ok j.a/\End.ok j.b
 Au:∀s∈l.Au,A9.Wf s
 balises:∀s∈l.balises,Fd.Wf s
structure LayS (l:Aq):Prop where
 Ar:1<=l.Ar.length/\l.Ar.length<=32
 Aa:1<=l.Aa.length/\l.Aa.length<=24
 Au:l.Au.length<=20
 balises:l.balises.length<=24
theorem Names_t(l:Aq)(hs:LayS l):oV (vS l) λr=>r.a0=l.Aa/\r.a1=l.Ar.map (·.name)/\r.a2=l.Au.map (·.name):=by
 have h1:=hs.Ar;have h2:=hs.Aa;have h3:=hs.Au;refine⟨⟨l.Aa,l.Ar.map (·.name),l.Au.map (·.name)⟩,?_,rfl,rfl,rfl⟩;unfold vS;rw[gE,aB (by omega)];rw[lR l.Ar.length (λi=>(l.Ar.take i).map (·.name)) (o:=l.Ar.map (·.name)) (by simp) (by omega) (λi hi=>?_) (by dsimp only;rw[if_neg (by omega),oD];rfl),aA];rw [lR l.Au.length (fun i => (l.Au.take i).map (·.name)) (o := l.Au.map (·.name)) (by simp) (by omega) (fun i hi => ?_) (by dsimp only; rw [if_neg (by omega), oD]; rfl), aA];have hx:=gN hi;dsimp only;rw[if_pos (by omega),aJ hx,aB (by simp;omega),aB (bG hi (by omega)),mF,hx,mU];rfl;have hx:=gN hi;dsimp only;rw[if_pos (by omega),aJ hx,aB (by simp;omega),aB (bG hi (by omega)),mF,hx,mU];rfl
theorem Named_t(l:Aq)(hw:LayW l):oV (vT l) λr=>r=0->LayS l:=by
 unfold vT;split;exact tot_some.2 (by intro h;cases h);rename_i hc
 have hs:LayS l:=by
  simp only[lC,decide_eq_true_eq,not_or]at hc;exact⟨by omega,by omega,by omega,by omega⟩
 have h1:=hs.Ar;have h2:=hs.Aa;have h3:=hs.Au;refine aP (Names_t l hs) ?_;rintro⟨a0,a1,a2⟩ ⟨q0,q1,q2⟩;dsimp only at q0 q1 q2⊢;have l0:a0.length<=24:=by rw[q0];omega
 have l1:a1.length<=32:=by rw[q1,vg];omega
 have l2:a2.length<=20:=by rw[q2,vg];omega
 have hsz:∀s∈(([l.name]++a0)++a1)++a2,s.size<=1000000000000000:=by
  intro s hs;simp only[zQN,zal102q]at hs;rcases hs with((rfl|hs)|hs)|hs
  exact hw.name;rw[q0]at hs;exact hw.Aa s hs;rw[q1]at hs;obtain⟨x,hx,rfl⟩:=zal96q.1 hs;have:=Ej (hw.Ar x hx).name;exact jL this (by omega);rw[q2]at hs;obtain⟨x,hx,rfl⟩:=zal96q.1 hs;have:=Ej (hw.Au x hx).name;exact jL this (by omega)
 rw[aB (by simp;omega),aB (by simp;omega),aB (by simp;omega)];refine fB (P:=λo=>match o with|.inl _=>True|.inr b=>b≠0) (mB ((([l.name]++a0)++a1)++a2) (by simp;omega) (λ_=>True) trivial ?_ ?_) ?_ ?_;intro i e hx _;have hi:=(zQQ.1 hx).1;rw[if_pos (by omega),aJ hx];refine aP (Name_t e (hsz e (lG hx))) λb _=>?_;split;exact⟨_,rfl,.inr ⟨_,rfl,by decide⟩⟩;rw[aB (eM hi (by simp;omega))];exact⟨_,rfl,.inl ⟨rfl,trivial⟩⟩;intro _;rw[if_neg (by omega)];exact⟨_,rfl,_,rfl,trivial⟩;intro a _;refine aP (P:=λ_=>True) ?_ λb _=>?_;refine aP (Om a0 (by omega)) fun b _ => ?_;split;exact tot_some.2 trivial;refine aP (Om a1 (by omega)) fun b _ => ?_;split;exact tot_some.2 trivial;exact aP (Om a2 (by omega)) λb _=>tot_some.2 trivial;split
 ·exact tot_some.2 λh=>by cases h
 exact tot_some.2 λ_=>hs;intro b hb h0;exact absurd h0 hb
theorem Right_t(l:Aq)(x:A6):oV (vR l x) λr=>r=true->1<=x.kind/\x.kind<=3/\500<=x.length/\x.length<=1000000/\0<=x.A4/\x.A4<(l.Aa.length:Int):=by
 unfold vR;split;exact tot_some.2 (by simp);rename_i hc;simp only[lC,decide_eq_true_eq,not_or]at hc;have:1<=x.kind/\x.kind<=3/\500<=x.length/\x.length<=1000000/\0<=x.A4/\x.A4<(l.Aa.length:Int):=by omega
 split<;>exact tot_some.2 λ_=>this
theorem qCP(l:Aq)(s:Int)(hl:l.Ar.length<=1000):oV (rX l s) λr=>r.length<=l.Ar.length:=by
 unfold rX;refine aP (P:=λr=>r.length<=l.Ar.length) (hU (λi s=>s.1=(i:Int)/\s.2.length<=i) l.Ar.length (by omega) ⟨rfl,gS _⟩ ?_ ?_) λa h=>tot_some.2 h;rintro i ⟨x,b⟩ hi ⟨h1,h2⟩;dsimp only at h1 h2;subst h1;dsimp only;rw[if_pos (by omega),aJ (gN hi)];split;rw [aB (by simp; omega), aB (eM hi (by omega))];exact tot_some.2 ⟨by push_cast;rfl,by simp;omega⟩;rw [aB (eM hi (by omega))];exact tot_some.2 ⟨by push_cast;rfl,by show b.length<=i+1;omega⟩;rintro⟨x,b⟩ ⟨h1,h2⟩;dsimp only at h1 h2;subst h1;dsimp only;rw[if_neg (by omega)];exact tot_some.2 h2
theorem Yv(l:Aq)(hw:LayW l)(hs:LayS l):oV (qO l) λr=>r=0->(∀x∈l.Ar,1<=x.kind/\x.kind<=3/\500<=x.length/\x.length<=1000000/\0<=x.A4/\x.A4<(l.Aa.length:Int))/\(∀j∈l.joints,kS l j.a/\kS l j.b):=by
 have h1:=hs.Ar;have h2:=hs.Aa;have h3:=hw.joints;unfold qO;refine fB (P:=λo=>match o with|.inl _=>∀x∈l.Ar,1<=x.kind/\x.kind<=3/\500<=x.length/\x.length<=1000000/\0<=x.A4/\x.A4<(l.Aa.length:Int)|.inr b=>b≠0) (mB l.Ar (by omega) (λi=>∀k x,k<i->l.Ar[k]?=some x->1<=x.kind/\x.kind<=3/\500<=x.length/\x.length<=1000000/\0<=x.A4/\x.A4<(l.Aa.length:Int)) (λk x hk=>absurd hk (mQ k)) ?_ ?_) ?_ (λb hb h0=>absurd h0 hb);intro i e hx hI;have hi:=(zQQ.1 hx).1;rw[if_pos (by omega),aJ hx];refine aP (Right_t l e) λr hr=>?_
 cases r with
 |false=>exact⟨_,rfl,.inr ⟨_,rfl,(by decide:(1:Int)≠0)⟩⟩
 |true=>
  rw[if_neg (by simp),aB (eM hi (by omega))];refine⟨_,rfl,.inl ⟨rfl,λk x hk hkx=>?_⟩⟩;rcases gM k i with h|h
  exact hI k x h hkx;obtain rfl : k = i := by omega
  rw[hx]at hkx;cases hkx;exact hr rfl
 intro hI;rw[if_neg (by omega)];refine⟨_,rfl,_,rfl,λx hx=>?_⟩;obtain⟨k,hk⟩:=nS hx;exact hI k x (zQQ.1 hk).1 hk;intro _ hright;refine fB (P:=λo=>match o with|.inl _=>True|.inr b=>b≠0) (xP l.Aa.length (by omega) (λ_=>True) trivial ?_ ?_) ?_ (λb hb h0=>absurd h0 hb);intro i hi _;rw[if_pos (by omega)];refine aP (qCP l i (by omega)) λr _=>?_;split;exact⟨_,rfl,.inr ⟨_,rfl,(by decide:(1:Int)≠0)⟩⟩;rw [aB (eM hi (by omega))];exact⟨_,rfl,.inl ⟨rfl,trivial⟩⟩;intro _;rw[if_neg (by omega)];exact⟨_,rfl,_,rfl,trivial⟩;intro _ _;refine fB (P:=λo=>match o with|.inl b=>(b.length=2*l.joints.length/\∀e∈b,End.ok e)/\∀j∈l.joints,kS l j.a/\kS l j.b|.inr b=>b≠0) (hU (λi s=>s.1=(i:Int)/\s.2.length=2*i/\(∀e∈s.2,End.ok e)/\∀k j,k<i->l.joints[k]?=some j->kS l j.a/\kS l j.b) l.joints.length (by omega) ⟨rfl,rfl,λe he=>(by cases he),λk x hk=>absurd hk (mQ k)⟩ ?_ ?_) ?_ (λb hb h0=>absurd h0 hb);rintro i ⟨x,b⟩ hi ⟨q1,q2,q3,q4⟩;dsimp only at q1 q2 q3 q4;subst q1;dsimp only;have hx:=gN hi;have hm:=fH hi;rw[if_pos (by omega),aJ hx];refine aP (P:=λr=>r=false->kS l l.joints[i].a/\kS l l.joints[i].b) ?_ λr hr=>?_;refine aP (Jo l _) fun r1 hr1 => ?_
 cases r1 with
 |false=>exact tot_some.2 (by simp)
 |true=>
  rw[if_neg (by simp)];refine aP (Jo l _) λr2 hr2=>?_
  cases r2 with
  |false=>exact tot_some.2 (by simp)
  |true=>
   rw[if_neg (by simp),aB (h3.2 _ hm)];exact tot_some.2 λ_=>⟨hr1 rfl,hr2 rfl⟩
 cases r with
 |true=>exact⟨_,rfl,(by decide:(1:Int)≠0)⟩
 |false=>
  rw[if_neg (by simp),aB (by simp;omega),aB (eM hi (by omega))];refine tot_some.2 ⟨by push_cast;rfl,by simp;omega,?_,?_⟩;intro e he;rcases zQN.1 he with he|he
  exact q3 e he;simp only[zQB,qZ,or_false]at he;rcases he with rfl|rfl
  exact(h3.2 _ hm).1;exact(h3.2 _ hm).2;intro k j hk hkx;rcases gM k i with h|h
  exact q4 k j h hkx;obtain rfl : k = i := by omega
  rw[hx]at hkx;cases hkx;exact hr rfl
 rintro⟨x,b⟩ ⟨q1,q2,q3,q4⟩;dsimp only at q1 q2 q3 q4;subst q1;dsimp only;rw[if_neg (by omega)];refine⟨_,rfl,⟨q2,q3⟩,λx hx=>?_⟩;obtain⟨k,hk⟩:=nS hx;exact q4 k x (zQQ.1 hk).1 hk;rintro b ⟨⟨q2,q3⟩,q4⟩;refine aP (Ends_t b (by omega) q3) λr _=>?_;split;exact tot_some.2 λh=>by cases h
 exact tot_some.2 λ_=>⟨hright,q4⟩
theorem Joined_t(l:Aq)(e:End)(hw:LayW l)(he:End.ok e):oV (kG l e) λr=>(r.2=true->∃j∈l.joints,r.1=j.a\/r.1=j.b)/\End.ok r.1:=by
 have h3:=hw.joints;unfold kG;refine fB (P:=λo=>match o with|.inl _=>True|.inr r=>(r.2=true->∃j∈l.joints,r.1=j.a\/r.1=j.b)/\End.ok r.1) (mB l.joints (by omega) (λ_=>True) trivial ?_ ?_) ?_ (λb hb=>hb);intro i j hx _;have hi:=(zQQ.1 hx).1;have hm:=lG hx;have ho:=h3.2 j hm;rw[if_pos (by omega),aJ hx,aB ⟨ho.1,he⟩];split;exact⟨_,rfl,.inr ⟨_,rfl,λ_=>⟨j,hm,.inr rfl⟩,ho.2⟩⟩;rw[aB ⟨ho.2,he⟩];split;exact⟨_,rfl,.inr ⟨_,rfl,λ_=>⟨j,hm,.inl rfl⟩,ho.1⟩⟩;rw [aB (eM hi (by omega))];exact⟨_,rfl,.inl ⟨rfl,trivial⟩⟩;intro _;rw[if_neg (by omega)];exact⟨_,rfl,_,rfl,trivial⟩;intro _ _;exact tot_some.2 ⟨λh=>(by cases h),by show bH 0/\bH 0;unfold bH;omega⟩
structure LayK (l:Aq):Prop where
 w:LayW l
 s:LayS l
 right:∀x∈l.Ar,1<=x.kind/\x.kind<=3/\500<=x.length/\x.length<=1000000/\0<=x.A4/\x.A4<(l.Aa.length:Int)
 joints:∀j∈l.joints,kS l j.a/\kS l j.b
theorem xc(l:Aq)(e:End)(hk:LayK l)(he:End.ok e):oV (kG l e) λr=>(r.2=true->kS l r.1)/\End.ok r.1:=
 vK (Joined_t l e hk.w he) λr ⟨h1,h2⟩=>⟨λh=>by
  obtain⟨j,hj,hr|hr⟩:=h1 h;rw[hr];exact(hk.joints j hj).1
  rw[hr];exact(hk.joints j hj).2,h2⟩
theorem qCL(l:Aq)(hk:LayK l):oV (rU l) λr=>r=0->∀s∈l.Au,kS l s.atV/\0<=s.overlap/\s.overlap<=1000000:=by
 have h1:=hk.s.Ar;have h2:=hk.s.Au;unfold rU;refine fB (P:=λo=>match o with|.inl b=>b.length=l.Au.length/\(∀e∈b,kS l e)/\∀s∈l.Au,kS l s.atV/\0<=s.overlap/\s.overlap<=1000000|.inr b=>b≠0) (hU (λi s=>s.1=(i:Int)/\s.2.length=i/\(∀e∈s.2,kS l e)/\∀k j,k<i->l.Au[k]?=some j->kS l j.atV/\0<=j.overlap/\j.overlap<=1000000) l.Au.length (by omega) ⟨rfl,rfl,λe he=>(by cases he),λk x hk=>absurd hk (mQ k)⟩ ?_ ?_) ?_ (λb hb h0=>absurd h0 hb);rintro i ⟨x,b⟩ hi ⟨q1,q2,q3,q4⟩;dsimp only at q1 q2 q3 q4;subst q1;dsimp only;have hx:=gN hi;rw[if_pos (by omega),aJ hx];refine aP (P:=λr=>r=false->kS l l.Au[i].atV/\0<=l.Au[i].overlap/\l.Au[i].overlap<=1000000) ?_ λr hr=>?_;refine aP (Jo l _) fun r1 hr1 => ?_
 cases r1 with
 |false=>exact tot_some.2 (by simp)
 |true=>
  rw[if_neg (by simp)];split;exact tot_some.2 (by simp);exact tot_some.2 λh=>⟨hr1 rfl,by omega,by have:=of_decide_eq_false h;omega⟩
 cases r with
 |true=>exact⟨_,rfl,(by decide:(1:Int)≠0)⟩
 |false=>
  rw[if_neg (by simp),aB (by simp;omega),aB (eM hi (by omega))];refine tot_some.2 ⟨by push_cast;rfl,by simp;omega,?_,?_⟩;intro e he;rcases zQN.1 he with he|he
  exact q3 e he;rw[zal102q]at he;subst he;exact(hr rfl).1;intro k j hk hkx;rcases gM k i with h|h
  exact q4 k j h hkx;obtain rfl : k = i := by omega
  rw[hx]at hkx;cases hkx;exact hr rfl
 rintro⟨x,b⟩ ⟨q1,q2,q3,q4⟩;dsimp only at q1 q2 q3 q4;subst q1;dsimp only;rw[if_neg (by omega)];refine⟨_,rfl,q2,q3,λx hx=>?_⟩;obtain⟨k,hk⟩:=nS hx;exact q4 k x (zQQ.1 hk).1 hk;rintro b ⟨q2,q3,q4⟩;have hok:∀e∈b,End.ok e:=λe he=>Er (q3 e he) (by omega);refine aP (Ends_t b (by omega) hok) λr _=>?_;split;exact tot_some.2 λh=>by cases h
 refine fB (P := fun o => match o with | .inl _ => True | .inr b => b ≠ 0) (mB b (by omega) (fun _ => True) trivial ?_ ?_) ?_ (fun b hb h0 => absurd h0 hb)
 ·intro i e hx _;have hi:=(zQQ.1 hx).1;have hm:=lG hx;rw[if_pos (by omega),aJ hx];refine aP (xc l e hk (hok e hm)) ?_;rintro⟨f,y⟩ ⟨hf,_⟩;dsimp only at hf⊢;refine aP (P:=λ_=>True) ?_ λr _=>?_
  cases y with
  |false=>exact tot_some.2 trivial
  |true=>
   have hf:=hf rfl;have he:=q3 e hm;rw[if_neg (by simp)];exact jM hf.1 hf.2.1 λ_ _ _=>jM he.1 he.2.1 λ_ _ _=>tot_some.2 trivial
  split
  ·exact⟨_,rfl,.inr ⟨_,rfl,(by decide:(14:Int)≠0)⟩⟩
  rw [aB (eM hi (by omega))];exact⟨_,rfl,.inl ⟨rfl,trivial⟩⟩
 intro _;rw[if_neg (by omega)];exact⟨_,rfl,_,rfl,trivial⟩;intro _ _;exact tot_some.2 λ_=>q4
theorem qCT(l:Aq)(hk:LayK l):oV (rW l) λ_=>True:=by
 have h1:=hk.s.balises;unfold rW;refine fB (P:=λo=>match o with|.inl b=>b.length=l.balises.length|.inr b=>True) (hU (λi s=>s.1=(i:Int)/\s.2.length=i) l.balises.length (by omega) ⟨rfl,rfl⟩ ?_ ?_) ?_ (λb hb=>trivial);rintro i ⟨x,b⟩ hi ⟨q1,q2⟩;dsimp only at q1 q2;subst q1;dsimp only;have hx:=gN hi;rw[if_pos (by omega),aJ hx];refine aP (P:=λ_=>True) ?_ λr _=>?_;split
 ·exact tot_some.2 trivial
 split
 ·exact tot_some.2 trivial
 split
 ·exact tot_some.2 trivial
 split
 ·exact tot_some.2 trivial
 split
 ·exact tot_some.2 trivial
 exact jM (by omega) (by omega) λ_ _ _=>tot_some.2 trivial;split
 ·exact⟨_,rfl,trivial⟩
 rw [aB (by simp; omega), aB (eM hi (by omega))];exact tot_some.2 ⟨by push_cast;rfl,by simp;omega⟩;rintro⟨x,b⟩ ⟨q1,q2⟩;dsimp only at q1 q2;subst q1;dsimp only;rw[if_neg (by omega)];exact⟨_,rfl,q2⟩;intro b hb;have hb:b.length=l.balises.length:=hb;refine aP (qCO b (by omega)) λr _=>?_;split<;>exact tot_some.2 trivial
structure LayC (l:Aq):Prop where
 k:LayK l
 sigs:∀s∈l.Au,kS l s.atV/\0<=s.overlap/\s.overlap<=1000000
theorem qCR(l:Aq)(hw:LayW l):oV (vU l) λr=>r=0->LayC l:=by
 unfold vU;refine aP (Named_t l hw) λr1 h1=>?_;split;rename_i e1;have hs:=h1 e1;refine aP (Yv l hw hs) λr2 h2=>?_;split;rename_i e2;have hk:LayK l:=⟨hw,hs,(h2 e2).1,(h2 e2).2⟩;refine aP (qCL l hk) λr3 h3=>?_;split;rename_i e3;exact aP (qCT l hk) λr4 _=>tot_some.2 λ_=>⟨hk,h3 e3⟩;rename_i e3;exact tot_some.2 λh=>absurd h e3;rename_i e2;exact tot_some.2 λh=>absurd h e2;rename_i e1;exact tot_some.2 λh=>absurd h e1
theorem legs_all:∀k:Fin 3,∀a:Fin 4,((uW ((k.val:Int)+1) (a.val:Int)).any λr=>decide (r.length<=2)&&r.all λx=>decide (0<=x/\x<4))=true:=by decide+kernel
theorem Need_out{k a b:Int}(h:a<0\/4<=a)(hb:0<=b/\b<4):mW k a b=some (0,false):=by
 have h1:¬(min a b=0/\max a b=1):=by omega
 have h2:¬(min a b=2/\max a b=3):=by omega
 have h3:¬(min a b=0/\max a b=2):=by omega
 unfold mW
 have e1:(bif decide (min a b=0)then(decide (max a b=1)||(decide (k=3)&&(decide (min a b=2)&&decide (max a b=3))))else(decide (k=3)&&(decide (min a b=2)&&decide (max a b=3))))=false:=by
  by_cases q1:min a b=0;have q2 : ¬ max a b = 1 := fun h => h1 ⟨q1, h⟩;have q3:¬min a b=2:=by omega
  simp[q1,q2];by_cases q3:min a b=2
  ·have q4 : ¬ max a b = 3 := fun h => h2 ⟨q3, h⟩;simp[q3,q4]
  simp[q1,q3]
 rw[e1];split;rfl;rw[if_neg (by simp only[wP,decide_eq_true_eq];omega),if_neg (by simp only[wP,decide_eq_true_eq];omega)]
theorem Legs_t{k:Int}(a:Int)(hk:1<=k/\k<=3):oV (uW k a) λr=>r.length<=2/\∀x∈r,0<=x/\x<4:=by
 by_cases ha:a<0\/4<=a;refine ⟨[], ?_, by simp, by simp⟩;unfold uW;rw[lR 4 (λ_=>[]) (o:=[]) rfl (by omega) (λi hi=>?_) (by dsimp only;rw[if_neg (by omega)];rfl)];rfl;dsimp only;rw[if_pos (by omega),Need_out ha (by omega),aA];dsimp only;rw[if_neg gB,aB (eM (n:=4) hi (by omega))];have h := legs_all ⟨(k - 1).toNat, by omega⟩ ⟨a.toNat, by omega⟩;dsimp only at h;rw[show(((k-1).toNat:Int)+1)=k by omega,show((a.toNat:Int))=a by omega,Option.any_eq_true]at h;obtain⟨r,h1,h2⟩:=h;simp only[wP,decide_eq_true_eq,zQT]at h2;exact⟨r,h1,h2⟩
def rP(l:Aq)(s:Aw):Prop:=0<=s.el/\s.el<(l.Ar.length:Int)/\0<=s.out/\s.out<4/\bH s.inV
theorem O4{l:Aq}{s:Aw}(hk:LayK l)(h:rP l s):End.ok ⟨s.el,s.out⟩:=by
 have:=hk.s.Ar;obtain⟨h1,h2,h3,h4,_⟩:=h;show bH s.el/\bH s.out;unfold bH;omega
theorem C2(l:Aq)(i:Int):nO l i=some (decide (0<=i/\i<(l.Ar.length:Int))):=by
 unfold nO;rw[<- Bool.decide_and]
theorem Jr{l:Aq}(hk:LayK l)(e:End)(he:End.ok e):oV (oM l e) λr=>r.length<=2/\∀s∈r,rP l s:=by
 have hl:=hk.s.Ar;unfold oM;rw[C2,aA];by_cases hx:0<=e.el/\e.el<(l.Ar.length:Int);rw [decide_eq_true hx, if_neg (by simp)];refine jM hx.1 hx.2 λx hxm _=>?_;have hr:=hk.right x hxm;refine aP (Legs_t e.side ⟨hr.1,hr.2.1⟩) ?_;rintro r ⟨h1,h2⟩;refine aP (P:=λr=>r.length<=2/\∀s∈r,rP l s) (hU (λi s=>s.1=(i:Int)/\s.2.length<=i/\∀x∈s.2,rP l x) r.length (by omega) ⟨rfl,gS _,λx h=>(by cases h)⟩ ?_ ?_) λa h=>tot_some.2 h;rintro i ⟨y,b⟩ hi ⟨q1,q2,q3⟩;dsimp only at q1 q2 q3;subst q1;dsimp only;have hy:=gN hi;have hm:=h2 _ (fH hi);rw[if_pos (by omega),aJ hy,aB (by simp;omega),aB (eM hi (by omega))];refine tot_some.2 ⟨by push_cast;rfl,by simp;omega,?_⟩;intro s hs;rcases zQN.1 hs with hs|hs
 exact q3 s hs;rw[zal102q]at hs;subst hs;exact⟨hx.1,hx.2,hm.1,hm.2,he.2⟩;rintro⟨y,b⟩ ⟨q1,q2,q3⟩;dsimp only at q1 q2 q3;subst q1;dsimp only;rw[if_neg (by omega)];exact⟨_,rfl,by omega,q3⟩;rw [decide_eq_false hx, if_pos (by rfl)];exact tot_some.2 ⟨by simp,by simp⟩
theorem Vb(l:Aq)(s:Aw):oV (sM l s) λr=>0<=r.1/\r.1<=2/\(r.2=true->0<=s.el/\s.el<(l.Ar.length:Int)):=by
 unfold sM;rw[C2,aA];by_cases hx:0<=s.el/\s.el<(l.Ar.length:Int);rw [decide_eq_true hx, if_neg (by simp)];refine jM hx.1 hx.2 λx _ _=>?_;refine aP (Yt _ _ _) ?_;rintro⟨a,b⟩ ⟨h1,h2⟩;exact tot_some.2 ⟨h1,h2,λ_=>hx⟩;rw [decide_eq_false hx, if_pos (by rfl)];exact tot_some.2 ⟨by decide,by decide,λh=>by cases h⟩
theorem On{l:Aq}(hk:LayK l){s:Aw}(h:rP l s):oV (pF l s) λr=>(r.2=true->kS l r.1)/\End.ok r.1:=by
 unfold pF;refine aP (xc l _ hk (O4 hk h)) ?_;rintro⟨a,b⟩ h;exact tot_some.2 h
theorem Valid_t{l:Aq}(hk:LayK l){w:List Aw}(h:∀s∈w,rP l s):oV (vQ l w) λ_=>True:=by
 unfold vQ;split;exact tot_some.2 trivial;rename_i hc;simp only[lC,decide_eq_true_eq,not_or]at hc;refine fB (P:=λ_=>True) (mB w (by omega) (λ_=>True) trivial ?_ ?_) (λ_ _=>tot_some.2 trivial) (λ_ _=>trivial);intro i e hx _;have hi:=(zQQ.1 hx).1;rw[if_pos (by omega)];refine fB (P:=λo=>match o with|.inl _=>True|.inr b=>∃r,b=.inr r) ?_ ?_ ?_;rw[aJ hx];refine aP (Vb l e) ?_;rintro⟨a,b⟩ _;dsimp only;split;exact⟨_,rfl,_,rfl⟩;refine fB (P := fun o => match o with | .inl _ => True | .inr b => match b with | .inl _ => False | .inr c => ∃ r, c = .inr r) ?_ ?_ ?_
 ·split
  ·rename_i hz;have hy:=gN (l:=w) (show i-1<w.length by omega);rw[aB (by unfold bH;omega),show(i:Int)-1=((i-1:Nat):Int) by omega,aJ hy];refine aP (On hk (h _ (fH _))) ?_;rintro⟨f,j⟩ _;dsimp only;refine aP (P:=λ_=>True) ?_ λr _=>?_;split
   ·exact tot_some.2 trivial
   rw[aJ hx];split;rw[aJ hx];exact tot_some.2 trivial;exact tot_some.2 trivial;split
   ·exact⟨_,rfl,_,rfl⟩
   exact⟨_,rfl,trivial⟩
  exact⟨_,rfl,trivial⟩
 intro _ _;refine xP i (by omega) (λ_=>True) trivial ?_ ?_;intro k hk2 _;have hy:=gN (l:=w) (show k<w.length by omega);rw[if_pos (by omega),aJ hy,aJ hx];split;exact⟨_,rfl,.inr ⟨_,rfl,_,rfl⟩⟩;rw[aB (eM hk2 (by omega))];exact⟨_,rfl,.inl ⟨rfl,trivial⟩⟩;intro _;rw[if_neg (by omega)];exact⟨_,rfl,_,rfl,trivial⟩;intro b hb
 cases b with
 |inl _=>exact hb.elim
 |inr c=>exact hb
 intro a _;rw[aB (eM hi (by omega))];exact⟨_,rfl,.inl ⟨rfl,trivial⟩⟩;rintro b ⟨r,rfl⟩;exact .inr ⟨_,rfl,trivial⟩;intro _;rw[if_neg (by omega)];exact⟨_,rfl,_,rfl,trivial⟩
theorem qCN{l:Aq}(i:Int):oV (kC l i) λr=>(0<=i/\i<(l.Ar.length:Int)/\∃x∈l.Ar,r=x.A4)\/r=-1:=by
 unfold kC;split;exact tot_some.2 (.inr rfl);rename_i hc;simp only[lC,decide_eq_true_eq,not_or]at hc;exact jM (by omega) (by omega) λx hx _=>tot_some.2 (.inl ⟨by omega,by omega,x,hx,rfl⟩)
theorem zS{l:Aq}(i:Int):oV (kC l i) λ_=>True:=vK (qCN i) λ_ _=>trivial
theorem has09_t(l:List Int)(n:Int)(hl:l.length<=1000000000):oV (ey l n) λ_=>True:=by
 unfold ey;refine fB (P:=λ_=>True) (mB l (by omega) (λ_=>True) trivial ?_ ?_) (λ_ _=>tot_some.2 trivial) (λ_ _=>trivial);intro i e hx _;have hi:=(zQQ.1 hx).1;rw[if_pos (by omega),aJ hx];split;exact⟨_,rfl,.inr ⟨_,rfl,trivial⟩⟩;rw[aB (eM hi (by omega))];exact⟨_,rfl,.inl ⟨rfl,trivial⟩⟩;intro _;rw[if_neg (by omega)];exact⟨_,rfl,_,rfl,trivial⟩
theorem Bo{l:Aq}{w:List Aw}(hw:w.length<=100000000):oV (mV l w) λr=>r.length<=w.length:=by
 unfold mV;refine aP (P:=λr=>r.length<=w.length) (hU (λi s=>s.1=(i:Int)/\s.2.length<=i) w.length (by omega) ⟨rfl,gS _⟩ ?_ ?_) λa h=>tot_some.2 h;rintro i ⟨y,b⟩ hi ⟨q1,q2⟩;dsimp only at q1 q2;subst q1;dsimp only;have hx:=gN hi;rw[if_pos (by omega)];refine aP (P:=λr=>r=true->0<=w[i].el/\w[i].el<(l.Ar.length:Int)) ?_ λr hr=>?_;rw[aJ hx,C2,aA];by_cases hc:0<=w[i].el/\w[i].el<(l.Ar.length:Int);rw[decide_eq_true hc,if_pos rfl,aJ hx];refine jM hc.1 hc.2 λx _ _=>?_;exact aP (has09_t _ _ (by omega)) λ_ _=>tot_some.2 λ_=>hc;rw[decide_eq_false hc,if_neg gB];exact tot_some.2 (by simp)
 cases r with
 |false=>
  rw[if_neg gB,aB (eM hi (by omega))];exact tot_some.2 ⟨by push_cast;rfl,by show b.length<=i+1;omega⟩
 |true=>
  have hr:=hr rfl;rw[if_pos rfl,aJ hx];refine jM hr.1 hr.2 λx _ _=>?_;rw[aB (by simp;omega),aB (eM hi (by omega))];exact tot_some.2 ⟨by push_cast;rfl,by simp;omega⟩
 rintro⟨y,b⟩ ⟨q1,q2⟩;dsimp only at q1 q2;subst q1;dsimp only;rw[if_neg (by omega)];exact⟨_,rfl,q2⟩
theorem Jm{l:Aq}(hk:LayK l){w:List Aw}(hw:w.length<=1000000):oV (rB l w) λr=>0<=r/\r<=1000000*(w.length:Int):=by
 unfold rB;refine aP (P:=λr=>0<=r/\r<=1000000*(w.length:Int)) (hU (λi s=>s.2=(i:Int)/\0<=s.1/\s.1<=1000000*(i:Int)) w.length (by omega) ⟨rfl,Int.le_refl _,Int.le_refl _⟩ ?_ ?_) λa h=>tot_some.2 h;rintro i ⟨a,y⟩ hi ⟨q1,q2,q3⟩;dsimp only at q1 q2 q3;subst q1;dsimp only;have hx:=gN hi;rw[if_pos (by omega),aJ hx,C2,aA];by_cases hc:0<=w[i].el/\w[i].el<(l.Ar.length:Int);rw[decide_eq_true hc,if_pos rfl,aJ hx];refine jM hc.1 hc.2 λx hxm _=>?_;have hr:=hk.right x hxm;rw[aB (by unfold bH;omega),aB (eM hi (by omega))];refine tot_some.2 ⟨by push_cast;rfl,by show 0<=a+x.length;omega,by show a+x.length<=_;push_cast;omega⟩;rw [decide_eq_false hc, if_neg gB, aB (eM hi (by omega))];exact tot_some.2 ⟨by push_cast;rfl,q2,by show a<=_;push_cast;omega⟩;rintro⟨a,y⟩ ⟨q1,q2,q3⟩;dsimp only at q1 q2 q3;subst q1;dsimp only;rw[if_neg (by omega)];exact⟨_,rfl,q2,q3⟩
theorem X3{l:List Ad}{s:Ad}(hl:l.length<=1000000)(ho:∀x∈l,Ad.ok x)(hs:Ad.ok s):oV (tV l s) λr=>r.length<=l.length+1/\∀x∈r,Ad.ok x:=by
 unfold tV;refine aP (P:=λo=>0<=o.1/\o.1<=(l.length:Int)/\(o.2.length:Int)=o.1/\∀x∈o.2,Ad.ok x) (hU (λi s=>s.1=(i:Int)/\s.2.length=i/\∀x∈s.2,Ad.ok x) l.length (by omega) ⟨rfl,rfl,λx h=>(by cases h)⟩ ?_ ?_) ?_;rintro i ⟨y,b⟩ hi ⟨q1,q2,q3⟩;dsimp only at q1 q2 q3;subst q1;dsimp only;have hx:=gN hi;rw[if_pos (by omega)];refine aP (P:=λ_=>True) ?_ λr _=>?_;rw[aJ hx];split;exact tot_some.2 trivial;rw[aJ hx];split;rw[aJ hx];exact tot_some.2 trivial;exact tot_some.2 trivial;split
 ·rw [aJ hx, aB (by simp; omega), aB (eM hi (by omega))];refine tot_some.2 ⟨by push_cast;rfl,by simp;omega,?_⟩;intro x hxm;rcases zQN.1 hxm with hxm|hxm
  exact q3 x hxm;rw[zal102q]at hxm;subst hxm;exact ho _ (fH hi)
 exact⟨_,rfl,by dsimp only;omega,by dsimp only;omega,by dsimp only;omega,q3⟩;rintro⟨y,b⟩ ⟨q1,q2,q3⟩;dsimp only at q1 q2 q3;subst q1;dsimp only;rw[if_neg (by omega),aA,if_neg gB];exact⟨_,rfl,by dsimp only;omega,by dsimp only;omega,by dsimp only;omega,q3⟩;rintro⟨i,b⟩ ⟨q1,q2,q3,q4⟩;dsimp only at q1 q2 q3 q4⊢;refine aP (P:=λr=>r.length<=b.length+1/\∀x∈r,Ad.ok x) ?_ ?_;refine aP (P := fun _ => True) ?_ fun r _ => ?_
 ·split
  ·exact tot_some.2 trivial
  refine jM q1 (by omega) fun x hx _ => ?_;rw[aB ⟨ho x hx,hs⟩];exact tot_some.2 trivial
 split
 ·rw [aB (by simp; omega)];refine tot_some.2 ⟨by simp,?_⟩;intro x hxm;rcases zQN.1 hxm with hxm|hxm
  exact q4 x hxm;rw[zal102q]at hxm;subst hxm;exact hs
 exact tot_some.2 ⟨by omega,q4⟩;rintro c ⟨c1,c2⟩
 have hsub:(sub l i (l.length:Int))=l.drop i.toNat:=by
  have:=O3 l i.toNat;rw[show((i.toNat:Nat):Int)=i by omega]at this;exact this
 have hlen:(sub l i (l.length:Int)).length=l.length-i.toNat:=by rw[hsub,xZ]
 rw[aB ⟨q1,q2,Int.le_refl _⟩,aB (by rw[kU,hlen];omega)];refine tot_some.2 ⟨by rw[kU,hlen];omega,?_⟩;intro x hxm;rcases zQN.1 hxm with hxm|hxm
 exact c2 x hxm;rw[hsub]at hxm;exact ho x (Mf hxm)
theorem Dc{l:Aq}(hk:LayK l){w:List Aw}(hw:w.length<=1000):oV (oL l w) λr=>r.length<=w.length/\∀x∈r,Ad.ok x:=by
 have hl:=hk.s.Ar;unfold oL;refine aP (P:=λr=>r.length<=w.length/\∀x∈r,Ad.ok x) (hU (λi s=>s.2=(i:Int)/\s.1.length<=i/\∀x∈s.1,Ad.ok x) w.length (by omega) ⟨rfl,gS _,λx h=>(by cases h)⟩ ?_ ?_) λa h=>tot_some.2 h;rintro i ⟨b,y⟩ hi ⟨q1,q2,q3⟩;dsimp only at q1 q2 q3;subst q1;dsimp only;have hx:=gN hi;rw[if_pos (by omega),aJ hx];refine aP (Vb l _) ?_;rintro⟨p,ok⟩ ⟨p1,p2,p3⟩;dsimp only at p1 p2 p3⊢;split;rename_i hc;simp only[wP]at hc;have hr:=p3 hc.1;rw[aJ hx];refine aP (X3 (s:=⟨w[i].el,p⟩) (by omega) q3 (by show bH _/\bH _;unfold bH;dsimp only;omega)) ?_;rintro r ⟨r1,r2⟩;rw[aB (eM hi (by omega))];exact tot_some.2 ⟨by push_cast;rfl,by show r.length<=i+1;omega,r2⟩;rw [aB (eM hi (by omega))];exact tot_some.2 ⟨by push_cast;rfl,by show b.length<=i+1;omega,q3⟩;rintro⟨b,y⟩ ⟨q1,q2,q3⟩;dsimp only at q1 q2 q3;subst q1;dsimp only;rw[if_neg (by omega)];exact⟨_,rfl,q2,q3⟩
theorem Wr{l:Aq}(hk:LayK l){e:End}(he:End.ok e):oV (rC l e) λr=>-1<=r/\r<(l.Au.length:Int):=by
 have hl:=hk.s.Au;unfold rC;refine fB (P:=λo=>match o with|.inl _=>True|.inr r=>-1<=r/\r<(l.Au.length:Int)) (mB l.Au (by omega) (λ_=>True) trivial ?_ ?_) (λ_ _=>tot_some.2 (by omega)) (λ_ h=>h);intro i s hx _;have hi:=(zQQ.1 hx).1;have hs:=(hk.w.Au s (lG hx)).atV;rw[if_pos (by omega),aJ hx,aB ⟨⟨hs.el,hs.side⟩,he⟩];split;exact⟨_,rfl,.inr ⟨_,rfl,by omega,by omega⟩⟩;rw[aB (eM hi (by omega))];exact⟨_,rfl,.inl ⟨rfl,trivial⟩⟩;intro _;rw[if_neg (by omega)];exact⟨_,rfl,_,rfl,trivial⟩
theorem Fits_t{l:Aq}(hk:LayK l)(e:End){w:List Aw}(h:∀s∈w,rP l s)(hw:w.length<=100):oV (yW l e w) λr=>r=true->w≠[]/\w.length<=12:=by
 unfold yW;refine aP (P:=λr=>r=false->w≠[]/\w.length<=12) ?_ λr hr=>?_;split
 ·exact tot_some.2 (by simp)
 rename_i h0;split;exact tot_some.2 (by simp);rename_i h12;have hne:w≠[]/\w.length<=12:=⟨λe=>h0 (by rw[e];rfl),by omega⟩;refine jM (by omega) (by omega) λx _ _=>?_;split;refine jM (by omega) (by omega) fun x _ _ => ?_;split;exact aP (Valid_t hk h) λ_ _=>tot_some.2 λ_=>hne;exact tot_some.2 (by simp);exact tot_some.2 (by simp)
 cases r with
 |true=>exact tot_some.2 (by simp)
 |false=>
  have hr:=hr rfl;have hpos:0<w.length:=zal77q.2 hr.1;rw[if_neg gB];refine aP (P:=λ_=>True) (hU (λi s=>s.2=(i:Int)+1/\0<=s.1/\s.1<=1+(i:Int)) (w.length-1) (by omega) ⟨rfl,by decide,by decide⟩ ?_ ?_) λc _=>?_;rintro i ⟨a,y⟩ hi ⟨q1,q2,q3⟩;dsimp only at q1 q2 q3;subst q1;dsimp only;have hx:=gN (l:=w) (show i+1<w.length by omega);have hy:=gN (l:=w) (show i<w.length by omega);rw[if_pos (by omega),show(i:Int)+1=((i+1:Nat):Int) by omega,aJ hx];refine aP (zS _) λr1 _=>?_;rw[aB (by unfold bH;omega),show(((i+1:Nat):Int)-1)=(i:Int) by omega,aJ hy];refine aP (zS _) λr2 _=>?_;split;rw [aB (by unfold bH; omega)];exact tot_some.2 ⟨by push_cast;rfl,q2,by show a<=_;push_cast;omega⟩;rw [aB (by unfold bH; omega), aB (by unfold bH; omega)];exact tot_some.2 ⟨by push_cast;rfl,by show 0<=a+1;omega,by show a+1<=_;push_cast;omega⟩;rintro⟨a,y⟩ ⟨q1,q2,q3⟩;dsimp only at q1 q2 q3;subst q1;dsimp only;rw[if_neg (by omega)];exact⟨_,rfl,trivial⟩;exact aP (Bo (by omega)) λ_ _=>tot_some.2 λ_=>hr
theorem Jp{l:Aq}(hk:LayK l){s:Aw}(h:rP l s):oV (qM l s) λr=>-1<=r.1/\r.1<(l.Au.length:Int):=by
 unfold qM;refine aP (Wr hk (O4 hk h)) λr hr=>?_;refine aP (On hk h) ?_;rintro⟨a,b⟩ _;exact tot_some.2 hr
def qAN(l:Aq)(w:List Aw):Prop:=w≠[]/\w.length<=12/\∀s∈w,rP l s
theorem pow_pos2(n:Nat):1<=2^n:=Nat.one_le_two_pow
theorem O9{l : Aq}(hk : LayK l)(e0 : End) : ∀ (fu : Nat) (p : Pc) (e : End) (w : List Aw), End.ok e -> w.length <= 12 -> 13 <= fu + w.length -> (∀ s ∈ w, rP l s) -> (∀ x ∈ p.l, qAN l x) -> p.l.length + 2 ^ (13 - w.length) <= 1000000 -> oV (iJ fu p l e0 e w) fun r => r.l.length <= p.l.length + 2 ^ (13 - w.length) /\ ∀ x ∈ r.l, qAN l x
 |0,p,e,w,he,h1,h2,_,_,_=>by omega
 |fu+1,p,e,w,he,h1,h2,hw,hp,hb=>by
  have h12:13-w.length=(12-w.length)+1:=by omega
  rw[h12,Nat.pow_succ]at hb⊢;have hpos:=pow_pos2 (12-w.length);generalize hE:2^(12-w.length)=E at hb hpos⊢;unfold iJ;refine aP (Jr hk e he) ?_;rintro r ⟨r1,r2⟩;refine hU (λi s=>s.1=(i:Int)/\s.2.length<=p.l.length+i*E/\∀x∈s.2,qAN l x) r.length (by omega) ⟨rfl,Nat.le_add_right _ _,hp⟩ ?_ ?_;rintro i ⟨y,b⟩ hi ⟨q1,q2,q3⟩;dsimp only at q1 q2 q3;subst q1;dsimp only;have hx:=gN hi;have hs:=r2 _ (fH hi);have hi1:i<=1:=by omega
  have hiE:i*E<=E:=by
   rcases F6 i with h|h
   rw[h,Nat.zero_mul];omega;rw[show i=1 by omega,Nat.one_mul];omega
  have hlong:∀s∈w++[r[i]],rP l s:=by
   intro s hsm;rcases zQN.1 hsm with hsm|hsm
   exact hw s hsm;rw[zal102q]at hsm;subst hsm;exact hs
  have hll:(w++[r[i]]).length=w.length+1:=by simp
  rw[if_pos (by omega),gE,aB (by omega),aJ hx,aB (by omega)];refine aP (Fits_t hk e0 hlong (by omega)) λok hok=>?_
  cases ok with
  |false=>
   rw[if_pos (by rfl),aB (eM hi (by omega))];exact tot_some.2 ⟨by push_cast;rfl,by show b.length<=_;rw[nA];omega,q3⟩
  |true=>
   have hok:=hok rfl;have hway:qAN l (w++[r[i]]):=⟨hok.1,hok.2,hlong⟩;rw[if_neg (by simp),aJ hx];refine aP (Jp hk hs) ?_;rintro⟨g,ends⟩ _;dsimp only;split;rw [aB (by simp; omega), aB (eM hi (by omega))];refine tot_some.2 ⟨by push_cast;rfl,by rw[nA];simp;omega,?_⟩;intro x hxm;rcases zQN.1 hxm with hxm|hxm
   exact q3 x hxm;rw[zal102q]at hxm;subst hxm;exact hway;rw[aJ hx];refine aP (On hk hs) ?_;rintro⟨f,j⟩ ⟨_,hf⟩;dsimp only at hf⊢;have hE2:2^(13-(w++[r[i]]).length)=E:=by rw[hll,<- hE,show 13-(w.length+1)=12-w.length by omega]
   refine aP (O9 hk e0 fu ⟨b⟩ f (w++[r[i]]) hf (by omega) (by omega) hlong q3 (by rw[hE2];show b.length+E<=_;omega)) ?_;rintro⟨b'⟩ ⟨c1,c2⟩;rw[hE2]at c1;dsimp only at c1 c2⊢;rw[aB (eM hi (by omega))];exact tot_some.2 ⟨by push_cast;rfl,by show b'.length<=_;rw[nA];omega,c2⟩
  rintro⟨y,b⟩ ⟨q1,q2,q3⟩;dsimp only at q1 q2 q3;subst q1;dsimp only;have:r.length*E<=2*E:=tJ _ r1;rw[if_neg (by omega)];exact⟨_,rfl,by dsimp only;omega,q3⟩
theorem eg(a b:BA):(a++b).size=a.size+b.size:=ve
theorem Lf(l:List Int):(strOfNums l).size=l.length:=by
 show(l.map _).toArray.size=_;simp
theorem qCC{n:Int}(h0:0<=n)(h1:n<=1000000000):oV (rT n) λr=>r.size<=1000000000:=by
 obtain⟨k,rfl⟩:∃k:Nat,n=(k:Int):=⟨n.toNat,by omega⟩;unfold rT;refine aP (P:=λr=>r.size<=1000000000) (hU (λi s=>∃m:Nat,s.1=(m:Int)/\m+i<=k/\s.2.size<=i) k (by omega) ⟨k,rfl,Ks _,Ks 0⟩ ?_ ?_) λa h=>tot_some.2 h;rintro i ⟨y,b⟩ hi ⟨m,q1,q2,q3⟩;dsimp only at q1 q3;subst q1;dsimp only;split;have e1:((m:Int).tmod 10)=((m%10:Nat):Int):=rfl;have e2:((m:Int).tdiv 10)=((m/10:Nat):Int):=rfl;have h10:¬((10:Int)=0):=by decide
 have e3:IntKind.i64.wrap ((m/10:Nat):Int)=((m/10:Nat):Int):=IntWalk.i64_in _ (by omega);rw[aB h10,e1,e2,e3,aB (by unfold bH;omega),aB (by rw[Lf];simp;omega),aB h10];refine tot_some.2 ⟨m/10,rfl,by omega,?_⟩;show(_++b).size<=_;rw[eg,Lf];simp;omega;exact⟨_,rfl,by show b.size<=_;omega⟩;rintro⟨y,b⟩ ⟨m,q1,q2,q3⟩;dsimp only at q1 q3;subst q1;dsimp only;rw[if_neg (by omega)];exact⟨_,rfl,by show b.size<=_;omega⟩
theorem W7{l:Aq}(hk:LayK l){a b:Int}(ha:0<=a/\a<(l.Au.length:Int))(hb:b<(l.Au.length:Int)):oV (sK l a b) λr=>r.size<=1000000000000000:=by
 have hn:∀s∈l.Au,s.name.size<=140737488351232:=λs hs=>Ej (hk.w.Au s hs).name;have c1:(⟨#[45,101,110,100]⟩:BA).size=4:=rfl;have c2:(⟨#[45]⟩:BA).size=1:=rfl;unfold sK;split;refine jM ha.1 ha.2 fun s hs _ => ?_;have:=hn s hs;rw[aB (by omega)];exact tot_some.2 (by rw[eg];omega);refine jM ha.1 ha.2 fun s hs _ => ?_;have:=hn s hs;rw[aB (by omega)];refine jM (by omega) hb λs' hs' _=>?_;have:=hn s' hs';rw[aB (by rw[eg];omega)];exact tot_some.2 (by rw[eg,eg];omega)
structure RtOk (l:Aq) (r:Ak):Prop where
 path:r.path.length<=12/\∀s∈r.path,rP l s
 Ag:r.Ag.length<=1000/\∀s∈r.Ag,Ad.ok s
 Aa:r.Aa.length<=1000
 over:r.over.length<=12/\∀s∈r.over,rP l s
 An:r.An.length<=1000/\∀s∈r.An,Ad.ok s
theorem From_t{l:Aq}(hc:LayC l)(g:Int):oV (yV l g) λr=>r.length<=8192/\∀x∈r,RtOk l x:=by
 have hk:=hc.k;have hl:=hk.s.Ar;have hsg:=hk.s.Au;unfold yV;split;exact tot_some.2 ⟨by simp,by simp⟩;rename_i hg;simp only[lC,decide_eq_true_eq,not_or]at hg;have hg:0<=g/\g<(l.Au.length:Int):=by omega
 refine jM hg.1 hg.2 λs hs hsx=>?_;refine aP (xc l _ hk (Er (hc.sigs s hs).1 (by omega))) ?_;rintro⟨e,j⟩ ⟨_,he⟩;dsimp only at he⊢;split;exact tot_some.2 ⟨by simp,by simp⟩;unfold sL;refine aP (O9 hk e eO ⟨[]⟩ e [] he (by simp) (by unfold eO;simp) (by simp) (by simp) (by decide)) ?_;rintro⟨W⟩ ⟨w1,w2⟩;have w1:W.length<=8192:=jL w1 (by decide);dsimp only at w2⊢
 have hlast:∀w∈W,∃x,w[w.length-1]?=some x/\rP l x/\1<=w.length/\w.length<=12:=by
  intro w hw;obtain⟨a1,a2,a3⟩:=w2 w hw;have hp:0<w.length:=zal77q.2 a1;exact⟨_,gN (show w.length-1<w.length by omega),a3 _ (fH _),hp,a2⟩
 refine aP (P:=λr=>r.length<=8192/\∀x∈r,RtOk l x) (hU (λi s=>s.1=(i:Int)/\s.2.length=i/\∀x∈s.2,RtOk l x) W.length (by omega) ⟨rfl,rfl,λx h=>(by cases h)⟩ ?_ ?_) λa h=>tot_some.2 h;rintro i ⟨y,b⟩ hi ⟨q1,q2,q3⟩;dsimp only at q1 q2 q3;subst q1;dsimp only;have hx:=gN hi;have hm:=fH hi;obtain⟨st,f1,f2,f3,f4⟩:=hlast _ hm;rw[if_pos (by omega)];refine aP (P:=λr=>r.length=i+1/\∀x∈r,RtOk l x) ?_ λr hr=>?_;rw [aJ hx, aB (by unfold bH; omega), show ((W[i].length : Int) - 1) = ((W[i].length - 1 : Nat) : Int) by omega, aJ f1];refine aP (Jp hk f2) ?_;rintro⟨g1,en⟩ ⟨g2,g3⟩;dsimp only at g2 g3⊢;refine aP (W7 hk hg g3) λnm hnm=>?_;refine aP (Dc hk (w:=W[i]) (by omega)) λps hps=>?_;refine aP (Bo (l:=l) (w:=W[i]) (by omega)) λss hss=>?_;refine aP (Jm hk (w:=W[i]) (by omega)) λlen _=>?_;refine jM hg.1 hg.2 λs2 _ _=>?_;refine aP (zS _) λap _=>?_;refine aP (P:=λr=>0<=r/\r<=(i:Int)+1) (hU (λk s=>s.2=(k:Int)/\0<=s.1/\s.1<=(k:Int)+1) i (by omega) ⟨rfl,by decide,by decide⟩ ?_ ?_) ?_;rintro k ⟨a,y⟩ hk2 ⟨p1,p2,p3⟩;dsimp only at p1 p2 p3;subst p1;dsimp only;have hx2:=gN (l:=W) (show k<W.length by omega);obtain⟨st2,k1,k2,k3,k4⟩:=hlast _ (fH (show k<W.length by omega));rw[if_pos (by omega),aJ hx2,aJ hx2,aB (by unfold bH;omega),show((W[k].length:Int)-1)=((W[k].length-1:Nat):Int) by omega,aJ k1];refine aP (Jp hk k2) ?_;rintro⟨m1,en2⟩ ⟨m2,m3⟩;dsimp only at m2 m3⊢;refine aP (W7 hk hg m3) λn1 _=>?_;refine aP (W7 hk hg g3) λn2 _=>?_;split;rw [aB (by unfold bH; omega), aB (eM hk2 (by omega))];exact tot_some.2 ⟨by push_cast;rfl,by show 0<=a+1;omega,by show a+1<=_;push_cast;omega⟩;rw [aB (eM hk2 (by omega))];exact tot_some.2 ⟨by push_cast;rfl,p2,by show a<=_;push_cast;omega⟩;rintro⟨a,y⟩ ⟨p1,p2,p3⟩;dsimp only at p1 p2 p3;subst p1;dsimp only;rw[if_neg (by omega)];exact⟨_,rfl,p2,p3⟩;rintro bf ⟨b1,b2⟩;refine aP (P:=λ_=>True) ?_ λnm2 _=>?_;split
 ·have c1:(⟨#[46]⟩:BA).size=1:=rfl;rw[aB (by omega)];refine aP (qCC b1 (by omega)) λdg hdg=>?_;rw[aB (by rw[eg];omega)];exact tot_some.2 trivial
 exact tot_some.2 trivial;rw [aB (by simp; omega)];refine tot_some.2 ⟨by simp;omega,?_⟩;intro x hxm;rcases zQN.1 hxm with hxm|hxm
 exact q3 x hxm;rw[zal102q]at hxm;subst hxm;exact⟨⟨f4,(w2 _ hm).2.2⟩,⟨by have:=hps.1;show ps.length<=1000;omega,hps.2⟩,by show ss.length<=1000;omega,⟨by simp,by simp⟩,⟨by simp,by simp⟩⟩;rw [aB (eM hi (by omega))];exact tot_some.2 ⟨by push_cast;rfl,hr⟩;rintro⟨y,b⟩ ⟨q1,q2,q3⟩;dsimp only at q1 q2 q3;subst q1;dsimp only;rw[if_neg (by omega)];exact⟨_,rfl,by omega,q3⟩
theorem All12_t{l:Aq}(hw:LayW l):oV (ex l) λr=>r.2=0->LayC l/\r.1.length<=48/\∀x∈r.1,RtOk l x:=by
 unfold ex;refine aP (qCR l hw) λr1 h1=>?_;split;rename_i e1;have hc:=h1 e1;have hsg:=hc.k.s.Au;refine aP (P:=λr=>∀x∈r,RtOk l x) (hU (λi s=>s.1=(i:Int)/\s.2.length<=i*8192/\∀x∈s.2,RtOk l x) l.Au.length (by omega) ⟨rfl,by simp,λx h=>(by cases h)⟩ ?_ ?_) λr hr=>?_;rintro i ⟨y,b⟩ hi ⟨q1,q2,q3⟩;dsimp only at q1 q2 q3;subst q1;dsimp only;rw[if_pos (by omega)];refine aP (From_t hc i) ?_;rintro r ⟨r1,r2⟩;rw[aB (by rw[kU];omega),aB (eM hi (by omega))];refine tot_some.2 ⟨by push_cast;rfl,by rw[kU];omega,?_⟩;intro x hxm;rcases zQN.1 hxm with hxm|hxm
 exact q3 x hxm;exact r2 x hxm;rintro⟨y,b⟩ ⟨q1,q2,q3⟩;dsimp only at q1 q2 q3;subst q1;dsimp only;rw[if_neg (by omega)];exact⟨_,rfl,q3⟩;split
 ·exact tot_some.2 λh=>by cases h
 exact tot_some.2 λ_=>⟨hc,by dsimp only;omega,hr⟩;rename_i e1;exact tot_some.2 λh=>absurd h e1
theorem Ys{l:Aq}(hs:LayS l):oV (tX l) λr=>r.length<=32/\∀x∈r,bH x:=by
 have hl:=hs.Ar;unfold tX;refine aP (P:=λr=>r.length<=32/\∀x∈r,bH x) (hU (λi s=>s.1=(i:Int)/\s.2.length<=i/\∀x∈s.2,bH x) l.Ar.length (by omega) ⟨rfl,gS _,λx h=>(by cases h)⟩ ?_ ?_) λa h=>tot_some.2 h;rintro i ⟨y,b⟩ hi ⟨q1,q2,q3⟩;dsimp only at q1 q2 q3;subst q1;dsimp only;rw[if_pos (by omega),aJ (gN hi)];split;rw [aB (by simp; omega), aB (eM hi (by omega))];refine tot_some.2 ⟨by push_cast;rfl,by simp;omega,λx hx=>?_⟩;rcases zQN.1 hx with hx|hx
 exact q3 x hx;rw[zal102q.1 hx];unfold bH;omega;rw [aB (eM hi (by omega))];exact tot_some.2 ⟨by push_cast;rfl,by show b.length<=i+1;omega,q3⟩;rintro⟨y,b⟩ ⟨q1,q2,q3⟩;dsimp only at q1 q2 q3;subst q1;dsimp only;rw[if_neg (by omega)];exact⟨_,rfl,by omega,q3⟩
theorem qCS{l:Aq}{r:Ak}{w:List Aw}(el:Int)(hw:w.length<=1000)(hr:r.Aa.length<=1000):oV (rS l r w el) λ_=>True:=by
 unfold rS;refine fB (P:=λ_=>True) (mB w (by omega) (λ_=>True) trivial ?_ ?_) ?_ (λ_ _=>trivial);intro i e hx _;have hi:=(zQQ.1 hx).1;rw[if_pos (by omega),aJ hx];split;exact⟨_,rfl,.inr ⟨_,rfl,trivial⟩⟩;rw[aB (eM hi (by omega))];exact⟨_,rfl,.inl ⟨rfl,trivial⟩⟩;intro _;rw[if_neg (by omega)];exact⟨_,rfl,_,rfl,trivial⟩;intro _ _;refine fB (P:=λ_=>True) (mB r.Aa (by omega) (λ_=>True) trivial ?_ ?_) (λ_ _=>tot_some.2 trivial) (λ_ _=>trivial);intro i e hx _;have hi:=(zQQ.1 hx).1;rw[if_pos (by omega),aJ hx];refine aP (zS _) λs _=>?_;split;exact⟨_,rfl,.inr ⟨_,rfl,trivial⟩⟩;rw[aB (eM hi (by omega))];exact⟨_,rfl,.inl ⟨rfl,trivial⟩⟩;intro _;rw[if_neg (by omega)];exact⟨_,rfl,_,rfl,trivial⟩
theorem Find13_t{l:Aq}(hc:LayC l){r:Ak}(hr:RtOk l r):oV (yU l r) λx=>RtOk l x:=by
 have hk:=hc.k;have hl:=hk.s.Ar;obtain⟨r1,r2,r3,r4,r5⟩:=hr;have hz:RtOk l ⟨r.name,r.entry,r.exit,r.path,r.Ag,r.Aa,r.A5,r.length,[],[],[],r.Ax,r.guards,r.gaps⟩:=⟨r1,r2,r3,⟨by simp,by simp⟩,⟨by simp,by simp⟩⟩;unfold yU ke;dsimp only;refine aP (P:=λx=>x.2=true->x.1∈l.Au) ?_ ?_;split
 ·exact tot_some.2 λh=>by cases h
 rename_i hg;simp only[lC,decide_eq_true_eq,not_or]at hg;exact jM (by omega) (by omega) λs hs _=>tot_some.2 λ_=>hs;rintro⟨sg,ok⟩ hsg;dsimp only at hsg⊢
 cases ok with
 |false=>rw[if_pos (by rfl)];exact tot_some.2 hz
 |true=>
  have hs:=hc.sigs sg (hsg rfl);rw[if_neg (by simp)];refine aP (xc l _ hk (Er hs.1 (by omega))) ?_;rintro⟨e,j⟩ ⟨_,he⟩;dsimp only at he⊢;refine aP (P:=λo=>o.1.length<=12/\∀s∈o.1,rP l s) (hU (λi s=>s.2.2.2.length=i/\(∀x∈s.2.2.2,rP l x)/\bH s.2.1/\bH s.2.2.1) 12 (by omega) ⟨rfl,λx h=>(by cases h),he.1,he.2⟩ ?_ ?_) ?_;rintro i ⟨j,c1,c2,b⟩ hi ⟨q1,q2,q3,q4⟩;dsimp only at q1 q2 q3 q4⊢;refine aP (P:=λ_=>True) ?_ λgo _=>?_;split
  ·refine aP (Jm hk (w := b) (by omega)) fun len _ => ?_;split;split
   ·exact aP (qCS _ (by omega) r3) λ_ _=>tot_some.2 trivial
   exact tot_some.2 trivial;exact tot_some.2 trivial
  exact tot_some.2 trivial;split
  ·refine aP (Jr hk _ ⟨q3,q4⟩) ?_;rintro br ⟨b1,b2⟩;split;exact⟨_,rfl,by show b.length<=12;omega,q2⟩;rename_i hne;refine jM (by omega) (by omega) λst hst hsx=>?_;rw[aB (by simp;omega)];refine jM (by omega) (by omega) λst2 hst2 _=>?_;refine aP (On hk (b2 st2 hst2)) ?_;rintro⟨f,j2⟩ ⟨_,hf⟩;refine tot_some.2 ⟨by simp;omega,?_,hf.1,hf.2⟩;intro x hxm;rcases zQN.1 hxm with hxm|hxm
   exact q2 x hxm;rw[zal102q]at hxm;subst hxm;exact b2 _ hst
  exact⟨_,rfl,by show b.length<=12;omega,q2⟩;rintro⟨j,c1,c2,b⟩ ⟨q1,q2,_⟩;dsimp only at q1 q2⊢;refine aP (P:=λr=>r=false) ?_ λgo hgo=>?_;split
  ·refine aP (Jm hk (w := b) (by omega)) fun len _ => ?_;split;rw [if_neg (by omega)];exact tot_some.2 rfl;exact tot_some.2 rfl
  exact tot_some.2 rfl;subst hgo;rw[if_neg gB];exact⟨_,rfl,by show b.length<=12;omega,q2⟩;rintro⟨b,c1,c2⟩ ⟨q1,q2⟩;dsimp only at q1 q2⊢;refine aP (Dc hk (w:=b) (by omega)) λps hps=>?_;refine aP (Bo (l:=l) (w:=b) (by omega)) λss hss=>?_;exact tot_some.2 ⟨r1,r2,r3,⟨q1,q2⟩,⟨by have:=hps.1;show ps.length<=1000;omega,hps.2⟩⟩
theorem Beside_t{l:Aq}(hk:LayK l)(s:Aw):oV (pE l s) λr=>r.length<=4/\∀e∈r,End.ok e:=by
 have hl:=hk.s.Ar;unfold pE;split;exact tot_some.2 ⟨by simp,by simp⟩;rename_i hg;simp only[lC,decide_eq_true_eq,not_or]at hg;refine jM (by omega) (by omega) λx _ _=>?_;refine aP (Yt _ _ _) ?_;rintro⟨a,ok⟩ _;dsimp only;have hsd:=O7 x.kind;refine aP (P:=λr=>r.length<=4/\∀e∈r,End.ok e) (hU (λi s=>s.1=(i:Int)/\s.2.length<=i/\∀e∈s.2,End.ok e) (Ds x.kind).toNat (by omega) ⟨rfl,gS _,λx h=>(by cases h)⟩ ?_ ?_) λa h=>tot_some.2 h;rintro i ⟨y,b⟩ hi ⟨q1,q2,q3⟩;dsimp only at q1 q2 q3;subst q1;dsimp only;rw[Jk,aA,if_pos (by omega)];split;rw [aB (by simp; omega), aB (eM hi (by omega))];refine tot_some.2 ⟨by push_cast;rfl,by simp;omega,?_⟩;intro e he;rcases zQN.1 he with he|he
 exact q3 e he;rw[zal102q]at he;subst he;show bH _/\bH _;unfold bH;dsimp only;omega;rw [aB (eM hi (by omega))];exact tot_some.2 ⟨by push_cast;rfl,by show b.length<=i+1;omega,q3⟩;rintro⟨y,b⟩ ⟨q1,q2,q3⟩;dsimp only at q1 q2 q3;subst q1;dsimp only;rw[Jk,aA,if_neg (by omega)];exact⟨_,rfl,by omega,q3⟩
theorem Hn{l:Aq}(hk:LayK l){w:List Aw}(hw:w.length<=12){b0:List End}(h0:b0.length<=100)(ho:∀e∈b0,End.ok e):oV (bB (λ((i6:Int),(b7:List End))=>
   if i6<(w.length:Int)then
    bC w i6 λe10=>
    aD (pE l e10) λr11=>
    aE ((b7++r11).length<=1000000000) <|
    aE (bH (i6+(1:Int))) <|
    some (.inl ((i6+(1:Int)),(b7++r11)))
   else
    aT (
     some b7)) ((0:Int),b0)) λ(r:List End)=>r.length<=b0.length+4*w.length/\∀e∈r,End.ok e:=by
 refine hU (λi s=>s.1=(i:Int)/\s.2.length<=b0.length+4*i/\∀e∈s.2,End.ok e) w.length (by omega) ⟨rfl,Nat.le_add_right _ _,ho⟩ ?_ ?_;rintro i ⟨y,b⟩ hi ⟨q1,q2,q3⟩;dsimp only at q1 q2 q3;subst q1;dsimp only;rw[if_pos (by omega),aJ (gN hi)];refine aP (Beside_t hk _) ?_;rintro r ⟨r1,r2⟩;rw[aB (by rw[kU];omega),aB (eM hi (by omega))];refine tot_some.2 ⟨by push_cast;rfl,by rw[kU];omega,?_⟩;intro e he;rcases zQN.1 he with he|he
 exact q3 e he;exact r2 e he;rintro⟨y,b⟩ ⟨q1,q2,q3⟩;dsimp only at q1 q2 q3;subst q1;dsimp only;rw[if_neg (by omega)];exact⟨_,rfl,q2,q3⟩
theorem qCM{l:Aq}(hk:LayK l){r:Ak}(hr:RtOk l r):oV (vP l r) λr=>r.length<=100/\∀e∈r,End.ok e:=by
 unfold vP;refine aP (Hn hk hr.path.1 (b0:=[]) (by simp) (by simp)) ?_;rintro b ⟨b1,b2⟩;have h1:=hr.path.1;have h2:=hr.over.1;simp only[jO]at b1;refine aP (Hn hk hr.over.1 (b0:=b) (by omega) b2) ?_;rintro c ⟨c1,c2⟩;exact tot_some.2 ⟨by omega,c2⟩
theorem Q5(w:List Aw)(n:Int)(hl:w.length<=1000000000):oV (uT w n) λ_=>True:=by
 unfold uT;refine fB (P:=λ_=>True) (mB w (by omega) (λ_=>True) trivial ?_ ?_) (λ_ _=>tot_some.2 trivial) (λ_ _=>trivial);intro i e hx _;have hi:=(zQQ.1 hx).1;rw[if_pos (by omega),aJ hx];split;exact⟨_,rfl,.inr ⟨_,rfl,trivial⟩⟩;rw[aB (eM hi (by omega))];exact⟨_,rfl,.inl ⟨rfl,trivial⟩⟩;intro _;rw[if_neg (by omega)];exact⟨_,rfl,_,rfl,trivial⟩
theorem Gr{l:List Ad}{s:Ad}(hl:l.length<=1000000000)(ho:∀x∈l,Ad.ok x)(hs:Ad.ok s):oV (tA l s) λ_=>True:=by
 unfold tA;refine fB (P:=λ_=>True) (mB l (by omega) (λ_=>True) trivial ?_ ?_) (λ_ _=>tot_some.2 trivial) (λ_ _=>trivial);intro i e hx _;have hi:=(zQQ.1 hx).1;rw[if_pos (by omega),aJ hx,aB ⟨ho e (lG hx),hs⟩];split;exact⟨_,rfl,.inr ⟨_,rfl,trivial⟩⟩;rw[aB (eM hi (by omega))];exact⟨_,rfl,.inl ⟨rfl,trivial⟩⟩;intro _;rw[if_neg (by omega)];exact⟨_,rfl,_,rfl,trivial⟩
theorem leg_t{l:Aq}{r:Ak}(hr:RtOk l r)(hf:r.Ax.length<=1000/\∀s∈r.Ax,Ad.ok s){e:End}(he:End.ok e):oV (xQ r e) λx=>Ad.ok x.1/\x.2.1=-1:=by
 have ok1:∀p:Int,(p=1\/p=2)->Ad.ok ⟨e.el,p⟩:=by
  intro p hp;refine⟨he.1,?_⟩;show bH p;unfold bH;omega
 unfold xQ;refine aP (P:=λx=>(x.1=1\/x.1=2)/\(x.2=1\/x.2=2)) ?_ ?_;split
 ·exact tot_some.2 ⟨.inr rfl,.inl rfl⟩
 exact tot_some.2 ⟨.inl rfl,.inr rfl⟩;rintro⟨p,q⟩ ⟨hp,hq⟩;dsimp only at hp hq⊢;refine aP (P:=λ_=>True) ?_ λx _=>?_;unfold bm;refine aP (P:=λ_=>True) ?_ λx _=>tot_some.2 trivial;refine aP (Gr (by have:=hr.Ag.1;omega) hr.Ag.2 (ok1 p hp)) λx _=>?_;split;exact tot_some.2 trivial;refine aP (Gr (by have := hr.An.1; omega) hr.An.2 (ok1 p hp)) fun x _ => ?_;split;exact tot_some.2 trivial;exact aP (Gr (by have:=hf.1;omega) hf.2 (ok1 p hp)) λx _=>tot_some.2 trivial;split
 ·exact tot_some.2 ⟨by show bH 0/\bH 0;unfold bH;omega,rfl⟩
 exact tot_some.2 ⟨ok1 q hq,rfl⟩
theorem Out_t(k a p:Int):oV (xR k a p) λr=>0<=r.1/\r.1<4:=by
 unfold xR;refine fB (P:=λo=>match o with|.inl _=>True|.inr r=>0<=r.1/\r.1<4) (xP 4 (by omega) (λ_=>True) trivial ?_ ?_) (λ_ _=>tot_some.2 (by decide)) (λ_ h=>h);intro i hi _;rw[if_pos (by omega)];refine aP (Yt _ _ _) ?_;rintro⟨x,ok⟩ _;dsimp only;split;exact⟨_,rfl,.inr ⟨_,rfl,by omega,by omega⟩⟩;rw[aB (eM hi (by omega))];exact⟨_,rfl,.inl ⟨rfl,trivial⟩⟩;intro _;rw[if_neg (by omega)];exact⟨_,rfl,_,rfl,trivial⟩
theorem Yp{l:Aq}(hk:LayK l){r:Ak}(hr:RtOk l r)(hf:r.Ax.length<=1000/\∀s∈r.Ax,Ad.ok s){e:End}(he:End.ok e):oV (tU l r e) λx=>Ad.ok x.1/\-1<=x.2.1/\x.2.1<(l.Au.length:Int):=by
 have hl:=hk.s.Ar;have z0:Ad.ok ⟨0,0⟩:=by show bH 0/\bH 0;unfold bH;omega
 unfold tU;refine fB (P:=λo=>match o with|.inl _=>True|.inr x=>Ad.ok x.1/\-1<=x.2.1/\x.2.1<(l.Au.length:Int)) (hU (λi s=>s.1=(i:Int)/\End.ok ⟨s.2.1,s.2.2⟩) 4 (by omega) ⟨rfl,he⟩ ?_ ?_) (λ_ _=>tot_some.2 ⟨z0,by dsimp only;omega⟩) (λ_ h=>h);rintro i ⟨n,c1,c2⟩ hi ⟨q1,q2⟩;dsimp only at q1 q2;subst q1;dsimp only;rw[if_pos (by omega)];refine aP (xc l _ hk q2) ?_;rintro⟨f,j⟩ ⟨_,hfo⟩;dsimp only at hfo⊢;split;exact⟨_,rfl,z0,by dsimp only;omega⟩;refine aP (Wr hk hfo) fun g hg => ?_;split;exact⟨_,rfl,z0,hg⟩;refine aP (P := fun _ => True) ?_ fun x _ => ?_
 ·refine aP (Q5 _ _ (by have := hr.path.1; omega)) fun x _ => ?_;split;exact tot_some.2 trivial;exact aP (Q5 _ _ (by have:=hr.over.1;omega)) λx _=>tot_some.2 trivial
 split
 ·exact⟨_,rfl,z0,by dsimp only;omega⟩
 refine aP (P := fun r => r = false -> 0 <= f.el /\ f.el < (l.Ar.length : Int)) ?_ fun x hx => ?_
 ·split
  ·exact tot_some.2 (by simp)
  split
  ·exact tot_some.2 (by simp)
  refine jM (by omega) (by omega) fun x _ _ => ?_;split<;>exact tot_some.2 λ_=>by omega
 cases x with
 |true=>exact⟨_,rfl,z0,by dsimp only;omega⟩
 |false=>
  have hx:=hx rfl;rw[if_neg gB];refine jM hx.1 hx.2 λx _ _=>?_;split;refine aP (leg_t hr hf hfo) ?_;rintro⟨a,b,c⟩ ⟨h1,h2⟩;dsimp only at h1 h2⊢;exact⟨_,rfl,h1,by dsimp only;omega⟩;refine jM hx.1 hx.2 fun x _ _ => ?_;refine aP (Out_t _ _ _) ?_;rintro⟨a,b⟩ ⟨h1,h2⟩;dsimp only at h1 h2⊢;rw[aB (by unfold bH;omega)];refine tot_some.2 ⟨by push_cast;rfl,?_⟩;show bH _/\bH _;unfold bH;dsimp only;omega
 rintro⟨n,c1,c2⟩ ⟨q1,q2⟩;dsimp only at q1;subst q1;dsimp only;rw[if_neg (by omega)];exact⟨_,rfl,trivial⟩
theorem put14_t{l:List Ad}{s:Ad}(hl:l.length<=1000000)(ho:∀x∈l,Ad.ok x)(hs:Ad.ok s):oV (ew l s) λr=>r.length<=l.length+1/\∀x∈r,Ad.ok x:=by
 unfold ew;refine aP (Gr (by omega) ho hs) λx _=>?_;split;exact tot_some.2 ⟨by omega,ho⟩;refine aP (P := fun o => (o.2.length = l.length + if o.1 = true then 1 else 0) /\ ∀ x ∈ o.2, Ad.ok x) (hU (fun i s => s.2.1 = (i : Int) /\ (s.2.2.length = i + if s.1 = true then 1 else 0) /\ ∀ x ∈ s.2.2, Ad.ok x) l.length (by omega) ⟨rfl, rfl, fun x h => (by cases h)⟩ ?_ ?_) ?_
 ·rintro i ⟨dn,y,b⟩ hi ⟨q1,q2,q3⟩;dsimp only at q1 q2 q3;subst q1;dsimp only;have hx:=gN hi;have hb:b.length<=i+1:=by split at q2<;>omega
  rw[if_pos (by omega)];refine aP (P:=λo=>(o.2.length=i+if o.1=true then 1 else 0)/\∀x∈o.2,Ad.ok x) ?_ ?_;refine aP (P := fun r => r = true -> dn = false) ?_ fun r hr => ?_
  ·cases dn with
   |false=>rw[if_pos (by rfl),aJ hx];exact tot_some.2 λ_=>rfl
   |true=>rw[if_neg (by simp)];exact tot_some.2 (by simp)
  cases r with
  |false=>rw[if_neg gB];exact tot_some.2 ⟨q2,q3⟩
  |true=>
   have hr:=hr rfl;subst hr;rw[if_neg gB]at q2;rw[if_pos rfl,aB (by simp;omega)];refine tot_some.2 ⟨by simp;omega,?_⟩;intro x hxm;rcases zQN.1 hxm with hxm|hxm
   exact q3 x hxm;rw[zal102q]at hxm;subst hxm;exact hs
  rintro⟨d2,b2⟩ ⟨p1,p2⟩;dsimp only at p1 p2⊢;have hb2:b2.length<=i+1:=by split at p1<;>omega
  rw[aJ hx,aB (by simp;omega),aB (eM hi (by omega))];refine tot_some.2 ⟨by push_cast;rfl,by rw[kU,p1];simp;omega,?_⟩;intro x hxm;rcases zQN.1 hxm with hxm|hxm
  exact p2 x hxm;rw[zal102q]at hxm;subst hxm;exact ho _ (fH hi)
 rintro⟨dn,y,b⟩ ⟨q1,q2,q3⟩;dsimp only at q1 q2 q3;subst q1;dsimp only;rw[if_neg (by omega)];exact⟨_,rfl,q2,q3⟩;rintro⟨dn,b⟩ ⟨p1,p2⟩;dsimp only at p1 p2⊢;have hb:b.length<=l.length+1:=by split at p1<;>omega
 cases dn with
 |true=>rw[if_neg (by simp)];exact tot_some.2 ⟨hb,p2⟩
 |false=>
  rw[if_neg gB]at p1;rw[if_pos (by rfl),aB (by simp;omega)];refine tot_some.2 ⟨by simp;omega,?_⟩;intro x hxm;rcases zQN.1 hxm with hxm|hxm
  exact p2 x hxm;rw[zal102q]at hxm;subst hxm;exact hs
theorem Has02_t(l:List Int)(n:Int)(hl:l.length<=1000000000):oV (pQ l n) λ_=>True:=by
 unfold pQ;refine fB (P:=λ_=>True) (mB l (by omega) (λ_=>True) trivial ?_ ?_) (λ_ _=>tot_some.2 trivial) (λ_ _=>trivial);intro i e hx _;have hi:=(zQQ.1 hx).1;rw[if_pos (by omega),aJ hx];split;exact⟨_,rfl,.inr ⟨_,rfl,trivial⟩⟩;rw[aB (eM hi (by omega))];exact⟨_,rfl,.inl ⟨rfl,trivial⟩⟩;intro _;rw[if_neg (by omega)];exact⟨_,rfl,_,rfl,trivial⟩
theorem In(l:List Int)(n:Int)(hl:l.length<=1000000):oV (rD l n) λr=>r.length<=l.length+1:=by
 unfold rD;refine aP (Has02_t l n (by omega)) λx _=>?_;split;exact tot_some.2 (by omega);refine aP (P := fun o => (o.2.length = l.length + if o.1 = true then 1 else 0)) (hU (fun i s => s.2.1 = (i : Int) /\ (s.2.2.length = i + if s.1 = true then 1 else 0)) l.length (by omega) ⟨rfl, rfl⟩ ?_ ?_) ?_
 ·rintro i ⟨dn,y,b⟩ hi ⟨q1,q2⟩;dsimp only at q1 q2;subst q1;dsimp only;have hx:=gN hi;have hb:b.length<=i+1:=by split at q2<;>omega
  rw[if_pos (by omega)];refine aP (P:=λo=>(o.2.length=i+if o.1=true then 1 else 0)) ?_ ?_;refine aP (P := fun r => r = true -> dn = false) ?_ fun r hr => ?_
  ·cases dn with
   |false=>rw[if_pos (by rfl),aJ hx];exact tot_some.2 λ_=>rfl
   |true=>rw[if_neg (by simp)];exact tot_some.2 (by simp)
  cases r with
  |false=>rw[if_neg gB];exact tot_some.2 q2
  |true=>
   have hr:=hr rfl;subst hr;rw[if_neg gB]at q2;rw[if_pos rfl,aB (by simp;omega)];exact tot_some.2 (by simp;omega)
  rintro⟨d2,b2⟩ p1;dsimp only at p1⊢;have hb2:b2.length<=i+1:=by split at p1<;>omega
  rw[aJ hx,aB (by simp;omega),aB (eM hi (by omega))];exact tot_some.2 ⟨by push_cast;rfl,by rw[kU,p1];simp;omega⟩
 rintro⟨dn,y,b⟩ ⟨q1,q2⟩;dsimp only at q1 q2;subst q1;dsimp only;rw[if_neg (by omega)];exact⟨_,rfl,q2⟩;rintro⟨dn,b⟩ p1;dsimp only at p1⊢;have hb:b.length<=l.length+1:=by split at p1<;>omega
 cases dn with
 |true=>rw[if_neg (by simp)];exact tot_some.2 hb
 |false=>
  rw[if_neg gB]at p1;rw[if_pos (by rfl),aB (by simp;omega)];exact tot_some.2 (by simp;omega)
theorem Union_t(a b:List Int)(ha:a.length<=100000)(hb:b.length<=100000):oV (vV a b) λr=>r.length<=a.length+b.length:=by
 unfold vV;refine aP (P:=λr=>r.length<=a.length) ?_ λm hm=>?_;unfold ki;refine aP (P:=λr=>r.length<=a.length) (hU (λi s=>s.2=(i:Int)/\s.1.length<=i) a.length (by omega) ⟨rfl,gS _⟩ ?_ ?_) λa h=>tot_some.2 h;rintro i ⟨b,y⟩ hi ⟨q1,q2⟩;dsimp only at q1 q2;subst q1;dsimp only;rw[if_pos (by omega),aJ (gN hi)];refine aP (In _ _ (by omega)) λr hr=>?_;rw[aB (eM hi (by omega))];exact tot_some.2 ⟨by push_cast;rfl,by show r.length<=i+1;omega⟩;rintro⟨b,y⟩ ⟨q1,q2⟩;dsimp only at q1 q2;subst q1;dsimp only;rw[if_neg (by omega)];exact⟨_,rfl,q2⟩;refine aP (P := fun r => r.length <= a.length + b.length) (hU (fun i s => s.2 = (i : Int) /\ s.1.length <= a.length + i) b.length (by omega) ⟨rfl, hm⟩ ?_ ?_) fun a h => tot_some.2 h
 ·rintro i ⟨b,y⟩ hi ⟨q1,q2⟩;dsimp only at q1 q2;subst q1;dsimp only;rw[if_pos (by omega),aJ (gN hi)];refine aP (In _ _ (by omega)) λr hr=>?_;rw[aB (eM hi (by omega))];exact tot_some.2 ⟨by push_cast;rfl,by show r.length<=a.length+(i+1);omega⟩
 rintro⟨b,y⟩ ⟨q1,q2⟩;dsimp only at q1 q2;subst q1;dsimp only;rw[if_neg (by omega)];exact⟨_,rfl,q2⟩
structure RtCmp (r:Ak):Prop where
 Ag:∀s∈r.Ag,Ad.ok s
 An:∀s∈r.An,Ad.ok s
 Ax:∀s∈r.Ax,Ad.ok s
 gaps:∀s∈r.gaps,End.ok s
theorem Find14_t{l:Aq}(hk:LayK l){r:Ak}(hr:RtOk l r):oV (yT l r) λx=>RtCmp x:=by
 obtain⟨r1,r2,r3,r4,r5⟩:=hr;have hz:∀a b c,RtOk l ⟨r.name,r.entry,r.exit,r.path,r.Ag,r.Aa,r.A5,r.length,r.over,r.An,r.Ae,a,b,c⟩:=λ_ _ _=>⟨r1,r2,r3,r4,r5⟩;unfold yT;refine aP (qCM hk (hz _ _ _)) ?_;rintro es ⟨e1,e2⟩;refine aP (P:=λo=>(∀x∈o.1,Ad.ok x)/\∀x∈o.2.2,End.ok x) (hU (λi s=>s.1=(i:Int)/\(s.2.1.length<=i/\∀x∈s.2.1,Ad.ok x)/\s.2.2.1.length<=i/\s.2.2.2.length<=i/\∀x∈s.2.2.2,End.ok x) es.length (by omega) ⟨rfl,⟨gS _,λx h=>(by cases h)⟩,gS _,gS _,λx h=>(by cases h)⟩ ?_ ?_) λo ho=>tot_some.2 ⟨r2.2,r5.2,ho.1,ho.2⟩;rintro i ⟨y,fl,gd,gp⟩ hi ⟨q1,⟨q2,q3⟩,q4,q5,q6⟩;dsimp only at q1 q2 q3 q4 q5 q6;subst q1;dsimp only;have hx:=gN hi;rw[if_pos (by omega),aJ hx];refine aP (Yp hk (hz fl gd gp) ⟨by show fl.length<=1000;omega,q3⟩ (e2 _ (fH hi))) ?_;rintro⟨s,g,ok⟩ ⟨s1,s2⟩;dsimp only at s1 s2⊢;refine aP (P:=λr=>r.length<=i+1/\∀x∈r,End.ok x) ?_ λgp2 hgp=>?_;split
 ·rw [aJ hx, aB (by simp; omega)];refine tot_some.2 ⟨by simp;omega,λx hxm=>?_⟩;rcases zQN.1 hxm with hxm|hxm
  exact q6 x hxm;rw[zal102q]at hxm;subst hxm;exact e2 _ (fH hi)
 exact tot_some.2 ⟨by omega,q6⟩;refine aP (P := fun r => r.length <= i + 1 /\ ∀ x ∈ r, Ad.ok x) ?_ ?_
 ·split
  ·exact tot_some.2 ⟨by omega,q3⟩
  refine aP (put14_t (by omega) q3 s1) ?_;rintro r ⟨p1,p2⟩;exact tot_some.2 ⟨by omega,p2⟩
 rintro fl2 ⟨f1,f2⟩;split;refine aP (Union_t gd [g] (by omega) (by simp)) fun gd2 hgd => ?_;simp only[jF,jO]at hgd;rw[aB (eM hi (by omega))];exact tot_some.2 ⟨by push_cast;rfl,⟨f1,f2⟩,by show gd2.length<=i+1;omega,hgp.1,hgp.2⟩;rw [aB (eM hi (by omega))];exact tot_some.2 ⟨by push_cast;rfl,⟨f1,f2⟩,by show gd.length<=i+1;omega,hgp.1,hgp.2⟩;rintro⟨y,fl,gd,gp⟩ ⟨q1,⟨_,q3⟩,_,_,q6⟩;dsimp only at q1 q3 q6;subst q1;dsimp only;rw[if_neg (by omega)];exact⟨_,rfl,q3,q6⟩
theorem Build_t{l:Aq}(hw:LayW l):oV (sZ l) λr=>r.2=0->LayC l/\r.1.Aa=(l.Aa.length:Int)/\r.1.Au=(l.Au.length:Int)/\(∀x∈r.1.Ac,RtCmp x)/\∀x∈r.1.Ag,bH x:=by
 unfold sZ;refine aP (All12_t hw) ?_;rintro⟨rs,e⟩ h;dsimp only at h⊢;split;rename_i he;obtain⟨hc,h1,h2⟩:=h he;refine aP (Ys hc.k.s) λps ⟨hps,hpi⟩=>?_;refine aP (P:=λo=>∀x∈o,RtCmp x) (hU (λi s=>s.1=(i:Int)/\s.2.length=i/\∀x∈s.2,RtCmp x) rs.length (by omega) ⟨rfl,rfl,λx h=>(by cases h)⟩ ?_ ?_) λrts hrts=>?_;rintro i ⟨y,b⟩ hi ⟨q1,q2,q3⟩;dsimp only at q1 q2 q3;subst q1;dsimp only;rw[if_pos (by omega),aJ (gN hi)];refine aP (Find13_t hc (h2 _ (fH hi))) λr13 hr13=>?_;refine aP (Find14_t hc.k hr13) λr14 h14=>?_;rw[aB (by simp;omega),aB (eM hi (by omega))];refine tot_some.2 ⟨by push_cast;rfl,by simp;omega,λx hxm=>?_⟩;rcases zQN.1 hxm with hxm|hxm
 exact q3 x hxm;rw[zal102q]at hxm;subst hxm;exact h14;rintro⟨y,b⟩ ⟨q1,q2,q3⟩;dsimp only at q1 q2 q3;subst q1;dsimp only;rw[if_neg (by omega)];exact⟨_,rfl,q3⟩;refine aP (P := fun _ => True) (hU (fun i s => s.1 = (i : Int) /\ s.2.length = i) ps.length (by omega) ⟨rfl, rfl⟩ ?_ ?_) fun rts _ => ?_
 ·rintro i ⟨y,b⟩ hi ⟨q1,q2⟩;dsimp only at q1 q2;subst q1;dsimp only;rw[if_pos (by omega),aJ (gN hi)];refine aP (zS _) λr13 hr13=>?_;rw[aB (by simp;omega),aB (eM hi (by omega))];exact tot_some.2 ⟨by push_cast;rfl,by simp;omega⟩
 rintro⟨y,b⟩ ⟨q1,q2⟩;dsimp only at q1 q2;subst q1;dsimp only;rw[if_neg (by omega)];exact⟨_,rfl,trivial⟩;exact tot_some.2 λ_=>⟨hc,rfl,rfl,hrts,hpi⟩;rename_i he;exact tot_some.2 λh=>absurd h he
variable {t:Al}
theorem bulk_len{α:Type}(f:α->D)(l:List α):l.length<=D.bulks (l.map f):=by
 have:=D.length_le (l.map f)
 rwa [vg]at this
def bigR(e9:Ak):Bool:=(decide ((80:Int)<(e9.path.length:Int)))||((decide ((80:Int)<(e9.Ag.length:Int)))||((decide ((80:Int)<(e9.Aa.length:Int)))||((decide ((80:Int)<(e9.over.length:Int)))||((decide ((80:Int)<(e9.An.length:Int)))||((decide ((80:Int)<(e9.Ae.length:Int)))||((decide ((80:Int)<(e9.Ax.length:Int)))||((decide ((80:Int)<(e9.guards.length:Int)))||(decide ((80:Int)<(e9.gaps.length:Int))))))))))
theorem small25(t:Al):∃b,vZ t=some b/\(b=true->TOk t/\t.Ac.length<=14):=by
 unfold vZ xr;by_cases h80:t.Ac.length<=80/\t.Ag.length<=80/\t.A7.length<=80;rw [if_neg (by simp; omega)];rw[mE t.Ac bigR (.inr false) (.inl ()) (by omega) (λi r hr=>?_) (by rw[if_neg (by omega)];rfl)];split
 ·exact⟨false,rfl,by simp⟩
 rename_i hany;refine⟨decide ((t.Ac.length:Int)<=14),rfl,λh=>?_⟩;rw[decide_eq_true_eq]at h;refine⟨⟨by omega,by omega,λr hr=>?_⟩,by omega⟩;have h1:¬bigR r=true:=λhh=>hany (zQU.2 ⟨r,hr,hh⟩);unfold bigR at h1;simp only[lC,decide_eq_true_eq]at h1;exact⟨by omega,by omega,by omega,by omega⟩;have hi:=(zQQ.1 hr).1;rw[if_pos (by omega),aJ hr,aB (by unfold bH;omega)];rfl;rw [if_pos (by simp; omega)];exact⟨false,rfl,by simp⟩
theorem layW25{l:Aq}(w:l.Wf)(hj:l.joints.length<=100000000):LayW l:=by
 have L:∀{n:Nat},n<=reachBytes->n<=1000000000000000:=λh=>by have:=Ej h;omega
 exact⟨L w.name,λs hs=>L (w.Aa.2 s hs),w.Ar.2,⟨by omega,λj hj=>let q:=w.joints.2 j hj;⟨⟨q.a.el,q.a.side⟩,⟨q.b.el,q.b.side⟩⟩⟩,w.Au.2,w.balises.2⟩
theorem obsT_len(hC:COk t):(Nm t).length<=1000000:=by
 have hlm:=hC.lim;have hPl:=zt hC t.Ac.length (by omega);have hOl:=zu hC t.Ac.length (by omega);have hLl:=Ei hC t.Ac.length (by omega);have hpl:=dV (f:=yZ t) (c:=1) zr t.Ac.length;have hol:=dV (f:=Ea t) (c:=1) (λ_=>by simp[Ea]) t.Ac.length;have hrl:=dV (f:=Ms t) (c:=1) (λ_=>by simp[Ms]) t.Ac.length;unfold Nm;simp only[kU];unfold km zv Lm;omega
theorem Vv(hC:COk t){m:Machine}(H:Jn t m.vars):nQ (Nm t) m=some (-1):=by
 have hl:=obsT_len hC
 rw[Holds_eq m (by unfold ye;omega) (λe he=>by
  have:=obs_sz hC e he
  exact⟨ok_sz 100000 _ this (by unfold ye;omega),by omega⟩)]
 unfold X6;rw[if_neg ?_];rw[Nat.not_lt,Nat.le_iff_lt_or_eq];refine .inr (Eq.symm (List.findIdx_eq_length.2 λe he=>?_));rw[obs_hold hC H e he];rfl
theorem qBI{p0:Aq}{p1:List A8}(w0:p0.Wf)(w1:p1.length<=reachBytes/\∀y∈p1,A8.Wf y){k:Nat}(hb:D.bulks [p0.enc,.sl k (p1.map A8.enc)]<=1048576):oQ p0 p1=some true:=by
 have hw:LayW p0:=by
  refine layW25 w0 ?_;have:=bulk_len Fn.enc p0.joints;simp only[Aq.enc,D.bulks,D.bulk]at hb;omega
 have dead:oV (aD qS λr=>some r) λr=>r=true:=by rw[alive25];exact tot_some.2 rfl
 have key:oV (oQ p0 p1) λr=>r=true:=by
  unfold oQ xu;refine aP (Build_t hw) ?_;rintro⟨t,e⟩ hB;dsimp only at hB⊢;rw[aA];generalize (decide ((p0.Aa.length:Int)<=(60:Int))&&_)=b
  cases b with
  |false=>exact dead
  |true=>
   rw[if_neg (by decide)];by_cases he:e=0
   ·rw[if_pos he];obtain⟨hc,hs,hg,hr,hp⟩:=hB he
    have ht:WfB t:=⟨λr hm s hs=>by
     have:=hr r hm;simp only[dI,zQN]at hs;rcases hs with(hs|hs)|hs
     exact this.Ag s hs;exact this.An s hs
     exact this.Ax s hs,hp⟩
    obtain⟨b,h1,h2⟩:=small25 t;rw[h1,aA]
    cases b with
    |false=>exact dead
    |true=>
     obtain⟨hT,hn⟩:=h2 rfl;rw[if_neg (by decide),aA];by_cases hl:(40:Int)<(p1.length:Int);rw[if_pos (decide_eq_true hl)];exact dead;rw [if_neg (by simpa using hl), rcomp_eq hT ht, aA, All_eq hT ht, aA];by_cases hz:iK t=0
     ·rw[if_pos hz,if_pos hz];by_cases ha:2000<uL t;rw[if_pos ha,if_pos ha];dsimp only;rw[if_pos rfl,if_neg (by decide),if_pos (by simp)];exact aP dead λr h=>tot_some.2 h;rw[if_neg ha,if_neg ha];have hC:=Qi hT hz;have hS:=slimX hC;dsimp only;rw[if_pos rfl,if_pos rfl,Qz hS,aA,Vv hC Ba,aA,if_neg (by decide)];refine fB (P:=λo=>∃v,o=.inl v) ?_ (λa _=>?_) ?_
      rotate_left
      obtain⟨a,b,c⟩:=a;exact dead;rintro b ⟨v,h⟩;cases h;unfold oV;refine Zq _ (λ(k:Nat)(s:Int×List Bool×List Int×Bool)=>s.1=(k:Int)/\Jn t s.2.1) p1.length (by unfold ye;omega) ⟨rfl,Ba⟩ ?_ ?_;rintro k hk ⟨x,c,d,h⟩ ⟨q1,q2⟩;dsimp only at q1 q2;subst q1;have hx:=gN hk;have hw1:=w1.2 _ (fH hk);have hq:Jn t (E1 (Kf t) ⟨c,d,h⟩ (if iK t=0 then Zx t p1[k]else[])).vars:=qBT hC (m:=⟨c,d,h⟩) q2;dsimp only;rw[if_pos (by omega),aJ hx,Yr t _ hT (by have:=Ej hw1.calls.1;omega) (by have:=Ej hw1.cancels.1;omega),aA,rScan26 hS,aA,Vv hC hq,aA,if_neg (by decide),aB (by unfold bH;omega)];exact .inl ⟨_,rfl,by push_cast;rfl,hq⟩;rintro⟨x,c,d,h⟩ ⟨q1,q2⟩;dsimp only at q1;subst q1;dsimp only;rw[if_neg (by omega)];exact⟨_,rfl,_,rfl⟩
     rw[if_neg hz,if_neg hz];dsimp only;rw[if_pos rfl,if_neg hz,if_pos (by simp)];exact aP dead λr h=>tot_some.2 h
   rw[if_neg he];exact dead
 obtain⟨r,h,rfl⟩:=key;exact h
end Go.Proofs.YtldaknhjmhlefaaGreatDoor
