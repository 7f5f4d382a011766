/- A part of the proof. No condition. -/
import Derived.Test.YtjmpojlgegloeaaGreatDoorQe
set_option linter.unusedSimpArgs false
set_option linter.unusedVariables false

set_option linter.unusedVariables false
set_option linter.unusedSimpArgs false
set_option maxHeartbeats 1000000
set_option maxRecDepth 100000
namespace Go.Proofs.YtjmpojlgegloeaaGreatDoor
open Go Go.TL
theorem Eh{l:Aa}(hk:LayK l)(r:Al):eS (gC l r) λx=>End.ok x.1.atV:=by
 unfold gC;split;exact tot_some.2 (by show bD 0/\bD 0;unfold bD;omega);rename_i hc;simp only[mX,decide_eq_true_eq,not_or]at hc;exact bG (by omega) (by omega) λs hs _=>tot_some.2 (xw (hk.w.Aj.2 s hs).atV)
theorem qQ{w:List Ae}(hw:w.length<=1000000){p:Ae->Option Bool}(hp:∀s∈w,eS (p s) λ_=>True):eS (cO w p) λ_=>True:=by
 unfold cO;refine aC (P:=λ_=>True) ?_ λ_ _=>tot_some.2 trivial;unfold iP;refine bL (P:=λ_=>True) (dS w (by omega) (λ_=>True) trivial ?_ ?_) (λ_ _=>tot_some.2 trivial) (λ_ _=>trivial);intro k e hx _;have hi:=(zQQ.1 hx).1;rw[if_pos (by omega),bC hx];refine aC (hp e (tX hx)) λb _=>?_;split;exact⟨_,rfl,.inr ⟨_,rfl,trivial⟩⟩;rw [aA (bM hi (by omega))];exact⟨_,rfl,.inl ⟨rfl,trivial⟩⟩;intro _;rw[if_neg (by omega)];exact⟨_,rfl,_,rfl,trivial⟩
theorem covers_t{w:List Ae}(hw:w.length<=1000000)(i:Int):eS (lX w i) λ_=>True:=by
 unfold lX;exact aC (qQ hw λs _=>by unfold lO;exact tot_some.2 trivial) λ_ _=>tot_some.2 trivial
theorem qK{w:List Int}(hw:w.length<=1000000)(i:Int):eS (dY w i) λ_=>True:=by
 unfold dY;refine aC (P:=λ_=>True) ?_ λ_ _=>tot_some.2 trivial;unfold mJ;refine bL (P:=λ_=>True) (dS w (by omega) (λ_=>True) trivial ?_ ?_) (λ_ _=>tot_some.2 trivial) (λ_ _=>trivial);intro k e hx _;have hi:=(zQQ.1 hx).1;rw[if_pos (by omega),bC hx];split;exact⟨_,rfl,.inr ⟨_,rfl,trivial⟩⟩;rw [aA (bM hi (by omega))];exact⟨_,rfl,.inl ⟨rfl,trivial⟩⟩;intro _;rw[if_neg (by omega)];exact⟨_,rfl,_,rfl,trivial⟩
theorem D6{w:List Int}(hw:w.length<=1000000)(i:Int):eS (iM i w) λ_=>True:=by
 unfold iM;exact aC (qK hw i) λ_ _=>tot_some.2 trivial
theorem osteps_t{l:Aa}(hk:LayK l){r:Al}(hr:RtOk l r):eS (nI l r) λw=>w.length<=12/\∀s∈w,kQ l s:=by
 have hsc:=hr.Ai;unfold nI;refine aC (Eh hk r) ?_;rintro⟨s,b⟩ hs;dsimp only at hs⊢;split;exact tot_some.2 ⟨by simp,by simp⟩;refine aC (gh hk hs) ?_;rintro⟨e,j⟩ ⟨_,he⟩;dsimp only at he⊢;refine aC (P:=λo=>o.1.length<=12/\∀s∈o.1,kQ l s) (eO (λs=>End.ok ⟨s.2.1,s.2.2.1⟩/\s.2.2.2.length<=12/\∀x∈s.2.2.2,kQ l x) (λs=>12-s.2.2.2.length) 12 (by omega) ⟨he,by simp,by simp⟩ (by dsimp only;omega) ?_) λo ho=>tot_some.2 ho;rintro⟨ok,a,c,v⟩ ⟨q1,q2,q3⟩ _;dsimp only at q1 q2 q3⊢;refine aC (P:=λr=>r=true->v.length<12) ?_ λx hx=>?_;split
 ·refine aC (yP hk (by omega)) fun n _ => ?_;split;exact tot_some.2 λh=>by have:=of_decide_eq_true h;omega
  exact tot_some.2 (by simp)
 exact tot_some.2 (by simp)
 cases x with
 |false=>rw[if_neg eX];exact⟨_,rfl,q2,q3⟩
 |true=>
  have hx:=hx rfl;rw[if_pos rfl];refine aC (P:=λ_=>True) ?_ λy _=>?_;refine aC (covers_t (by omega) _) fun y _ => ?_;split;exact tot_some.2 trivial;exact aC (kR _) λ_ _=>aC (D6 (by omega) _) λ_ _=>tot_some.2 trivial;split
  ·exact⟨_,rfl,q2,q3⟩
  refine aC (Bh hk q1) ?_;rintro bs ⟨b1,b2⟩;split;exact⟨_,rfl,q2,q3⟩;refine bG (by omega) (by omega) fun e1 h1 _ => ?_;rw[aA (by simp;omega)];refine bG (by omega) (by omega) λe2 h2 _=>?_;refine aC (Next_t hk (gx hk (b2 e2 h2))) ?_;rintro⟨f,g⟩ ⟨_,hf⟩;dsimp only at hf⊢;refine⟨_,rfl,⟨hf,by simp;omega,λx hxm=>?_⟩,by dsimp only;simp;omega⟩;rcases zQN.1 hxm with hxm|hxm
  exact q3 x hxm;rw[zal82q]at hxm;subst hxm;exact b2 _ h1
structure RtOv (l:Aa) (r:Al):Prop where
 k:RtOk l r
 over:r.over.length<=12/\∀s∈r.over,kQ l s
 Ax:r.Ax.length<=12/\∀s∈r.Ax,Ab.ok s
 Aw:r.Aw.length<=12
theorem ofind_t{l:Aa}(hk:LayK l){r:Al}(hr:RtOk l r)(hf:vp r):eS (pD l r) λx=>RtOv l x:=by
 have h1:=hr.path;have h2:=hr.A4;have h3:=hr.Ai;unfold pD;refine aC (osteps_t hk hr) ?_;rintro w ⟨w1,w2⟩;rw[jI _ (by have:=h1.2.1;omega),aH,oB _ (by omega),aH,fG _ (by omega),aH,hf.2.1,oB _ (by simp),aH,hf.2.2.1,fG _ (by simp),aH,hf.2.2.2,Gz _ (by simp),aH];refine aC (Bc hk (by omega) (H5 hk w2)) λst hst=>?_;refine aC (cw (by omega)) λsc hsc=>?_;exact tot_some.2 ⟨⟨h1,h2,h3,hr.exit,hr.length⟩,⟨w1,w2⟩,⟨by dsimp only;omega,hst.2⟩,by dsimp only;omega⟩
theorem beside_t{l:Aa}(hk:LayK l){s:Ae}(hs:uS s):eS (pI l s) λr=>r.length<=4/\∀e∈r,End.ok e:=by
 unfold pI;split;exact tot_some.2 ⟨by simp,by simp⟩;rename_i hc;simp only[mX,decide_eq_true_eq,not_or]at hc;refine bG (by omega) (by omega) λx hx _=>?_;refine aC (Ew _ _ _) ?_;rintro⟨a,b⟩ _;dsimp only;split;exact tot_some.2 ⟨by simp,by simp⟩;refine aC (P := fun r => r.length <= 4 /\ ∀ e ∈ r, End.ok e) ?_ fun r hr => tot_some.2 hr;refine aC (Jz _) λn hn=>?_;refine dM (λi s=>s.1=(i:Int)/\s.2.length<=i/\∀e∈s.2,End.ok e) n.toNat (by omega) ⟨rfl,cN _,by simp⟩ ?_ ?_;rintro i ⟨_,c⟩ hi ⟨rfl,q1,q2⟩;dsimp only at q1 q2⊢;rw[if_pos (by omega)];split;rw [aA (by simp; omega), aA (bM hi (by omega))];refine tot_some.2 ⟨by push_cast;rfl,by simp;omega,λe he=>?_⟩;rcases zQN.1 he with he|he
 exact q2 e he;rw[zal82q]at he;subst he;refine⟨hs.1,?_⟩;show bD (i:Int);unfold bD;omega;rw [aA (bM hi (by omega))];exact tot_some.2 ⟨by push_cast;rfl,by show c.length<=i+1;omega,q2⟩;rintro⟨_,c⟩ ⟨rfl,q1,q2⟩;dsimp only at q1 q2⊢;rw[if_neg (by omega)];exact⟨_,rfl,by omega,q2⟩
theorem Kz{r:Al}(h1:r.path.length<=1000000)(h2:r.over.length<=1000000)(i:Int):eS (pH r i) λ_=>True:=by
 unfold pH;refine aC (P:=λ_=>True) ?_ λ_ _=>tot_some.2 trivial;refine aC (qQ h1 λs _=>by unfold iV;exact tot_some.2 trivial) λb _=>?_;split;exact tot_some.2 trivial;exact aC (qQ h2 λs _=>by unfold iV;exact tot_some.2 trivial) λb _=>tot_some.2 trivial
theorem tW{w:List Ab}(hw:w.length<=1000000)(ho:∀s∈w,Ab.ok s){x:Ab}(hx:Ab.ok x):eS (dP w x) λ_=>True:=by
 unfold dP;refine aC (P:=λ_=>True) ?_ λ_ _=>tot_some.2 trivial;unfold iZ;refine bL (P:=λ_=>True) (dS w (by omega) (λ_=>True) trivial ?_ ?_) (λ_ _=>tot_some.2 trivial) (λ_ _=>trivial);intro k e hxk _;have hi:=(zQQ.1 hxk).1;rw[if_pos (by omega),bC hxk,aA ⟨hx,ho e (tX hxk)⟩];split;exact⟨_,rfl,.inr ⟨_,rfl,trivial⟩⟩;rw [aA (bM hi (by omega))];exact⟨_,rfl,.inl ⟨rfl,trivial⟩⟩;intro _;rw[if_neg (by omega)];exact⟨_,rfl,_,rfl,trivial⟩
structure RtFl (l:Aa) (r:Al):Prop where
 v:RtOv l r
 A7:r.A7.length<=1000/\∀s∈r.A7,Ab.ok s
theorem fneeds_t{l:Aa}{r:Al}(hr:RtFl l r){x:Ab}(hx:Ab.ok x):eS (qS r x) λ_=>True:=by
 unfold qS;have h1:=hr.v.k.A4;have h2:=hr.v.Ax;have h3:=hr.A7;refine aC (P:=λ_=>True) ?_ λ_ _=>tot_some.2 trivial;refine aC (tW (by omega) h1.2 hx) λb _=>?_;split;exact tot_some.2 trivial;refine aC (tW (by omega) h2.2 hx) fun b _ => ?_;split;exact tot_some.2 trivial;exact aC (tW (by omega) h3.2 hx) λb _=>tot_some.2 trivial
theorem away_t{l:Aa}{r:Al}(hr:RtFl l r){e:End}(he:End.ok e):eS (sQ r e) λo=>match o with|.inl _=>True|.inr s=>Ab.ok s:=by
 unfold sQ;refine aC (Ew _ _ _) ?_;rintro⟨a,b⟩ ⟨h1,h2,_⟩;dsimp only at h1 h2⊢;refine aC (P:=λ_=>True) ?_ λx _=>?_;split
 ·exact tot_some.2 trivial
 exact aC (fneeds_t hr (x:=⟨e.el,a⟩) ⟨he.1,by show bD a;unfold bD;omega⟩) λ_ _=>tot_some.2 trivial;split
 ·exact tot_some.2 trivial
 rw [aA (by unfold bD; omega)];refine tot_some.2 ⟨he.1,?_⟩;show bD (3-a);unfold bD;omega
theorem zset:Ab.ok ⟨0,0⟩:=by show bD 0/\bD 0;unfold bD;omega
theorem Dw{l:Aa}(hk:LayK l){r:Al}(hr:RtFl l r){e:End}(he:End.ok e):eS (kC l r e) λo=>match o with|.inl _=>True|.inr s=>Ab.ok s.1:=by
 have hp:=hr.v.k.path;have ho:=hr.v.over;have hpl:r.path.length<=12:=hp.2.1;unfold kC;refine bL (P:=λo=>match o with|.inl _=>True|.inr b=>match b with|.inl _=>True|.inr s=>Ab.ok s.1) (eO (λs=>0<=s.2.1/\s.2.1<=4/\End.ok ⟨s.2.2.1,s.2.2.2⟩) (λs=>4-s.2.1.toNat) 4 (by omega) ⟨by dsimp only;omega,by dsimp only;omega,he⟩ (by dsimp only;omega) ?_) (λ_ _=>tot_some.2 trivial) (λb hb=>hb);rintro⟨n,k,a,b⟩ ⟨q1,q2,q3⟩ _;dsimp only at q1 q2 q3⊢;split;rename_i hk4;refine aC (gh hk q3) ?_;rintro⟨f,j⟩ ⟨_,hf⟩;dsimp only at hf⊢;split;exact⟨_,rfl,zset⟩;refine aC (yN hk.w hf) fun g _ => ?_;split;exact⟨_,rfl,zset⟩;refine aC (Kz (by omega) (by omega) _) fun x _ => ?_;split;exact⟨_,rfl,zset⟩;split
 ·exact⟨_,rfl,trivial⟩
 rename_i hc;simp only[mX,decide_eq_true_eq,not_or]at hc;refine bG (by omega) (by omega) λx hx _=>?_;have hxx:=hk.right x hx;split;refine aC (away_t hr hf) ?_;rintro(y|s) hs;exact⟨_,rfl,trivial⟩;exact⟨_,rfl,hs⟩;refine aC (Legs_t f.side ⟨hxx.1,hxx.2.1⟩) ?_;rintro lg ⟨g1,g2⟩;split;exact⟨_,rfl,trivial⟩;refine bG (by omega) (by omega) fun y hy _ => ?_;rw[aA (by unfold bD;omega)];have:=g2 y hy;refine⟨_,rfl,⟨by dsimp only;omega,by dsimp only;omega,hf.1,?_⟩,by dsimp only;omega⟩;show bD y;unfold bD;omega;exact⟨_,rfl,trivial⟩
theorem search_t{l:Aa}(hk:LayK l){r:Al}(hr:RtFl l r){e:End}(he:End.ok e):eS (pL l r e) λo=>Ab.ok o.1:=by
 unfold pL;refine aC (Dw hk hr he) ?_;rintro(y|v) hv;exact tot_some.2 zset;exact tot_some.2 hv
theorem ffind_t{l:Aa}(hk:LayK l){r:Al}(hr:RtOv l r):eS (sR l r) λx=>RtOk l x:=by
 have h1:=hr.k.path;have h2:=hr.k.A4;have h3:=hr.k.Ai;have h4:=hr.over;have h5:=hr.Ax;have h6:=hr.Aw;have h1l:r.path.length<=12:=h1.2.1;unfold sR;rw[jI _ (by omega),aH,oB _ (by omega),aH,fG _ (by omega),aH,jI _ (by omega),aH,oB _ (by omega),aH,fG _ (by omega),aH];unfold kL;have hcl:([r.path,r.over]:List (List Ae)).flatten=r.path++r.over:=by simp
 rw[hcl,aA ⟨by simp,by rw[qn];omega⟩,aH]
 have hall:∀s∈r.path++r.over,uS s:=λs hs=>by
  rcases zQN.1 hs with hs|hs
  exact gx hk (h1.2.2 s hs);exact gx hk (h4.2 s hs)
 have hlen:(r.path++r.over).length<=24:=by rw[qn];omega
 generalize hW:r.path++r.over=W at hall hlen;refine aC (P:=λo=>(o.1.length<=100/\∀s∈o.1,Ab.ok s)/\o.2.1.length<=100) (dM (λi s=>s.1=(i:Int)/\(s.2.1.length<=4*i/\∀x∈s.2.1,Ab.ok x)/\s.2.2.1.length<=4*i/\s.2.2.2.length<=4*i) W.length (by omega) ⟨rfl,⟨by simp,by simp⟩,by simp,by simp⟩ ?_ ?_) ?_;rintro i ⟨_,fl,gd,gp⟩ hi ⟨rfl,⟨q1,q2⟩,q3,q4⟩;dsimp only at q1 q2 q3 q4⊢;rw[if_pos (by omega)];refine aC (P:=λo=>(o.1.length<=4*(i+1)/\∀x∈o.1,Ab.ok x)/\o.2.1.length<=4*(i+1)/\o.2.2.length<=4*(i+1)) ?_ ?_;rw[bC (lR hi)];refine aC (beside_t hk (hall _ (fM hi))) ?_;rintro es ⟨e1,e2⟩;refine dM (λk s=>s.1=(k:Int)/\(s.2.1.length<=4*i+k/\∀x∈s.2.1,Ab.ok x)/\s.2.2.1.length<=4*i+k/\s.2.2.2.length<=4*i+k) es.length (by omega) ⟨rfl,⟨by dsimp only;omega,q2⟩,by dsimp only;omega,by dsimp only;omega⟩ ?_ ?_;rintro k ⟨_,fl2,gd2,gp2⟩ hk2 ⟨rfl,⟨p1,p2⟩,p3,p4⟩;dsimp only at p1 p2 p3 p4⊢;rw[if_pos (by omega),bC (lR hk2)];refine aC (search_t hk (r:=⟨r.name,r.entry,r.exit,r.path,r.A4,r.Ai,r.A2,r.length,r.over,r.Ax,r.Aw,fl2,gd2,gp2⟩) ⟨⟨⟨h1,h2,h3,hr.k.exit,hr.k.length⟩,h4,h5,h6⟩,by dsimp only;omega,p2⟩ (e2 _ (fM hk2))) ?_;rintro⟨s,g,f⟩ hs;dsimp only at hs⊢;split;rw [aA (by simp; omega), aA (bM hk2 (by omega))];exact tot_some.2 ⟨by push_cast;rfl,⟨by dsimp only;omega,p2⟩,by dsimp only;omega,by simp;omega⟩;split
 ·rw [aA (by simp; omega), aA (bM hk2 (by omega))];exact tot_some.2 ⟨by push_cast;rfl,⟨by dsimp only;omega,p2⟩,by simp;omega,by dsimp only;omega⟩
 rw[aA ⟨hs,zset⟩];split;rw [aA (bM hk2 (by omega))];exact tot_some.2 ⟨by push_cast;rfl,⟨by dsimp only;omega,p2⟩,by dsimp only;omega,by dsimp only;omega⟩;rw [aA (by simp; omega), aA (bM hk2 (by omega))];refine tot_some.2 ⟨by push_cast;rfl,⟨by simp;omega,λx hx=>?_⟩,by dsimp only;omega,by dsimp only;omega⟩;rcases zQN.1 hx with hx|hx
 exact p2 x hx;rw[zal82q]at hx;subst hx;exact hs;rintro⟨_,fl2,gd2,gp2⟩ ⟨rfl,⟨p1,p2⟩,p3,p4⟩;dsimp only at p1 p2 p3 p4⊢;rw[if_neg (by omega)];exact⟨_,rfl,⟨by dsimp only;omega,p2⟩,by dsimp only;omega,by dsimp only;omega⟩;rintro⟨fl2,gd2,gp2⟩ ⟨⟨p1,p2⟩,p3,p4⟩;dsimp only at p1 p2 p3 p4⊢;rw[aA (bM hi (by omega))];exact tot_some.2 ⟨by push_cast;rfl,⟨p1,p2⟩,p3,p4⟩;rintro⟨_,fl,gd,gp⟩ ⟨rfl,⟨q1,q2⟩,q3,q4⟩;dsimp only at q1 q2 q3 q4⊢;rw[if_neg (by omega)];exact⟨_,rfl,⟨by dsimp only;omega,q2⟩,by dsimp only;omega⟩;rintro⟨fl,gd,gp⟩ ⟨⟨q1,q2⟩,q3⟩;dsimp only at q1 q2 q3⊢;have hpm:=pU (m:=eY) fl;have hplen:=hpm.length_eq;rw[aA (by omega)];refine aC (zn (xs:=pP eY fl) (by omega) λs hs=>q2 s (hpm.mem_iff.1 hs)) λrr _=>?_;rw[aA (by omega),aA (by rw[fO];omega)];exact tot_some.2 ⟨h1,h2,h3,hr.k.exit,hr.k.length⟩
theorem Points_t{l:Aa}(hs:LayS l):eS (nM l) λr=>r.length<=32:=by
 have h1:=hs.Ad;unfold nM;refine aC (P:=λr=>r.length<=32) (dM (λi s=>s.1=(i:Int)/\s.2.length<=i) l.Ad.length (by omega) ⟨rfl,cN _⟩ ?_ ?_) λa h=>tot_some.2 h;rintro i ⟨_,b⟩ hi ⟨rfl,q⟩;dsimp only at q⊢;rw[if_pos (by omega),bC (lR hi)];split;rw [aA (by simp; omega), aA (bM hi (by omega))];exact tot_some.2 ⟨by push_cast;rfl,by simp;omega⟩;rw [aA (bM hi (by omega))];exact tot_some.2 ⟨by push_cast;rfl,by show b.length<=i+1;omega⟩;rintro⟨_,b⟩ ⟨rfl,q⟩;dsimp only at q⊢;rw[if_neg (by omega)];exact⟨_,rfl,by omega⟩
structure TabK (l:Aa) (t:A1):Prop where
 len:t.Ak.length<=48
 ok:∀r∈t.Ak,RtOk l r
theorem Build_t{l:Aa}(hw:Aa.Wf l):eS (oK l) λr=>r.2=0->LayK l/\TabK l r.1:=by
 unfold oK;refine aC (All_t hw) ?_;rintro⟨rs,e⟩ h;dsimp only at h⊢;split;rename_i he;obtain⟨hk,h1,h2⟩:=h he;refine aC (P:=λo=>o.length<=48/\∀x∈o,RtOk l x) (dM (λi s=>s.1=(i:Int)/\s.2.length=i/\∀x∈s.2,RtOk l x) rs.length (by omega) ⟨rfl,rfl,by simp⟩ ?_ ?_) λrts hrts=>?_;rintro i ⟨_,b⟩ hi ⟨rfl,q2,q3⟩;dsimp only at q2 q3⊢;have hr:=h2 _ (fM hi);rw[if_pos (by omega),bC (lR hi)];refine aC (ofind_t hk hr.1 hr.2) λr13 hr13=>?_;refine aC (ffind_t hk hr13) λr14 h14=>?_;rw[aA (by simp;omega),aA (bM hi (by omega))];refine tot_some.2 ⟨by push_cast;rfl,by simp;omega,λx hxm=>?_⟩;rcases zQN.1 hxm with hxm|hxm
 exact q3 x hxm;rw[zal82q]at hxm;subst hxm;exact h14;rintro⟨_,b⟩ ⟨rfl,q2,q3⟩;dsimp only at q2 q3⊢;rw[if_neg (by omega)];exact⟨_,rfl,by omega,q3⟩;refine aC (P := fun _ => True) ?_ ?_
 ·refine aC (Points_t hk.s) fun ps hps => ?_;refine dM (λi s=>s.1=(i:Int)/\s.2.1.length=i/\s.2.2.length=i) ps.length (by omega) ⟨rfl,rfl,rfl⟩ ?_ ?_;rintro i ⟨_,b,c⟩ hi ⟨rfl,q2,q3⟩;dsimp only at q2 q3⊢;rw[if_pos (by omega),bC (lR hi),aA (by simp;omega)];refine aC (kR _) λr _=>?_;rw[aA (by simp;omega),aA (bM hi (by omega))];exact tot_some.2 ⟨by push_cast;rfl,by simp;omega,by simp;omega⟩;rintro⟨_,b,c⟩ ⟨rfl,q2,q3⟩;dsimp only;rw[if_neg (by omega)];exact⟨_,rfl,trivial⟩
 rintro⟨b,c⟩ _;exact tot_some.2 λ_=>⟨hk,hrts.1,hrts.2⟩;rename_i he;exact tot_some.2 λh=>absurd h he
theorem clamp_eq(x a b:Int):iU x a b=some (max a (min x b)):=rfl
theorem mN{x a b:Int}(hx:bD x)(ha:bD a)(hb:bD b):bD (max a (min x b)):=by unfold bD at *; omega
theorem Dg{t:Ao}(hw:Ao.Wf t):eS (qL t) λr=>r=0->1<=t.length/\t.length<=50000:=by
 have hname:t.name.size<=maxLen:=dQ hw.name (by decide);unfold qL;refine aC (Name_t _) λb _=>?_;split;exact tot_some.2 (by intro h;cases h);unfold rO;simp only[clamp_eq,aH];have z:∀n:Int,-1000000<=n->n<=1000000->bD n:=λn h1 h2=>by unfold bD;omega
 rw[aA ⟨⟨hw.id,hname,hw.length,hw.speed,hw.accel,hw.service,hw.emergency,hw.delay,hw.const,hw.rate⟩,mN hw.id (z _ (by decide) (by decide)) (z _ (by decide) (by decide)),hname,mN hw.length (z _ (by decide) (by decide)) (z _ (by decide) (by decide)),mN hw.speed (z _ (by decide) (by decide)) (z _ (by decide) (by decide)),mN hw.accel (z _ (by decide) (by decide)) (z _ (by decide) (by decide)),mN hw.service (z _ (by decide) (by decide)) (z _ (by decide) (by decide)),mN hw.emergency hw.service (z _ (by decide) (by decide)),mN hw.delay (z _ (by decide) (by decide)) (z _ (by decide) (by decide)),mN hw.const (z _ (by decide) (by decide)) (z _ (by decide) (by decide)),mN hw.rate (z _ (by decide) (by decide)) (z _ (by decide) (by decide))⟩];split;rename_i he;refine tot_some.2 λ_=>?_;have:=congrArg Ao.length he;simp only at this;omega;exact tot_some.2 (by intro h;cases h)
theorem wf_step{s:Ae}(h:Ae.Wf s):uS s:=⟨h.el,h.inV,h.out⟩
theorem Kl{l:Aa}(hk:LayK l){b:A3}(hw:gf l b.steps)(h1:1<=b.length/\b.length<=1000000)(h2:1<=b.head/\b.head<=1000000):eS (pN l b) λ_=>True:=by
 obtain⟨w1,w2,_⟩:=hw;unfold pN;rw[aA (by unfold bD;omega),aA (by omega)]
 have hs:(sub b.steps 0 ((b.steps.length:Int)-1)).length<=64:=by
  rw[show((b.steps.length:Int)-1)=((b.steps.length-1:Nat):Int) by omega,xG,gB];omega
 refine aC (yP hk (by omega)) λn hn=>?_;rw[aA (by unfold bD;omega),aA (by unfold bD;omega)];exact tot_some.2 trivial
theorem G8{l:Aa}(hk:LayK l){b:A3}(hw:A3.Wf b):eS (sS l b) λr=>r=0->gf l b.steps/\1<=b.head/\b.head<=1000000:=by
 unfold sS;refine aC (P:=λr=>r=false->gf l b.steps/\(1<=b.length/\b.length<=1000000)/\1<=b.head/\b.head<=1000000) ?_ λr hr=>?_;refine aC (xg hk fun s hs => wf_step (hw.steps.2 s hs)) fun v hv => ?_
 cases v with
 |false=>exact tot_some.2 (by simp)
 |true=>
  have hv:=hv rfl;rw[if_neg (by simp)];obtain⟨w1,w2,w3⟩:=hv;split;exact tot_some.2 (by simp);split
  ·exact tot_some.2 (by simp)
  split
  ·exact tot_some.2 (by simp)
  refine aC (P := fun s => kQ l s) ?_ fun s hs => ?_
  ·unfold zO;rw[aA (by unfold bD;omega)];exact bG (by omega) (by omega) λs hs _=>tot_some.2 (w3 s hs)
  refine bG hs.1 hs.2.1 fun x hx _ => tot_some.2 fun h => ?_;have h:=of_decide_eq_false h;have hx:=hk.right x hx;unfold qi at hx;exact⟨⟨w1,w2,w3⟩,by omega,by omega,by omega⟩
 cases r with
 |true=>exact tot_some.2 (by intro h;cases h)
 |false=>
  obtain⟨h1,h2,h3⟩:=hr rfl;rw[if_neg eX];refine aC (Kl hk h1 h2 h3) λn _=>?_;obtain⟨w1,w2,w3⟩:=h1;refine aC (P:=λ_=>True) ?_ λx _=>?_;split
  ·exact tot_some.2 trivial
  split
  ·refine bG (by omega) (by omega) fun s hs _ => ?_;have:=w3 s hs;exact bG this.1 this.2.1 λx _ _=>tot_some.2 trivial
  exact tot_some.2 trivial;split
  ·exact tot_some.2 (by intro h;cases h)
  exact tot_some.2 λ_=>⟨⟨w1,w2,w3⟩,h3⟩
structure TrackG (l:Aa) (n:Nat) (t:Af):Prop where
 steps:1<=t.steps.length/\t.steps.length<=64/\∀s∈t.steps,kQ l s
 origin:-65000000<=t.origin/\t.origin<=0
 atV:-1000000<=t.atV/\t.atV<=1073741824
 Ak:t.Ak.length+1<=t.steps.length
 starts:t.starts.length=t.Ak.length
 ends:t.ends.length=t.Ak.length
 done:t.done=[]
 sent:0<=t.sent/\t.sent<=(n:Int)
 cutSeq:t.cutSeq=0
 min:t.min=0
theorem zM{l:Aa}(hk:LayK l)(s:Ae):eS (iH l s) λr=>0<=r/\r<=1000000:=by
 unfold iH;exact aC (yP hk (w:=[s]) (by simp)) λr hr=>tot_some.2 (by simpa using hr)
theorem Begin_t{l:Aa}(hw:Aa.Wf l){t:Ao}(ht:Ao.Wf t){b:A3}(hb:A3.Wf b):eS (pM l t b) λr=>r.2=0->LayK l/\(1<=t.length/\t.length<=50000)/\gf l b.steps/\r.1.id=t.id/\TrackG l 0 r.1:=by
 unfold pM;refine aC (P:=λr=>r=false->LayK l/\(1<=t.length/\t.length<=50000)/\gf l b.steps/\1<=b.head/\b.head<=1000000) ?_ λr hr=>?_;refine aC (J0 hw) fun c hc => ?_;split;rename_i e1;have hk:=hc e1;refine aC (Dg ht) λc2 hc2=>?_;split;rename_i e2;refine aC (G8 hk hb) λc3 hc3=>?_;split;rename_i e3;split;exact tot_some.2 λ_=>⟨hk,hc2 e2,hc3 e3⟩;exact tot_some.2 (by simp);exact tot_some.2 (by simp);exact tot_some.2 (by simp);exact tot_some.2 (by simp)
 cases r with
 |true=>exact tot_some.2 (by intro h;cases h)
 |false=>
  obtain⟨hk,h1,⟨w1,w2,w3⟩,h3⟩:=hr rfl;rw[if_neg eX,aA (by unfold bD;omega)];refine bG (by omega) (by omega) λe he _=>?_;have hse:=gx hk (w3 e he);refine aC (yN hw (e:=⟨e.el,e.out⟩) ⟨hse.1,hse.2.2⟩) λg hg=>?_;split;exact tot_some.2 (by intro h;cases h)
  have hs:(sub b.steps 0 ((b.steps.length:Int)-1)).length<=64:=by
   rw[show((b.steps.length:Int)-1)=((b.steps.length-1:Nat):Int) by omega,xG,gB];omega
  rw[aA (by omega)];refine aC (yP hk (by omega)) λn hn=>?_;have hwr:IntKind.i64.wrap (0-n)=0-n:=Hj (by omega);rw[hwr,aA (by unfold bD;omega)];refine aC (zM hk e) λm hm=>?_;rw[aA (by unfold bD;omega),jI _ (by omega),aH];exact tot_some.2 λ_=>⟨hk,h1,⟨w1,w2,w3⟩,rfl,⟨w1,w2,w3⟩,by dsimp only;omega,by dsimp only;omega,by dsimp only[qY];omega,rfl,rfl,rfl,by dsimp only;omega,rfl,rfl⟩
theorem zx{l:Aa}{b:A3}(hw:gf l b.steps):eS (nU l b) λr=>r.length<=64:=by
 unfold nU;have:=hw.2.1;refine aC (cw (by omega)) λr hr=>?_;rw[aA (by omega)];exact tot_some.2 (by rw[fO];omega)
structure CenG (l:Aa) (ts:List Ao) (n:Nat) (c:Ar):Prop where
 ids:c.tracks.map (·.id)=ts.map (·.id)
 peers:c.sessions.map (·.peer)=ts.map (·.id)
 tracks:∀t∈c.tracks,TrackG l n t
 sessions:∀s∈c.sessions,(0<=s.out/\s.out<=1073741824)/\s.inV=0
theorem New_t{l:Aa}(hw:Aa.Wf l){ts:List Ao}(ht:∀t∈ts,Ao.Wf t){bs:List A3}(hb:∀b∈bs,A3.Wf b):eS (zA l ts bs) λr=>r.2=0->LayK l/\ts.length<=6/\(∀t∈ts,1<=t.length/\t.length<=50000)/\CenG l ts 0 r.1:=by
 unfold zA;split;exact tot_some.2 (by intro h;cases h);rename_i hc;simp only[mX,decide_eq_true_eq,rB,decide_eq_false_iff_not,not_or,Decidable.not_not]at hc;obtain⟨c1,c2,c3⟩:=hc;have c3:bs.length=ts.length:=by omega
 refine bL (P:=λo=>match o with|.inl _=>True|.inr b=>b.2≠0) (eO (λk=>1<=k/\k<=(ts.length:Int)) (λk=>ts.length-k.toNat) ts.length (by omega) ⟨by omega,by omega⟩ (by omega) ?_) (λ_ _=>?_) (λb hb h=>absurd h hb);rintro k ⟨k1,k2⟩ _;split;rw [aA (by unfold bD; omega)];refine bG (by omega) (by omega) λx _ _=>?_;refine bG (by omega) (by omega) λy _ _=>?_;split;exact⟨_,rfl,by show(7:Int)≠0;decide⟩;rw [aA (by unfold bD; omega)];exact⟨_,rfl,⟨by omega,by omega⟩,by omega⟩;exact⟨_,rfl,trivial⟩;refine bL (P := fun o => match o with | .inl r => CenG l ts 0 ⟨r.1, r.2⟩ /\ LayK l /\ (∀ t ∈ ts, 1 <= t.length /\ t.length <= 50000) /\ (∀ b ∈ bs, gf l b.steps) | .inr b => b.2 ≠ 0) (dM (fun (i : Nat) (s : Int × List Af × List Ah) => s.1 = (i : Int) /\ (s.2.1.map (·.id) = (ts.take i).map (·.id) /\ s.2.2.map (·.peer) = (ts.take i).map (·.id)) /\ (∀ t ∈ s.2.1, TrackG l 0 t) /\ (∀ x ∈ s.2.2, (0 <= x.out /\ x.out <= 1073741824) /\ x.inV = 0) /\ (1 <= i -> LayK l) /\ (∀ k t, k < i -> ts[k]? = some t -> 1 <= t.length /\ t.length <= 50000) /\ (∀ k b, k < i -> bs[k]? = some b -> gf l b.steps)) ts.length (by omega) ⟨rfl, ⟨by simp, by simp⟩, by simp, by simp, by simp, by simp, by simp⟩ ?_ ?_) ?_ (fun b hb h => absurd h hb)
 ·rintro i ⟨_,tk,se⟩ hi ⟨rfl,⟨q1,q2⟩,q3,q4,q5,q6,q7⟩;dsimp only at q1 q2 q3 q4 q5 q6 q7⊢;have hx:=lR hi;have hy:=lR (l:=bs) (show i<bs.length by omega);have htl:tk.length=i:=by have:=congrArg List.length q1;simpa[Nat.min_eq_left (Nat.le_of_lt hi)]using this
  have hsl:se.length=i:=by have:=congrArg List.length q2;simpa[Nat.min_eq_left (Nat.le_of_lt hi)]using this
  rw[if_pos (by omega),bC hx,bC hy];refine aC (Begin_t hw (ht _ (fM hi)) (hb _ (fM (show i<bs.length by omega)))) ?_;rintro⟨t,e⟩ he;dsimp only at he⊢;split;rename_i h0;obtain⟨hk,h1,h2,h3,h4⟩:=he h0;rw[aA (by simp;omega)];unfold tA;rw[aH,aA (by simp;omega),aA (bM hi (by omega))];refine tot_some.2 ⟨by push_cast;rfl,⟨?_,?_⟩,λt ht=>?_,λs hs=>?_,λ_=>hk,λk x hkx hx2=>?_,λk x hkx hx2=>?_⟩;rw[mU,q1,gm,hx,mU];simp only[wq,fX,uY,h3];rw[mU,q2,gm,hx,mU];simp only[wq,fX,uY];rcases zQN.1 ht with ht|ht
  ·exact q3 t ht
  rw[zal82q]at ht;subst ht;exact h4;rcases zQN.1 hs with hs|hs
  ·exact q4 s hs
  rw[zal82q]at hs;subst hs;exact⟨by dsimp only;omega,rfl⟩;rcases dB k i with h|h
  ·exact q6 k x h hx2
  obtain rfl : k = i := by omega
  rw[hx]at hx2;cases hx2;exact h1;rcases dB k i with h|h
  ·exact q7 k x h hx2
  obtain rfl : k = i := by omega
  rw[hy]at hx2;cases hx2;exact h2;rename_i h0;exact⟨_,rfl,h0⟩
 rintro⟨_,tk,se⟩ ⟨rfl,⟨q1,q2⟩,q3,q4,q5,q6,q7⟩;dsimp only at q1 q2 q3 q4 q5 q6 q7⊢;rw[if_neg (by omega)];rw[uX]at q1 q2;refine⟨_,rfl,⟨q1,q2,q3,q4⟩,q5 (by omega),λt ht=>?_,λb hb=>?_⟩;obtain⟨k,hk⟩:=iL ht;exact q6 k t (zQQ.1 hk).1 hk;obtain⟨k,hk⟩:=iL hb;exact q7 k b (by have:=(zQQ.1 hk).1;omega) hk;rintro⟨tk,se⟩ ⟨hcen,hk,hlen,hway⟩;dsimp only;refine bL (P:=λo=>match o with|.inl _=>True|.inr b=>b.2≠0) (dM (λi s=>s.1=(i:Int)/\(s.2.map (·.1)).Nodup) bs.length (by omega) ⟨rfl,by simp⟩ ?_ ?_) (λ_ _=>tot_some.2 λ_=>⟨hk,by omega,hlen,hcen⟩) (λb hb h=>absurd h hb);rintro i ⟨_,m⟩ hi ⟨rfl,hm⟩;dsimp only at hm⊢;rw[if_pos (by omega)];refine bL (P:=λo=>match o with|.inl m=>(m.map (·.1)).Nodup|.inr b=>∃r,b=.inr (.inr r)/\r.2≠0) ?_ ?_ ?_;rw[bC (lR hi)];refine aC (zx (hway _ (fM hi))) λsc hsc=>?_;refine dM (λi s=>s.1=(i:Int)/\(s.2.map (·.1)).Nodup) sc.length (by omega) ⟨rfl,hm⟩ ?_ ?_;rintro k ⟨_,m2⟩ hk2 ⟨rfl,hm2⟩;dsimp only at hm2⊢;rw[if_pos (by omega),bC (lR hk2),aA hm2];split;exact⟨_,rfl,_,rfl,by show(10:Int)≠0;decide⟩;rw [aA hm2, aA (bM hk2 (by omega))];exact⟨_,rfl,by push_cast;rfl,oM hm2 _ _⟩;rintro⟨_,m2⟩ ⟨rfl,hm2⟩;dsimp only at hm2⊢;rw[if_neg (by omega)];exact⟨_,rfl,hm2⟩;intro m2 hm2;rw[aA (bM hi (by omega))];exact⟨_,rfl,by push_cast;rfl,hm2⟩;rintro b ⟨r,rfl,hr⟩;exact hr;rintro⟨_,m⟩ ⟨rfl,hm⟩;dsimp only;rw[if_neg (by omega)];exact⟨_,rfl,trivial⟩
theorem Cw{t:Af}(h1:t.steps.length<=1000000000)(h2:t.Ak.length<=1000000000)(h3:t.starts.length<=1000000000)(h4:t.ends.length<=1000000000)(h5:t.done.length<=1000000000):eJ t=some t:=by
 unfold eJ;rw[jI _ h1,aH,fG _ h2,aH,fG _ h3,aH,fG _ h4,aH,fG _ h5,aH]
theorem zl{l:Aa}{n:Nat}{t:Af}(h:TrackG l n t):eJ t=some t:=by
 have h1:=h.steps;have h2:=h.Ak;exact Cw (by omega) (by omega) (by rw[h.starts];omega) (by rw[h.ends];omega) (by rw[h.done];simp)
theorem Eb(p:Int->Option Bool):eS (gH [] p) λr=>r=-1:=by
 unfold gH;refine bL (P:=λo=>match o with|.inl _=>True|.inr b=>b=-1) (dS ([]:List Int) (by simp) (λ_=>True) trivial ?_ ?_) (λ_ _=>tot_some.2 rfl) (λb hb=>hb);intro i e hx _;simp at hx;intro _;rw[if_neg (by simp)];exact⟨_,rfl,_,rfl,trivial⟩
theorem settle_t{l:Aa}{n:Nat}{t:Af}(h:TrackG l n t)(p:A6):eS (nR t p) λr=>r=t:=by
 unfold nR;rw[zl h,aH,h.done];unfold iQ;refine aC (P:=λr=>r=[]) ?_ λr hr=>?_;refine aC (Eb _) fun r hr => ?_;rw[if_pos hr];exact tot_some.2 rfl;subst hr;refine tot_some.2 ?_;rw[<- h.done]
theorem Ea{w:List Af}(hw:w.length<=1000000){p:Af->Option Bool}(hp:∀s∈w,eS (p s) λ_=>True):eS (eP w p) λ_=>True:=by
 unfold eP;refine aC (P:=λ_=>True) ?_ λ_ _=>tot_some.2 trivial;unfold iA;refine bL (P:=λ_=>True) (dS w (by omega) (λ_=>True) trivial ?_ ?_) (λ_ _=>tot_some.2 trivial) (λ_ _=>trivial);intro k e hx _;have hi:=(zQQ.1 hx).1;rw[if_pos (by omega),bC hx];refine aC (hp e (tX hx)) λb _=>?_;split;exact⟨_,rfl,.inr ⟨_,rfl,trivial⟩⟩;rw [aA (bM hi (by omega))];exact⟨_,rfl,.inl ⟨rfl,trivial⟩⟩;intro _;rw[if_neg (by omega)];exact⟨_,rfl,_,rfl,trivial⟩
theorem ready_t{l:Aa}{tb:A1}(htb:TabK l tb){p:A6}{ts:List Af}(hts:ts.length<=1000000)(hr:∀t∈ts,t.Ak.length<=1000000)(e:Int):eS (uH tb p ts e) λ_=>True:=by
 have hlen:=htb.len;unfold uH;refine bL (P:=λ_=>True) (dS tb.Ak (by omega) (λ_=>True) trivial ?_ ?_) (λ_ _=>tot_some.2 trivial) (λ_ _=>trivial);intro k r hx _;have hi:=(zQQ.1 hx).1;rw[if_pos (by omega),bC hx];split;exact⟨_,rfl,.inr ⟨_,rfl,trivial⟩⟩;refine aC (P := fun _ => True) ?_ fun x _ => ?_
 ·split
  ·exact bG (by omega) (by omega) λ_ _ _=>tot_some.2 trivial
  exact tot_some.2 trivial
 split
 ·rw [aA (bM hi (by omega))];exact⟨_,rfl,.inl ⟨rfl,trivial⟩⟩
 refine aC (Ea hts fun t ht => ?_) fun b _ => ?_
 ·unfold rS;exact aC (qK (hr t ht) _) λ_ _=>tot_some.2 trivial
 split
 ·exact⟨_,rfl,.inr ⟨_,rfl,trivial⟩⟩
 rw [aA (bM hi (by omega))];exact⟨_,rfl,.inl ⟨rfl,trivial⟩⟩;intro _;rw[if_neg (by omega)];exact⟨_,rfl,_,rfl,trivial⟩
theorem K3{l:Aa}{tb:A1}(htb:TabK l tb){n:Nat}{t:Af}(h:TrackG l n t)(i:Int):eS (nQ tb t i) λo=>match o with|.inl y=>y.err≠0|.inr r=>r∈tb.Ak/\t.steps.length+r.path.length<=64/\t.atV+r.length<=1073741824:=by
 have h1:=h.steps;have h2:=h.Ak;have h3:=h.atV;unfold nQ;split;exact tot_some.2 (show(1:Int)≠0 by decide);rename_i hc;simp only[mX,decide_eq_true_eq,not_or]at hc;refine bG (by omega) (by omega) λr hr _=>?_;have hrk:=htb.ok r hr;have hp:=hrk.path;have hln:=hrk.length;have hpl:r.path.length<=12:=hp.2.1;rw[if_pos h.cutSeq];split;exact tot_some.2 (show(10:Int)≠0 by decide);refine aC (P := fun _ => True) ?_ fun x _ => ?_
 ·refine aC (qQ (by omega) fun s _ => ?_) fun b _ => ?_
  ·unfold mP;exact aC (qQ (by omega) λs _=>by unfold jT;exact tot_some.2 trivial) λ_ _=>tot_some.2 trivial
  split
  ·exact tot_some.2 trivial
  exact aC (qK (by omega) _) λ_ _=>tot_some.2 trivial
 split
 ·exact tot_some.2 (show(8:Int)≠0 by decide)
 refine aC (P := fun x => x = false -> t.steps.length + r.path.length <= 64 /\ t.atV + r.length <= 1073741824) ?_ fun x hx => ?_
 ·rw [aA (by unfold bD; omega)];split;exact tot_some.2 (by simp);rw [aA (by unfold bD; omega)];exact tot_some.2 λh=>by have:=of_decide_eq_false h;omega
 cases x with
 |true=>exact tot_some.2 (show(2:Int)≠0 by decide)
 |false=>exact tot_some.2 ⟨hr,hx rfl⟩
theorem inLast_t{l:Aa}(hk:LayK l){r:Al}(hr:RtOk l r):eS (nP l r) λn=>0<=n/\n<=12000000:=by
 have hp:=hr.path;have hpl:r.path.length<=12:=hp.2.1;have hs:=hr.Ai;unfold nP;split;exact tot_some.2 (by omega);rw [aA (by unfold bD; omega)];refine bG (by omega) (by omega) λe _ _=>?_;refine aC (P:=λn=>0<=n/\n<=12000000) (dM (λi s=>s.2=(i:Int)/\0<=s.1/\s.1<=1000000*(i:Int)) r.path.length (by omega) ⟨rfl,jV _,jV _⟩ ?_ ?_) λn hn=>tot_some.2 hn;rintro i ⟨a,_⟩ hi ⟨rfl,q2,q3⟩;dsimp only at q2 q3⊢;rw[if_pos (by omega),bC (lR hi)];refine aC (kR _) λx _=>?_;split;refine aC (zM hk _) fun m hm => ?_;rw[aA (by unfold bD;omega),aA (bM hi (by omega))];exact tot_some.2 ⟨by push_cast;rfl,by dsimp only;omega,by dsimp only;push_cast;omega⟩;rw [aA (bM hi (by omega))];exact tot_some.2 ⟨by push_cast;rfl,q2,by dsimp only;push_cast;omega⟩;rintro⟨a,_⟩ ⟨rfl,q2,q3⟩;dsimp only at q2 q3⊢;rw[if_neg (by omega)];exact⟨_,rfl,q2,by omega⟩
theorem Extend_t{l:Aa}(hk:LayK l){tb:A1}(htb:TabK l tb){n:Nat}{t:Af}(h:TrackG l n t)(i:Int):eS (nT l tb t i) λr=>r.2=0->TrackG l n r.1/\r.1.id=t.id/\t.steps.length<r.1.steps.length:=by
 have h1:=h.steps;have h2:=h.Ak;have h3:=h.atV;have hs:=h.starts;have he:=h.ends;unfold nT;refine aC (K3 htb h i) ?_;rintro(y|r) hy;dsimp only at hy⊢;unfold kP;exact tot_some.2 λh=>absurd h hy;obtain⟨y1,y2,y3⟩:=hy;have hrk:=htb.ok r y1;have hp:=hrk.path;have hln:=hrk.length;have hp1:1<=r.path.length:=hp.1;dsimp only;rw[zl h,aH,aA (by unfold bD;omega),aA (by rw[qn];omega),aA (by simp;omega)];refine aC (inLast_t hk hrk) λm hm=>?_;rw[aA (by unfold bD;omega),aA (by simp;omega),aA (by simp;omega)];unfold kO;refine tot_some.2 λ_=>⟨⟨⟨?_,?_,?_⟩,h.origin,by dsimp only;omega,?_,?_,?_,h.done,h.sent,h.cutSeq,h.min⟩,rfl,?_⟩;dsimp only;rw[qn];omega;dsimp only;rw[qn];omega;intro s hs;rcases zQN.1 hs with hs|hs
 exact h1.2.2 s hs;exact hp.2.2 s hs;dsimp only;rw[qn,qn];simp only[bq];omega;dsimp only;rw[qn,qn];simp only[bq];omega;dsimp only;rw[qn,qn];simp only[bq];omega;dsimp only;rw[qn];omega
structure TrG (l:Aa) (n:Nat) (ids:List Int) (b:List Af):Prop where
 ids:b.map (·.id)=ids
 ok:∀t∈b,TrackG l n t
theorem TrG.set{l:Aa}{n:Nat}{ids:List Int}{b:List Af}(h:TrG l n ids b){i:Nat}{t0 t:Af}(h0:b[i]?=some t0)(hid:t.id=t0.id)(ht:TrackG l n t):TrG l n ids (b.set i t):=by
 refine⟨?_,λx hx=>?_⟩;rw[<- h.ids,sC];apply hU;intro k;rw[cG];split;rename_i e;subst e;have hl:=(zQQ.1 h0).1;rw[if_pos (by simpa using hl),qU,h0,gO,hid];rfl;rcases xB hx with hx|rfl
 ·exact h.ok x hx
 exact ht
theorem TrG.len{l:Aa}{n:Nat}{ids:List Int}{b:List Af}(h:TrG l n ids b):b.length=ids.length:=by rw[<- h.ids,Bo]
theorem TrackG.up{l:Aa}{n m:Nat}{t:Af}(h:TrackG l n t)(hm:n<=m):TrackG l m t:={ h with sent:=⟨h.sent.1,by have:=h.sent.2;omega⟩ }
theorem extend_t{l:Aa}(hk:LayK l){tb:A1}(htb:TabK l tb){p:A6}{n:Nat}{ids:List Int}(hids:ids.length<=1000){b:List Af}(h:TrG l n ids b){i:Nat}(hi:i<ids.length):eS (sJ l tb p b (i:Int)) λr=>TrG l n ids r:=by
 unfold sJ;refine eO (λb=>TrG l n ids b) (λb=>64-((b[i]?).map (·.steps.length)).getD 0) 64 (by omega) h (by omega) ?_;intro b h _;have hbl:=h.len;obtain⟨t,ht⟩:∃t,b[i]?=some t:=⟨_,lR (show i<b.length by omega)⟩;have htm:=tX ht;have htk:=h.ok t htm;refine aC (P:=λ_=>True) ?_ λx _=>?_;rw[bC ht];split;rw[bC ht];exact tot_some.2 trivial;exact tot_some.2 trivial;split
 ·rw[bC ht];refine aC (ready_t htb (by omega) (λt ht=>by have:=(h.ok t ht).Ak;have:=(h.ok t ht).steps;omega) _) λj _=>?_;split;exact⟨_,rfl,h⟩;rw[bC ht];refine aC (Extend_t hk htb htk j) ?_;rintro⟨t2,e⟩ he;dsimp only at he⊢;split;rename_i e0;obtain⟨g1,g2,g3⟩:=he e0;rw[bC ht];refine⟨_,rfl,h.set ht g2 g1,?_⟩;have g4:=g1.steps;rw[gt,cG,if_pos rfl,if_pos (by omega),ht];simp only[gO,rJ];omega;exact⟨_,rfl,h⟩
 exact⟨_,rfl,h⟩
theorem en(p:List Ag):eS (fK p) λ_=>True:=by
 unfold fK;split;exact tot_some.2 trivial;refine bL (P := fun _ => True) (dS p (by omega) (fun _ => True) trivial ?_ ?_) (fun _ _ => tot_some.2 trivial) (fun _ _ => trivial)
 ·intro k e hx _;have hi:=(zQQ.1 hx).1;rw[if_pos (by omega),bC hx];refine aC (P:=λ_=>True) ?_ λx _=>?_;unfold fA;rw[aH];split;exact tot_some.2 trivial;rw[aH];split;exact tot_some.2 trivial;split
  ·exact tot_some.2 trivial
  split
  ·exact tot_some.2 trivial
  split
  ·exact tot_some.2 trivial
  split
  ·exact tot_some.2 trivial
  exact tot_some.2 trivial;split
  ·exact⟨_,rfl,.inr ⟨_,rfl,trivial⟩⟩
  refine aC (P := fun _ => True) ?_ fun x _ => ?_
  ·split
   ·rw [aA (by unfold bD; omega)];exact bG (by omega) (by omega) λ_ _ _=>tot_some.2 trivial
   exact tot_some.2 trivial
  split
  ·exact⟨_,rfl,.inr ⟨_,rfl,trivial⟩⟩
  rw [aA (bM hi (by omega))];exact⟨_,rfl,.inl ⟨rfl,trivial⟩⟩
 intro _;rw[if_neg (by omega)];exact⟨_,rfl,_,rfl,trivial⟩
theorem Im(x:An)(s:Ae):eS (jX x s) λ_=>True:=by
 unfold jX;split<;>exact tot_some.2 trivial
theorem speed_t(x:An)(s:Ae):eS (nH x s) λ_=>True:=by
 unfold nH;split<;>exact tot_some.2 trivial
theorem profOf_t{l:Aa}(hk:LayK l)(w:List Ae)(o:Int):eS (sK l w o) λr=>r.length<=128:=by
 unfold sK;split;exact tot_some.2 (by simp);refine bL (P := fun o => match o with | .inl b => b.length <= 128 | .inr b => b.length <= 128) (dM (fun i s => s.2.1 = (i : Int) /\ s.2.2.length <= i) w.length (by omega) ⟨rfl, cN _⟩ ?_ ?_) (fun b hb => ?_) (fun b hb => hb)
 ·rintro i ⟨a,_,b⟩ hi ⟨rfl,q⟩;dsimp only at q⊢;rw[if_pos (by omega),bC (lR hi)];split;exact⟨_,rfl,cN _⟩;rename_i hc;simp only[mX,decide_eq_true_eq,not_or]at hc;refine bG (by omega) (by omega) λx hx _=>?_;have hxx:=hk.right x hx;unfold qi at hxx;refine aC (Ew _ _ _) ?_;rintro⟨nd,f⟩ _;dsimp only;refine aC (P:=λr=>r=false->-1073741824<=a/\a<=1073741824) ?_ λr hr=>?_;split
  ·exact tot_some.2 (by simp)
  unfold fA;rw[aH];refine tot_some.2 λh=>?_;simp only[C9,J2,decide_eq_true_eq]at h;exact h
  cases r with
  |true=>exact⟨_,rfl,cN _⟩
  |false=>
   have hr:=hr rfl;rw[if_neg eX,aA (by unfold bD;omega)];refine aC (Im _ _) λg _=>aC (speed_t _ _) λsp _=>?_;rw[aA (by simp;omega),aA (bM hi (by omega))];exact tot_some.2 ⟨by push_cast;rfl,by simp;omega⟩
 rintro⟨a,_,b⟩ ⟨rfl,q⟩;dsimp only at q⊢;rw[if_neg (by omega)];exact⟨_,rfl,by dsimp only;omega⟩;have hb:b.length<=128:=hb;refine aC (en _) λv _=>?_;split;exact tot_some.2 (by simp);exact tot_some.2 hb
theorem Gy(l:List Ag)(h:l.length<=1000000000):gK l=some l:=by
 unfold gK;rw[aA (by simpa using h)];cases l<;>simp[zX]
theorem apply_t{l:Aa}(hk:LayK l){w:List Ae}(hw:∀s∈w,uS s)(o:Int){p:List Ag}(hp:p.length<=128):eS (jC [] w o l p) λr=>r=p:=by
 unfold jC;rw[Gy _ (by omega),aH];refine aC (P:=λ_=>True) ?_ λx _=>?_;refine aC (en _) fun v _ => ?_;split;exact tot_some.2 trivial;refine aC (xg hk hw) fun v _ => ?_;split;exact tot_some.2 trivial;split
 ·exact tot_some.2 trivial
 exact tot_some.2 trivial;unfold fS;split;exact tot_some.2 rfl;refine aC (P := fun _ => True) (eO (fun s => s = 0) (fun _ => 0) 0 (by omega) rfl (by omega) ?_) fun _ _ => tot_some.2 rfl;rintro _ rfl _;rw[if_neg (by simp)];exact⟨_,rfl,trivial⟩
theorem cut_t(p:List Ag)(a b:Int):eS (qP p a b) λr=>r.length<=128:=by
 unfold qP;by_cases hp:p.length<=128;refine aC (en _) fun v _ => ?_;split;exact tot_some.2 (by simp);refine aC (P := fun r => r.length <= 128) (dM (fun i s => s.1 = (i : Int) /\ s.2.length <= i) p.length (by omega) ⟨rfl, cN _⟩ ?_ ?_) fun r hr => tot_some.2 hr
 ·rintro i ⟨_,c⟩ hi ⟨rfl,q⟩;dsimp only at q⊢;rw[if_pos (by omega),bC (lR hi)];unfold jE;rw[aH];dsimp only;split;rw [aA (by simp; omega), aA (bM hi (by omega))];exact tot_some.2 ⟨by push_cast;rfl,by simp;omega⟩;rw [aA (bM hi (by omega))];exact tot_some.2 ⟨by push_cast;rfl,by show c.length<=i+1;omega⟩
 rintro⟨_,c⟩ ⟨rfl,q⟩;dsimp only at q⊢;rw[if_neg (by omega)];exact⟨_,rfl,by omega⟩;unfold fK;rw[if_pos (by omega),aH,if_pos (by rfl)];exact tot_some.2 (by simp)
def CmpT(p:Ac->Ac->Option Int):Prop:=∀x y,eS (p x y) λ_=>True
theorem Kx:CmpT nL:=by
 intro x y;unfold nL;rw[vX,aH,vX,aH,or_eq,aH];exact tot_some.2 trivial
theorem xa{x:Int}(h0:0<=x)(h1:x<=1000000000):IntKind.i64.wrap ((IntKind.u64.wrap x).fdiv (2^(min (1:Int).toNat IntKind.u64.bits)))=x/2:=by
 have e1:IntKind.u64.wrap x=x:=by
  simp[IntKind.wrap,IntKind.bits,IntKind.signed];omega
 have e2:(2:Int)^(min (1:Int).toNat IntKind.u64.bits)=2:=by decide
 rw[e1,e2,Int.fdiv_eq_ediv_of_nonneg _ (by decide),Hj (by omega)]
theorem vi{p:Ac->Ac->Option Int}(hp:CmpT p){b:List Ac}(hb:b.length<=1000000){a c:Int}(h0:0<=a)(h1:a<=1000000)(h2:c<=(b.length:Int)):eS (cJ b a c p) λr=>r.length=b.length:=by
 unfold cJ;rw[aA (by unfold bD;omega)];refine eO (λs=>a+1<=s.1/\s.1<=2000000/\s.2.length=b.length) (λs=>2000000-s.1.toNat) 2000000 (by omega) ⟨jV _,by dsimp only;omega,rfl⟩ (by dsimp only;omega) ?_;rintro⟨i,d⟩ ⟨q1,q2,q3⟩ _;dsimp only at q1 q2 q3⊢;split;refine aC (P := fun d => d.length = b.length) (eO (fun s => a <= s.1 /\ s.1 <= i /\ s.2.length = b.length) (fun s => s.1.toNat) 2000000 (by omega) ⟨by dsimp only; omega, jV _, q3⟩ (by dsimp only; omega) ?_) fun d2 hd2 => ?_
 ·rintro⟨j,e⟩ ⟨p1,p2,p3⟩ _;dsimp only at p1 p2 p3⊢;refine aC (P:=λr=>r=true->a<j) ?_ λx hx=>?_;split
  ·rename_i hj;refine bG (by omega) (by omega) λx _ _=>?_;rw[aA (by unfold bD;omega)];refine bG (by omega) (by omega) λy _ _=>?_;exact aC (hp x y) λ_ _=>tot_some.2 λ_=>hj
  exact tot_some.2 (by simp)
  cases x with
  |false=>exact⟨_,rfl,p3⟩
  |true=>
   have hx:=hx rfl;rw[if_pos rfl,aA (by unfold bD;omega),aA (by unfold bD;omega)];refine bG (by omega) (by omega) λx _ _=>?_;refine bG (by omega) (by omega) λy _ _=>?_;refine bG (by omega) (by omega) λz _ _=>?_;refine bG (by omega) (by rw[zal60q];omega) λu _ _=>?_;rw[aA (by unfold bD;omega)];exact⟨_,rfl,⟨by dsimp only;omega,by dsimp only;omega,by rw[zal60q,zal60q];exact p3⟩,by dsimp only;omega⟩
 rw [aA (by unfold bD; omega)];exact⟨_,rfl,⟨by dsimp only;omega,by dsimp only;omega,hd2⟩,by dsimp only;omega⟩;exact⟨_,rfl,q3⟩
theorem Ho{p:Ac->Ac->Option Int}{b:List Ac}(hb:b.length<=1000000){a c n:Int}(h0:0<=a)(h1:0<=c)(hn:0<=n)(h2:a+n<=(b.length:Int))(h3:c+n<=(b.length:Int)):eS (cI b a c n p) λr=>r.length=b.length:=by
 unfold cI;refine eO (λs=>0<=s.1/\s.1<=n/\s.2.length=b.length) (λs=>n.toNat-s.1.toNat) n.toNat (by omega) ⟨jV _,hn,rfl⟩ (by dsimp only;omega) ?_;rintro⟨i,d⟩ ⟨q1,q2,q3⟩ _;dsimp only at q1 q2 q3⊢;split;rw [aA (by unfold bD; omega), aA (by unfold bD; omega), aA (by unfold bD; omega)];refine bG (by omega) (by omega) λx _ _=>?_;rw[aA (by unfold bD;omega)];refine bG (by omega) (by omega) λy _ _=>?_;refine bG (by omega) (by omega) λz _ _=>?_;refine bG (by omega) (by rw[zal60q];omega) λu _ _=>?_;rw[aA (by unfold bD;omega)];exact⟨_,rfl,⟨by dsimp only;omega,by dsimp only;omega,by rw[zal60q,zal60q];exact q3⟩,by dsimp only;omega⟩;exact⟨_,rfl,q3⟩
theorem rotate_t{p:Ac->Ac->Option Int}{b:List Ac}(hb:b.length<=1000000){a m c:Int}(h0:0<=a)(h1:a<m)(h2:m<c)(h3:c<=(b.length:Int)):eS (dH b a m c p) λr=>r.length=b.length:=by
 unfold dH;rw[aA (by unfold bD;omega),aA (by unfold bD;omega)];refine aC (P:=λo=>(1<=o.1/\o.1<=m-a/\o.1<=c-m)/\o.2.length=b.length) (eO (λs=>(1<=s.1/\s.1<=m-a)/\(1<=s.2.1/\s.2.1<=c-m)/\s.2.2.length=b.length) (λs=>s.1.toNat+s.2.1.toNat) 2000000 (by omega) ⟨⟨by dsimp only;omega,by dsimp only;omega⟩,⟨by dsimp only;omega,by dsimp only;omega⟩,rfl⟩ (by dsimp only;omega) ?_) ?_;rintro⟨i,j,d⟩ ⟨⟨q1,q2⟩,⟨q3,q4⟩,q5⟩ _;dsimp only at q1 q2 q3 q4 q5⊢;split;exact⟨_,rfl,⟨by dsimp only;omega,by dsimp only;omega,by dsimp only;omega⟩,q5⟩;split
 ·rw [aA (by unfold bD; omega)];refine aC (Ho (b:=d) (by omega) (by omega) (by omega) (by omega) (by omega) (by omega)) λr hr=>?_;rw[aA hr,aA (by unfold bD;omega)];exact⟨_,rfl,⟨⟨by dsimp only;omega,by dsimp only;omega⟩,⟨by dsimp only;omega,by dsimp only;omega⟩,by dsimp only;omega⟩,by dsimp only;omega⟩
 rw [aA (by unfold bD; omega), aA (by unfold bD; omega), aA (by unfold bD; omega)];refine aC (Ho (b:=d) (by omega) (by omega) (by omega) (by omega) (by omega) (by omega)) λr hr=>?_;rw[aA hr,aA (by unfold bD;omega)];exact⟨_,rfl,⟨⟨by dsimp only;omega,by dsimp only;omega⟩,⟨by dsimp only;omega,by dsimp only;omega⟩,by dsimp only;omega⟩,by dsimp only;omega⟩;rintro⟨i,d⟩ ⟨⟨q1,q2,q3⟩,q4⟩;dsimp only at q1 q2 q3 q4⊢;rw[aA (by unfold bD;omega)];refine aC (Ho (b:=d) (by omega) (by omega) (by omega) (by omega) (by omega) (by omega)) λr hr=>?_;rw[aA hr];exact tot_some.2 (by omega)
theorem bin_t{ρ:Type}{f:Int×Int->Option ((Int×Int) ⊕ Int)}{lo hi:Int}(h0:0<=lo)(h1:lo<=hi)(h2:hi<=1000000)(hf:∀i j,lo<=i->i<j->j<=hi->eS (f (i,j)) λo=>o=.inl ((i+j)/2+1,j)\/o=.inl (i,(i+j)/2))(he:∀i j,¬i<j->f (i,j)=some (.inr i)):eS (bQ f (lo,hi)) λr=>lo<=r/\r<=hi:=by
 refine eO (λs=>lo<=s.1/\s.1<=s.2/\s.2<=hi) (λs=>s.2.toNat-s.1.toNat) 2000000 (by omega) ⟨jV _,h1,jV _⟩ (by dsimp only;omega) ?_;rintro⟨i,j⟩ ⟨q1,q2,q3⟩ _;dsimp only at q1 q2 q3⊢;by_cases h:i<j;refine kS (hf i j q1 h q3) ?_;rintro o (rfl|rfl);exact⟨⟨by dsimp only;omega,by dsimp only;omega,by dsimp only;omega⟩,by dsimp only;omega⟩;exact⟨⟨by dsimp only;omega,by dsimp only;omega,by dsimp only;omega⟩,by dsimp only;omega⟩;rw[he i j h];exact⟨_,rfl,by dsimp only;omega⟩
theorem sym_t{p:Ac->Ac->Option Int}(hp:CmpT p):∀(n fu:Nat)(b:List Ac)(a m c:Int),n<fu->b.length<=100000->0<=a->a<m->m<c->c<=(b.length:Int)->c-a<=(n:Int)->eS (bV fu b a m c p) λr=>r.length=b.length:=by
 intro n
 induction n using Nat.strongRecOn with
 |_ n ih=>
  intro fu b a m c hfu hb h0 h1 h2 h3 hn
  cases fu with
  |zero=>omega
  |succ fu=>
   unfold bV;refine bL (P:=λo=>match o with|.inl _=>True|.inr r=>r.length=b.length) ?_ (λ_ _=>?_) (λr hr=>hr);rw [aA (by unfold bD; omega)];split;refine aC (bin_t (ρ := Unit) (lo := m) (hi := c) (by omega) (by omega) (by omega) (fun i j hi hij hj => ?_) (fun i j hij => ?_)) fun x hx => ?_
   ·dsimp only;rw[if_pos hij,xa (by omega) (by omega),aA (by unfold bD;omega),aA (by decide)];refine bG (by omega) (by omega) λx _ _=>?_;refine bG (by omega) (by omega) λy _ _=>?_;refine aC (hp x y) λz _=>?_;split;rw [aA (by unfold bD; omega)];exact tot_some.2 (.inl rfl);exact tot_some.2 (.inr rfl)
   dsimp only;rw[if_neg hij];rfl;refine aC (P := fun d => d.length = b.length) (eO (fun s => a <= s.1 /\ s.1 <= 2000000 /\ s.2.length = b.length) (fun s => 2000000 - s.1.toNat) 2000000 (by omega) ⟨jV _, by dsimp only; omega, rfl⟩ (by dsimp only; omega) ?_) fun d hd => ⟨_, rfl, hd⟩;rintro⟨k,d⟩ ⟨q1,q2,q3⟩ _;dsimp only at q1 q2 q3⊢;rw[aA (by unfold bD;omega)];split;rw [aA (by unfold bD; omega), aA (by unfold bD; omega)];refine bG (by omega) (by omega) λx _ _=>?_;refine bG (by omega) (by omega) λy _ _=>?_;refine bG (by omega) (by omega) λz _ _=>?_;refine bG (by omega) (by rw[zal60q];omega) λu _ _=>?_;rw[aA (by unfold bD;omega)];exact⟨_,rfl,⟨by dsimp only;omega,by dsimp only;omega,by rw[zal60q,zal60q];exact q3⟩,by dsimp only;omega⟩;exact⟨_,rfl,q3⟩;exact⟨_,rfl,trivial⟩;refine bL (P := fun o => match o with | .inl _ => True | .inr r => r.length = b.length) ?_ (fun _ _ => ?_) (fun r hr => hr)
   ·rw [aA (by unfold bD; omega)];split;refine aC (bin_t (ρ := Unit) (lo := a) (hi := m) (by omega) (by omega) (by omega) (fun i j hi hij hj => ?_) (fun i j hij => ?_)) fun x hx => ?_
    ·dsimp only;rw[if_pos hij,xa (by omega) (by omega),aA (by unfold bD;omega),aA (by decide)];refine bG (by omega) (by omega) λx _ _=>?_;refine bG (by omega) (by omega) λy _ _=>?_;refine aC (hp x y) λz _=>?_;split;exact tot_some.2 (.inr rfl);rw [aA (by unfold bD; omega)];exact tot_some.2 (.inl rfl)
    dsimp only;rw[if_neg hij];rfl;refine aC (P := fun d => d.length = b.length) (eO (fun s => 0 <= s.1 /\ s.1 <= m /\ s.2.length = b.length) (fun s => s.1.toNat) 2000000 (by omega) ⟨by dsimp only; omega, jV _, rfl⟩ (by dsimp only; omega) ?_) fun d hd => ⟨_, rfl, hd⟩;rintro⟨k,d⟩ ⟨q1,q2,q3⟩ _;dsimp only at q1 q2 q3⊢;split;rw [aA (by unfold bD; omega), aA (by unfold bD; omega)];refine bG (by omega) (by omega) λx _ _=>?_;refine bG (by omega) (by omega) λy _ _=>?_;refine bG (by omega) (by omega) λz _ _=>?_;refine bG (by omega) (by rw[zal60q];omega) λu _ _=>?_;rw[aA (by unfold bD;omega)];exact⟨_,rfl,⟨by dsimp only;omega,by dsimp only;omega,by rw[zal60q,zal60q];exact q3⟩,by dsimp only;omega⟩;exact⟨_,rfl,q3⟩;exact⟨_,rfl,trivial⟩
   rw [xa (x := a + c) (by omega) (by omega)];generalize hmid:(a+c)/2=mid;have m1:a<mid:=by omega
   have m2:mid<c:=by omega
   rw[aA (by unfold bD;omega),aA (by decide),aA (by unfold bD;omega)];refine aC (P:=λo=>(mid<m/\o=(mid+m-c,mid))\/(m<=mid/\o=(a,m))) ?_ ?_;split
   ·rename_i hlt;rw[aA (by unfold bD;omega)];exact tot_some.2 (.inl ⟨hlt,rfl⟩)
   exact tot_some.2 (.inr ⟨by omega,rfl⟩);rintro⟨st,r⟩ hsr;dsimp only;rw[aA (by unfold bD;omega)]
   have hlo:a<=st/\st<=r/\r<=m/\r<=mid/\mid+m-st<=c:=by
    rcases hsr with⟨g1,g2⟩|⟨g1,g2⟩
    cases g2;omega;cases g2;omega
   refine aC (bin_t (ρ:=Unit) (lo:=st) (hi:=r) (by omega) (by omega) (by omega) (λi j hi hij hj=>?_) (λi j hij=>?_)) λs hs=>?_;dsimp only;rw[if_pos hij,xa (by omega) (by omega),aA (by unfold bD;omega),aA (by decide),aA (by unfold bD;omega)];refine bG (by omega) (by omega) λx _ _=>?_;refine bG (by omega) (by omega) λy _ _=>?_;refine aC (hp x y) λz _=>?_;split;exact tot_some.2 (.inr rfl);rw [aA (by unfold bD; omega)];exact tot_some.2 (.inl rfl);dsimp only;rw[if_neg hij];rfl;rw [aA (by unfold bD; omega)];refine aC (P:=λd=>d.length=b.length) ?_ λd1 hd1=>?_;split
   ·rename_i hc;simp only[J2,decide_eq_true_eq]at hc;refine aC (rotate_t (b:=b) (by omega) (by omega) (by omega) (by omega) (by omega)) λd hd=>?_;rw[aA hd];exact tot_some.2 hd
   exact tot_some.2 rfl;refine aC (P := fun d => d.length = b.length) ?_ fun d2 hd2 => ?_
   ·split
    ·rename_i hc;simp only[J2,decide_eq_true_eq]at hc;refine aC (ih (mid-a).toNat (by omega) fu d1 a s mid (by omega) (by omega) h0 (by omega) (by omega) (by omega) (by omega)) λd hd=>?_;rw[aA hd];exact tot_some.2 (by omega)
    exact tot_some.2 hd1
   split
   ·rename_i hc;simp only[J2,decide_eq_true_eq]at hc;refine aC (ih (c-mid).toNat (by omega) fu d2 mid (mid+m-s) c (by omega) (by omega) (by omega) (by omega) (by omega) (by omega) (by omega)) λd hd=>?_;rw[aA hd];exact tot_some.2 (by omega)
   exact tot_some.2 hd2
theorem sym_tt{p:Ac->Ac->Option Int}(hp:CmpT p){b:List Ac}{a m c:Int}(hb:b.length<=100000)(h0:0<=a)(h1:a<m)(h2:m<c)(h3:c<=(b.length:Int)):eS (cZ b a m c p) λr=>r.length=b.length:=by
 unfold cZ;exact sym_t hp 100000 lN b a m c (by unfold lN;omega) hb h0 h1 h2 h3 (by omega)
theorem stable_t{p:Ac->Ac->Option Int}(hp:CmpT p){b:List Ac}(hb:b.length<=100000):eS (dW b p) λr=>r.length=b.length:=by
 unfold dW;refine aC (P:=λr=>r.length=b.length) ?_ λr hr=>by rw[aA hr];exact tot_some.2 hr
 unfold eD;refine aC (P:=λo=>(0<=o.1/\o.1<=(b.length:Int))/\o.2.length=b.length) (eO (λs=>0<=s.1/\s.1<=(b.length:Int)/\s.2.1=s.1+20/\s.2.2.length=b.length) (λs=>200000-s.1.toNat) 200000 (by omega) ⟨jV _,by dsimp only;omega,rfl,rfl⟩ (by dsimp only;omega) ?_) ?_;rintro⟨a,e,d⟩ ⟨q1,q2,q3,q4⟩ _;dsimp only at q1 q2 q3 q4⊢;split;refine aC (vi hp (b := d) (by omega) (by omega) (by omega) (by omega)) fun r hr => ?_;rw[aA hr,aA (by unfold bD;omega)];exact⟨_,rfl,⟨by dsimp only;omega,by dsimp only;omega,rfl,by dsimp only;omega⟩,by dsimp only;omega⟩;exact⟨_,rfl,⟨q1,q2⟩,q4⟩;rintro⟨a,d⟩ ⟨⟨q1,q2⟩,q4⟩;dsimp only at q1 q2 q4⊢;refine aC (vi hp (b:=d) (by omega) (by omega) (by omega) (by omega)) λr hr=>?_;rw[aA hr];refine eO (λs=>20<=s.1/\s.1<=1000000/\s.2.length=b.length) (λs=>1000000-s.1.toNat) 1000000 (by omega) ⟨jV _,by dsimp only;omega,by dsimp only;omega⟩ (by dsimp only;omega) ?_;rintro⟨bs,d2⟩ ⟨g1,g2,g3⟩ _;dsimp only at g1 g2 g3⊢;split;rename_i hlt;rw[aA (by unfold bD;omega)];refine aC (P:=λo=>(0<=o.1/\o.1<=(b.length:Int))/\o.2.length=b.length) (eO (λs=>0<=s.1/\s.1<=(b.length:Int)/\s.2.1=s.1+2*bs/\s.2.2.length=b.length) (λs=>200000-s.1.toNat) 200000 (by omega) ⟨jV _,by dsimp only;omega,by dsimp only;omega,g3⟩ (by dsimp only;omega) ?_) ?_;rintro⟨a2,e2,d3⟩ ⟨p1,p2,p3,p4⟩ _;dsimp only at p1 p2 p3 p4⊢;split;rw [aA (by unfold bD; omega)];refine aC (sym_tt hp (b:=d3) (by omega) (by omega) (by omega) (by omega) (by omega)) λr2 hr2=>?_;rw[aA hr2,aA (by unfold bD;omega),aA (by unfold bD;omega)];exact⟨_,rfl,⟨by dsimp only;omega,by dsimp only;omega,rfl,by dsimp only;omega⟩,by dsimp only;omega⟩;exact⟨_,rfl,⟨p1,p2⟩,p4⟩;rintro⟨a2,d3⟩ ⟨⟨p1,p2⟩,p4⟩;dsimp only at p1 p2 p4⊢;rw[aA (by unfold bD;omega)];split;refine aC (sym_tt hp (b := d3) (by omega) (by omega) (by omega) (by omega) (by omega)) fun r2 hr2 => ?_;rw[aA hr2,aA (by unfold bD;omega)];exact⟨_,rfl,⟨by dsimp only;omega,by dsimp only;omega,by dsimp only;omega⟩,by dsimp only;omega⟩;rw [aA (by unfold bD; omega)];exact⟨_,rfl,⟨by dsimp only;omega,by dsimp only;omega,by dsimp only;omega⟩,by dsimp only;omega⟩;exact⟨_,rfl,g3⟩
theorem grp_mem{β:Type}(key:β->Int)(xs:List β):∀x∈kA key xs,∀e∈x.2,e∈xs:=by
 have:∀(xs:List β)(G:List (Int×List β)) (S:β->Prop),(∀x∈G,∀e∈x.2,S e)->(∀e∈xs,S e)->∀x∈xs.foldl (B6 key) G,∀e∈x.2,S e:=by
  intro xs
  induction xs with
  |nil=>intro G S h _;exact h
  |cons y r ih=>
   intro G S h hx;refine ih _ S (λx hxm e he=>?_) (λe he=>hx e (xC _ he));rcases vV key G y with⟨j,es,h1,h2⟩|⟨h1,h2⟩
   rw[h2]at hxm;rcases xB hxm with hxm|rfl
   exact h x hxm e he;rcases zQN.1 he with he|he
   ·exact h _ (tX h1) e he
   rw[zal82q]at he;subst he;exact hx _ (qW ..);rw[h2,zQN]at hxm;rcases hxm with hxm|hxm
   exact h x hxm e he;rw[zal82q]at hxm;subst hxm;rw[zal82q]at he;subst he;exact hx _ (qW ..)
 exact this xs [] (λe=>e∈xs) (by simp) λe he=>he
structure MapB (m:List (Int×List Am)):Prop where
 nd:(m.map (·.1)).Nodup
 len:∀x∈m,x.2.length<=24
 off:∀x∈m,∀e∈x.2,0<=e.offset/\e.offset<=1000000
theorem MapB.get{m:List (Int×List Am)}(h:MapB m)(k:Int):((bH m k).getD []).length<=24/\∀e∈(bH m k).getD [],0<=e.offset/\e.offset<=1000000:=by
 cases e:bH m k with
 |none=>exact⟨by simp,by simp⟩
 |some v=>
  obtain⟨j,hj⟩:=tI e;exact⟨h.len _ (tX hj),h.off _ (tX hj)⟩
theorem MapB.del{m:List (Int×List Am)}(h:MapB m)(k:Int):MapB (Gs m k):=by
 unfold Gs;split;rename_i j _;have hs:(m.eraseIdx j).Sublist m:=List.eraseIdx_sublist ..;exact⟨(hs.map _).nodup h.nd,λx hx=>h.len x (hs.mem hx),λx hx=>h.off x (hs.mem hx)⟩;exact h
theorem passed_t(k:Int)(s:Ae):eS (mA k s) λ_=>True:=by
 unfold mA;split;exact tot_some.2 trivial;refine aC (P := fun _ => True) ?_ fun x _ => ?_
 ·split<;>exact tot_some.2 trivial
 split<;>exact tot_some.2 trivial
theorem Kw{l:Aa}(hk:LayK l){w:List Ae}(hw:∀s∈w,uS s){o c:Int}(h0:-65000000<=o)(h1:o<=0):eS (sL l w o c) λr=>r.length<=2000:=by
 have hb:=hk.s.balises;unfold sL;refine aC (xg hk hw) λv hv=>?_
 cases v with
 |false=>exact tot_some.2 (by simp)
 |true=>
  obtain⟨w1,w2,w3⟩:=hv rfl;rw[if_neg (by simp),aA (by omega),aH]
  have hm:MapB (kA (λx=>x.el) l.balises):=⟨yE _ _,λx hx=>by have:=fe (λx:Am=>x.el) l.balises x hx;omega,λx hx e he=>by
   have:=hk.bals e (grp_mem _ _ x hx e he);unfold vq at this
   omega⟩
  refine bL (P:=λo=>match o with|.inl r=>r.2.length<=2000|.inr r=>r.length<=2000) (dM (λ(i:Nat)(s:Int×Int×List (Int×List Am)×List Ac)=>s.2.1=(i:Int)/\(-65000000<=s.1/\s.1<=1000000*(i:Int))/\MapB s.2.2.1/\s.2.2.2.length<=24*i) w.length (by omega) ⟨rfl,⟨h0,by dsimp only;omega⟩,hm,cN _⟩ ?_ ?_) ?_ (λr hr=>hr);rintro i ⟨bg,_,m,ls⟩ hi ⟨rfl,⟨q1,q2⟩,q3,q4⟩;dsimp only at q1 q2 q3 q4⊢;rw[if_pos (by omega)];have hse:=w3 _ (fM hi);refine bL (P:=λo=>match o with|.inl r=>(-65000000<=r.1/\r.1<=1000000*((i:Int)+1))/\MapB r.2.1/\r.2.2.length<=24*i+24|.inr b=>∃r,b=.inr (.inr r)/\r.length<=2000) ?_ ?_ ?_;rw[bC (lR hi)];split;exact⟨_,rfl,_,rfl,cN _⟩;refine bG hse.1 hse.2.1 fun x hx _ => ?_;have hxx:=hk.right x hx;unfold qi at hxx;refine aC (P:=λo=>MapB o.1/\o.2.length<=24*i+24) ?_ ?_;refine aC (passed_t _ _) fun p _ => ?_;split;have hg:=q3.get w[i].el;refine aC (P:=λo=>o.length<=24*i+24) ?_ λls2 hls2=>?_;rw[aA q3.nd];generalize hG:(bH m w[i].el).getD ([]:List Am)=G at hg;refine dM (λ(k:Nat)(s:Int×List Ac)=>s.1=(k:Int)/\s.2.length<=24*i+k) G.length (by omega) ⟨rfl,q4⟩ ?_ ?_;rintro k ⟨_,d⟩ hk2 ⟨rfl,p1⟩;dsimp only at p1⊢;have ho:=hg.2 _ (fM hk2);have hgl:=hg.1;rw[if_pos (by omega),bC (lR hk2),aA (by unfold bD;omega)];refine aC (P:=λ_=>True) ?_ λat' _=>?_;split
  ·rw [aA (by unfold bD; omega), aA (by unfold bD; omega)];exact tot_some.2 trivial
  exact tot_some.2 trivial;split
  ·rw [aA (by simp; omega), aA (bM hk2 (by omega))];exact tot_some.2 ⟨by push_cast;rfl,by simp;omega⟩
  rw [aA (bM hk2 (by omega))];exact tot_some.2 ⟨by push_cast;rfl,by dsimp only;omega⟩;rintro⟨_,d⟩ ⟨rfl,p1⟩;dsimp only at p1⊢;have hgl:=hg.1;rw[if_neg (by omega)];exact⟨_,rfl,by omega⟩;rw[aA q3.nd];exact tot_some.2 ⟨q3.del _,hls2⟩;exact tot_some.2 ⟨q3,by dsimp only;omega⟩;rintro⟨m2,ls2⟩ ⟨p1,p2⟩;dsimp only at p1 p2⊢;rw[aA (by unfold bD;omega)];exact⟨_,rfl,⟨by dsimp only;omega,by dsimp only;omega⟩,p1,p2⟩;rintro⟨bg2,m2,ls2⟩ ⟨⟨p1,p2⟩,p3,p4⟩;dsimp only at p1 p2 p3 p4⊢;rw[aA (bM hi (by omega))];exact⟨_,rfl,by push_cast;rfl,⟨p1,by push_cast;exact p2⟩,p3,by dsimp only;omega⟩;rintro b ⟨r,rfl,hr⟩;exact hr;rintro⟨bg,_,m,ls⟩ ⟨rfl,⟨q1,q2⟩,q3,q4⟩;dsimp only at q1 q2 q3 q4⊢;rw[if_neg (by omega)];exact⟨_,rfl,by dsimp only;omega⟩;rintro⟨m,ls⟩ hls;have hls:ls.length<=2000:=hls;dsimp only;refine aC (stable_t Kx (by omega)) λr hr=>?_;rw[aA hr];exact tot_some.2 (by omega)
theorem Jj{p:List Ac}(hp:p.length<=1000000)(n:Int):eS (mL p 0 n) λ_=>True:=by
 unfold mL;refine bL (P:=λ_=>True) (dS p (by omega) (λ_=>True) trivial ?_ ?_) (λ_ _=>tot_some.2 trivial) (λ_ _=>trivial);intro k e hx _;have hi:=(zQQ.1 hx).1;rw[if_pos (by omega),bC hx];split;exact⟨_,rfl,.inr ⟨_,rfl,trivial⟩⟩;rw [aA (bM hi (by omega))];exact⟨_,rfl,.inl ⟨rfl,trivial⟩⟩;intro _;rw[if_neg (by omega)];exact⟨_,rfl,_,rfl,trivial⟩
theorem lvalid_t(p:List Ac):eS (nK p) λ_=>True:=by
 unfold nK;split;exact tot_some.2 trivial;have hsub : ∀ i : Nat, (sub p 0 (i : Int)).length <= 24 := fun i => by rw [xG, gB]; omega
 refine bL (P:=λ_=>True) (dS p (by omega) (λ_=>True) trivial ?_ ?_) (λ_ _=>tot_some.2 trivial) (λ_ _=>trivial);intro k e hx _;have hi:=(zQQ.1 hx).1;have hs:=hsub k;rw[if_pos (by omega),bC hx];refine aC (P:=λ_=>True) ?_ λx _=>?_;split
 ·rw [aA (by unfold bD; omega)];refine bG (by omega) (by omega) λ_ _ _=>?_;split;exact tot_some.2 trivial;rw [aA (by omega)];exact aC (Jj (by omega) _) λ_ _=>tot_some.2 trivial
 rw [aA (by omega)];exact aC (Jj (by omega) _) λ_ _=>tot_some.2 trivial;split
 ·exact⟨_,rfl,.inr ⟨_,rfl,trivial⟩⟩
 rw [aA (bM hi (by omega))];exact⟨_,rfl,.inl ⟨rfl,trivial⟩⟩;intro _;rw[if_neg (by omega)];exact⟨_,rfl,_,rfl,trivial⟩
theorem avalid_t{a:Au}(h:a.profile.length<=1000000):eS (lA a) λ_=>True:=by
 unfold lA;refine aC (P:=λ_=>True) ?_ λ_ _=>tot_some.2 trivial;split;split
 ·refine aC (en _) fun v _ => ?_;split;split
  ·rw [aA (by unfold bD; omega)];refine bG (by omega) (by omega) λ_ _ _=>?_;split;exact aC (lvalid_t _) λ_ _=>tot_some.2 trivial;exact tot_some.2 trivial
  exact tot_some.2 trivial;exact tot_some.2 trivial
 exact tot_some.2 trivial;exact tot_some.2 trivial
def J1(a:Au):Prop:=a.profile.length<=2000/\a.links.length<=2000
theorem auth_t{l:Aa}(hk:LayK l){n:Nat}{t:Af}(h:TrackG l n t)(k:Int):eS (lB l t [] k) λr=>J1 r.1:=by
 have hi:∀s∈t.steps,uS s:=λs hs=>gx hk (h.steps.2.2 s hs);unfold lB;refine aC (P:=λ_=>True) ?_ λx _=>?_;refine aC (xg hk hi) fun v _ => ?_;split;exact tot_some.2 trivial;split<;>exact tot_some.2 trivial;split
 ·exact tot_some.2 ⟨cN _,cN _⟩
 refine aC (profOf_t hk _ _) fun p hp => ?_;refine aC (apply_t hk hi _ hp) λp2 hp2=>?_;refine aC (cut_t _ _ _) λp3 hp3=>?_;refine aC (Kw hk hi h.origin.1 h.origin.2) λls hls=>?_;refine aC (P:=λr=>J1 r.1) ?_ λr hr=>tot_some.2 hr;unfold jK;refine aC (avalid_t (by dsimp only;omega)) λv _=>?_;split;exact tot_some.2 ⟨cN _,cN _⟩;exact tot_some.2 ⟨by dsimp only;omega,hls⟩
theorem offer_t{l:Aa}(hk:LayK l){n:Nat}(hn:n<=1000000){t:Af}(h:TrackG l n t):eS (uI l [] t) λr=>(r.1.id=t.id/\TrackG l (n+1) r.1)/\J1 r.2.auth:=by
 have hs:=h.sent;unfold uI;rw[if_pos h.cutSeq,aH,aA (by unfold bD;omega)];refine aC (auth_t hk h _) ?_;rintro⟨a,e⟩ ha;dsimp only at ha⊢;split
 ·rw [aA (by unfold bD; omega)];exact tot_some.2 ⟨⟨rfl,h.steps,h.origin,h.atV,h.Ak,h.starts,h.ends,h.done,by dsimp only;push_cast;omega,h.cutSeq,h.min⟩,ha⟩
 exact tot_some.2 ⟨⟨rfl,h.up (by omega)⟩,cN _,cN _⟩
structure SeG (ids:List Int) (b:List Ah):Prop where
 ids:b.map (·.peer)=ids
 ok:∀s∈b,(0<=s.out/\s.out<=1073741824)/\s.inV=0
theorem send_t{s:Ah}(h:(0<=s.out/\s.out<=1073741824)/\s.inV=0){m:Ap}(hm:J1 m.auth)(k:Int):eS (oY s m k) λr=>r.1.peer=s.peer/\(0<=r.1.out/\r.1.out<=1073741824)/\r.1.inV=0:=by
 obtain⟨⟨h1,h2⟩,h3⟩:=h;obtain⟨m1,m2⟩:=hm;unfold oY;refine aC (P:=λc=>0<=c/\c<=1073741824) ?_ λc hc=>?_;split
 ·rw [aA (by unfold bD; omega)];exact tot_some.2 (by omega)
 exact tot_some.2 ⟨h1,h2⟩;unfold fR fY;rw[aA (by omega),aH,aA (by omega),aH];exact tot_some.2 ⟨rfl,hc,h3⟩
theorem SeG.set{ids:List Int}{b:List Ah}(h:SeG ids b){i:Nat}{t0 t:Ah}(h0:b[i]?=some t0)(hid:t.peer=t0.peer)(ht:(0<=t.out/\t.out<=1073741824)/\t.inV=0):SeG ids (b.set i t):=by
 refine⟨?_,λx hx=>?_⟩;rw[<- h.ids,sC];apply hU;intro k;rw[cG];split;rename_i e;subst e;have hl:=(zQQ.1 h0).1;rw[if_pos (by simpa using hl),qU,h0,gO,hid];rfl;rcases xB hx with hx|rfl
 ·exact h.ok x hx
 exact ht
def TSm(t:Af):Prop:=t.steps.length<=1000/\t.Ak.length<=1000/\t.starts.length<=1000/\t.ends.length<=1000/\t.done.length<=1000
theorem TrackG.sm{l:Aa}{n:Nat}{t:Af}(h:TrackG l n t):TSm t:=by
 have h1:=h.steps;have h2:=h.Ak;exact⟨by omega,by omega,by rw[h.starts];omega,by rw[h.ends];omega,by rw[h.done];simp⟩
theorem Gx(l:List Ah)(h:l.length<=1000000000):gJ l=some l:=by
 unfold gJ;rw[aA (by simpa using h)];cases l<;>simp[zX]
theorem Jo{c:Ar}(h1:c.tracks.length<=1000)(h2:c.sessions.length<=1000)(h3:∀t∈c.tracks,TSm t):eS (rV c) λr=>r=c:=by
 unfold rV;rw[aA (by omega)];refine aC (P:=λb=>b=c.tracks) (dM (λ(i:Nat)(s:Int×List Af)=>s.1=(i:Int)/\s.2.length=c.tracks.length/\∀k,k<i->s.2[k]?=c.tracks[k]?) c.tracks.length (by omega) ⟨rfl,by simp,by intro k hk;omega⟩ ?_ ?_) λb hb=>?_;rintro i ⟨_,b⟩ hi ⟨rfl,q1,q2⟩;dsimp only at q1 q2⊢;have hx:=lR hi;obtain⟨s1,s2,s3,s4,s5⟩:=h3 _ (fM hi);rw[if_pos (by omega),bC hx,jI _ (by omega),aH,fG _ (by omega),aH,fG _ (by omega),aH,fG _ (by omega),aH,fG _ (by omega),aH,bC (lR (l:=b) (show i<b.length by omega)),aA (bM hi (by omega))];refine tot_some.2 ⟨by push_cast;rfl,by rw[zal60q];exact q1,λk hk=>?_⟩;rw[gt,cG];split;rename_i e;subst e;rw[if_pos (by omega),hx];exact q2 k (by omega);rintro⟨_,b⟩ ⟨rfl,q1,q2⟩;dsimp only at q1 q2⊢;rw[if_neg (by omega)];refine⟨_,rfl,hU λk=>?_⟩;rcases dB k c.tracks.length with h|h
 exact q2 k h;rw[iS (by omega),iS (by omega)];rw [Gx _ (by omega), aH, hb];exact tot_some.2 rfl
theorem CenG.lens{l:Aa}{ts:List Ao}{n:Nat}{c:Ar}(h:CenG l ts n c):c.tracks.length=ts.length/\c.sessions.length=ts.length:=by
 constructor;have:=congrArg List.length h.ids;simpa using this;have:=congrArg List.length h.peers;simpa using this
theorem Grant_t{l:Aa}(hk:LayK l){tb:A1}(htb:TabK l tb)(p:A6){ts:List Ao}(hts:ts.length<=6){n:Nat}(hn:n<=1000){c:Ar}(h:CenG l ts n c)(k:Int):eS (rW l tb p [] c k) λr=>CenG l ts (n+6) r.1:=by
 obtain⟨l1,l2⟩:=h.lens;unfold rW;refine aC (Jo (by omega) (by omega) λt ht=>(h.tracks t ht).sm) ?_;rintro _ rfl;unfold kN;rw[aH,if_neg (by rw[l1,l2];simp)];refine aC (P:=λo=>TrG l (n+6) (ts.map (·.id)) o.1/\SeG (ts.map (·.id)) o.2.1) (dM (λ(i:Nat)(s:Int×List Af×List Ah×List Ap)=>s.1=(i:Int)/\TrG l (n+i) (ts.map (·.id)) s.2.1/\SeG (ts.map (·.id)) s.2.2.1/\s.2.2.2.length<=i) ts.length (by omega) ⟨rfl,⟨h.ids,h.tracks⟩,⟨h.peers,h.sessions⟩,cN _⟩ ?_ ?_) ?_;rintro i ⟨_,b,se,ms⟩ hi ⟨rfl,q1,q2,q3⟩;dsimp only at q1 q2 q3⊢;have hbl:b.length=ts.length:=by have:=q1.len;simpa using this
 have hsl:se.length=ts.length:=by have:=congrArg List.length q2.ids;simpa using this
 obtain⟨t,ht⟩:∃t,b[i]?=some t:=⟨_,lR (show i<b.length by omega)⟩;have htk:=q1.ok t (tX ht);rw[if_pos (by omega),bC ht];refine aC (settle_t htk p) ?_;rintro _ rfl;rw[bC ht,gt];refine aC (extend_t hk htb (by simp;omega) (q1.set ht rfl htk) (by simpa using hi)) λr hr=>?_;have hrl:r.length=ts.length:=by have:=hr.len;simpa using this
 rw[aA (by rw[zal60q];omega)];obtain⟨t2,ht2⟩:∃t,r[i]?=some t:=⟨_,lR (show i<r.length by omega)⟩;rw[bC ht2];refine aC (offer_t hk (by omega) (hr.ok t2 (tX ht2))) ?_;rintro⟨t3,m⟩ ⟨⟨o1,o2⟩,o3⟩;dsimp only at o1 o2 o3⊢;obtain⟨s,hs⟩:∃t,se[i]?=some t:=⟨_,lR (show i<se.length by omega)⟩;rw[bC ht2,bC hs];refine aC (send_t (q2.ok s (tX hs)) o3 k) ?_;rintro⟨s2,m2⟩ ⟨p1,p2⟩;dsimp only at p1 p2⊢;rw[bC hs,aA (by simp;omega),aA (bM hi (by omega))];have hr':TrG l (n+(i+1)) (ts.map (·.id)) r:=⟨hr.ids,λt ht=>(hr.ok t ht).up (by omega)⟩;exact tot_some.2 ⟨by push_cast;rfl,hr'.set ht2 o1 o2,q2.set hs p1 p2,by simp;omega⟩;rintro⟨_,b,se,ms⟩ ⟨rfl,q1,q2,q3⟩;dsimp only at q1 q2 q3⊢;rw[if_neg (by omega)];exact⟨_,rfl,⟨q1.ids,λt ht=>(q1.ok t ht).up (by omega)⟩,q2⟩;rintro⟨b,se,ms⟩ ⟨q1,q2⟩;exact tot_some.2 ⟨q1.ids,q2.ids,q1.ok,q2.ok⟩
def y7(x:Int):List Int->List Int
 |[]=>[x]
 |y::r=>if x<y then x::y::r else if x=y then y::r else y::y7 x r
def z6:List Int->List Int
 |[]=>[]
 |x::r=>y7 x (z6 r)
abbrev Ex(l:List Int):Prop:=l.Pairwise (·<·)
theorem insZ_mem{s x:Int}:∀{l},s∈y7 x l↔s=x\/s∈l
 |[]=>by simp[y7]
 |y::r=>by
  unfold y7;split;simp;split
  ·rename_i e;subst e;simp
  simp only[zQB,insZ_mem];grind
theorem ascZ_mem{s:Int}:∀{l},s∈z6 l↔s∈l
 |[]=>by simp[z6]
 |x::r=>by simp[z6,insZ_mem,ascZ_mem]
theorem Ge(x:Int):∀l,Ex l->Ex (y7 x l)
 |[],_=>by simp[y7]
 |y::r,h=>by
  have h':=zal85q.1 h;unfold y7;split;rename_i hlt;refine zal85q.2 ⟨λa ha=>?_,h⟩;rcases zQB.1 ha with rfl|ha
  exact hlt;have:=h'.1 a ha;omega;split
  ·exact h
  refine zal85q.2 ⟨fun a ha => ?_, Ge x r h'.2⟩;rcases insZ_mem.1 ha with rfl|ha
  omega;exact h'.1 a ha
theorem gc:∀l,Ex (z6 l)
 |[]=>.nil
 |x::r=>Ge x _ (gc r)
theorem vo:∀{l m:List Int},Ex l->Ex m->(∀s,s∈l↔s∈m)->l=m
 |[],[],_,_,_=>rfl
 |[],y::m,_,_,h=>absurd ((h y).2 (qW ..)) (by simp)
 |x::l,[],_,_,h=>absurd ((h x).1 (qW ..)) (by simp)
 |x::l,y::m,h1,h2,h=>by
  have h1':=zal85q.1 h1;have h2':=zal85q.1 h2
  have hxy:x=y:=by
   rcases zQB.1 ((h x).1 (qW ..))with e|hx
   exact e;rcases zQB.1 ((h y).2 (qW ..))with e|hy
   ·exact e.symm
   have:=h2'.1 x hx;have:=h1'.1 y hy;omega
  subst hxy
  congr 1
  refine vo h1'.2 h2'.2 λs=>⟨λhs=>?_,λhs=>?_⟩;rcases zQB.1 ((h s).1 (xC _ hs))with e|hm
  ·have:=h1'.1 s hs;omega
  exact hm;rcases zQB.1 ((h s).2 (xC _ hs))with e|hm
  ·have:=h2'.1 s hs;omega
  exact hm
theorem ascZ_eq{l m:List Int}(h:Ex m)(hm:∀s,s∈m↔s∈l):m=z6 l:=
 vo h (gc l) λs=>(hm s).trans ascZ_mem.symm
theorem Gd(x:Int):∀l,(y7 x l).length<=l.length+1
 |[]=>by simp[y7]
 |y::r=>by
  unfold y7;split;simp;split
  ·simp
  have:=Gd x r;simp only[eK];omega
theorem zz:∀l,(z6 l).length<=l.length
 |[]=>wt _
 |x::r=>by have h1:=zz r;have h2:=Gd x (z6 r);simp only[z6,eK];omega
theorem Di(l:List Int):(kF l).Pairwise (·<=·):=by
 have:=vF Cf l;exact this.imp fun {a b} h=>by rw[zE]at h;simpa using h
theorem J9{s:Int}{l:List Int}:s∈kF l↔s∈l:=(pU (m:=Ka) l).mem_iff
theorem fj(L:List Int)(hs:L.Pairwise (·<=·)):∀i,i<=L.length->Ex (Go.Lib.compactUpTo L.toArray i)/\∀s,s∈Go.Lib.compactUpTo L.toArray i↔s∈L.take i
 |0,_=>⟨.nil,λs=>by simp[Go.Lib.compactUpTo]⟩
 |i+1,hi=>by
  obtain⟨h1,h2⟩:=fj L hs i (by omega);have hil:i<L.length:=by omega
  have htake:L.take (i+1)=L.take i++[L[i]]:=List.take_succ_eq_append_getElem hil;have hget:L.toArray[i]! = L[i]:=by rw[getElem!_pos L.toArray i (by simpa using hil)];simp
  rw[Go.Lib.compactUpTo_succ,hget];have hle:=List.pairwise_iff_getElem.1 hs
  cases hk:Go.Lib.keeps L.toArray i with
  |true=>
   rw[if_pos rfl];refine⟨List.pairwise_append.2 ⟨h1,by simp,λa ha b hb=>?_⟩,λs=>by rw[htake,zQN,zQN,h2]⟩;simp only[zal82q]at hb;subst hb;obtain⟨j,hj,rfl⟩:=List.mem_take_iff_getElem.1 ((h2 a).1 ha);have hj':j<i:=by omega
   have hi0:i≠0:=by omega
   have hk':=of_decide_eq_true hk;rcases hk' with h0|hne
   exact absurd h0 hi0;rw [hget, getElem!_pos L.toArray (i - 1) (by simp; omega)] at hne;simp only[List.getElem_toArray]at hne
   have a1:L[j]<=L[i-1]:=by
    rcases dB j (i-1)with h|h
    exact hle j (i-1) (by omega) (by omega) h;have : j = i - 1 := by omega
    subst this;exact jV _
   have a2:=hle (i-1) i (by omega) (by omega) (by omega);omega
  |false=>
   rw[if_neg (by simp),mW];refine⟨h1,λs=>?_⟩;have hk':=of_decide_eq_false hk;have hi0:i≠0:=λe=>hk' (.inl e)
   have he:L.toArray[i]! = L.toArray[i-1]!:=by
    by_cases h:L.toArray[i]! = L.toArray[i-1]!;exact h;exact absurd (.inr h) hk'
   rw[hget,getElem!_pos L.toArray (i-1) (by simp;omega)]at he;simp only[List.getElem_toArray]at he;rw[h2,htake,zQN];refine⟨.inl,λh=>?_⟩;rcases h with h|h
   exact h;simp only[zal82q]at h;rw[h,he];exact List.mem_take_iff_getElem.2 ⟨i-1,by omega,rfl⟩
theorem make_asc(l:List Int):Go.Lib.compact (kF l)=z6 l:=by
 have h:=fj (kF l) (Di l) (kF l).length (wt _);refine ascZ_eq h.1 λs=>?_;show s∈Go.Lib.compactUpTo (kF l).toArray (kF l).length↔_;rw[h.2,uX,J9]
theorem Cn(l:List Int)(h:l.length<=1000000000):qB l=some (z6 l):=by
 unfold qB;rw[fG l h,aH,aA h,aA (by rw[fO];exact h),make_asc]
theorem E8{α:Type}(x:α)(r:List α):sub (x::r) (1:Int) ((x::r).length:Int)=r:=by
 have:=E7 (x::r) 1;simpa using this
theorem wb{α β:Type}(x:α)(r:List α)(k:α->Option β):bE (x::r) (0:Int) k=k x:=Gj (by omega) rfl
theorem within_t{a b:List Int}(ha:a.length<=1000000)(hb:b.length<=1000000)(h:∀x∈a,x∈b):eS (pF a b) λr=>r=true:=by
 unfold pF;refine aC (P:=λr=>r=[]) ?_ λr hr=>by subst hr;exact tot_some.2 (by simp)
 unfold tF;rw[Cn a (by omega),aH,Cn b (by omega),aH];refine aC (P:=λr=>r=[]) ?_ λr hr=>tot_some.2 hr;unfold oA;refine aC (P:=λr=>r=[]) ?_ λr hr=>tot_some.2 hr;have la:=zz a;have lb:=zz b;refine eO (λs=>s.2.2=[]/\Ex s.1/\Ex s.2.1/\∀x∈s.1,x∈s.2.1) (λs=>s.1.length+s.2.1.length) 2000000 (by omega) ⟨rfl,gc a,gc b,λx hx=>ascZ_mem.2 (h x (ascZ_mem.1 hx))⟩ (by dsimp only;omega) ?_;rintro⟨p,q,o⟩ ⟨e,h1,h2,h3⟩ _;dsimp only at e h1 h2 h3⊢;subst e;unfold pG
 cases p with
 |nil=>
  cases q with
  |nil=>exact⟨_,rfl,rfl⟩
  |cons y s=>
   have hs:=zal85q.1 h2;refine⟨.inl ([],s,[]),?_,⟨rfl,h1,hs.2,by simp⟩,by simp⟩;rw[if_pos (by simp),if_neg (by simp),aH,if_pos (by simp only[eK];omega),if_pos (by simp),aH,if_neg eX,aH];dsimp only;rw[if_pos rfl,wb,aA (by simp only[eK];omega),E8];rfl
 |cons x r=>
  cases q with
  |nil=>exact absurd (h3 x (qW ..)) (by simp)
  |cons y s=>
   have hr:=zal85q.1 h1;have hs:=zal85q.1 h2
   have hyx:y<=x:=by
    rcases zQB.1 (h3 x (qW ..))with e|hx
    omega;have:=hs.1 x hx;omega
   rw[if_pos (by simp),if_pos (by simp only[eK];omega),if_neg (by simp only[eK];omega),wb,wb,aH,if_pos (by simp only[eK];omega),if_neg (by simp only[eK];omega),wb,wb,aH,decide_eq_true hyx];by_cases hxy:x=y;subst hxy;rw[decide_eq_true (jV x),if_pos rfl,wb,aA (by simp only[eK];omega),E8,aH];dsimp only;rw[if_pos rfl,wb,aA (by simp only[eK];omega),E8,aH];refine⟨_,rfl,⟨rfl,hr.2,hs.2,λz hz=>?_⟩,by simp only[eK];omega⟩;rcases zQB.1 (h3 z (xC _ hz))with e|hz2
   have:=hr.1 z hz;omega;exact hz2;rw [decide_eq_false (show ¬ x <= y by omega), if_neg eX, aH];dsimp only;rw[if_pos rfl,wb,aA (by simp only[eK];omega),E8,aH];refine⟨_,rfl,⟨rfl,h1,hs.2,λz hz=>?_⟩,by simp only[eK];omega⟩;rcases zQB.1 (h3 z hz)with e|hz2
   rcases zQB.1 hz with e2|hz3
   ·omega
   have:=hr.1 z hz3;omega;exact hz2
def jN(q:Int->Bool):List Int->List Int->List Int->Nat
 |_::rs,s::ss,_::es=>if q s=true then jN q rs ss es+1 else 0
 |_,_,_=>0
theorem qs(q:Int->Bool):∀(k:Nat)(rs ss es:List Int),jN q rs ss es<=k+jN q (rs.drop k) (ss.drop k) (es.drop k)
 |0,rs,ss,es=>by simp
 |k+1,r::rs,s::ss,e::es=>by
  have:=qs q k rs ss es;simp only[jN,List.drop_succ_cons];split<;>omega
 |k+1,[],ss,es=>by simp[jN]
 |k+1,r::rs,[],es=>by simp[jN]
 |k+1,r::rs,s::ss,[]=>by simp[jN]
structure TrackR (l:Aa) (t:Af):Prop where
 steps:t.steps.length<=64
 origin:-65000000<=t.origin/\t.origin+1000000*(t.steps.length:Int)<=130000000
 Ak:t.Ak.length<=64
 starts:t.starts.length<=64
 ends:t.ends.length<=64
 done:t.done.length+t.Ak.length<=64
 cutSeq:t.cutSeq=0
 min:bD t.min
theorem TrackG.r{l:Aa}{n:Nat}{t:Af}(h:TrackG l n t):TrackR l t:=by
 have h1:=h.steps;have h2:=h.Ak;have h3:=h.origin;exact⟨by omega,by omega,by omega,by rw[h.starts];omega,by rw[h.ends];omega,by rw[h.done];simp;omega,h.cutSeq,by rw[h.min];unfold bD;omega⟩
theorem TrackR.sm{l:Aa}{t:Af}(h:TrackR l t):TSm t:=by
 have h1:=h.steps;have h2:=h.Ak;have h3:=h.starts;have h4:=h.ends;have h5:=h.done;exact⟨by omega,by omega,by omega,by omega,by omega⟩
def Ev(t:Ao):Prop:=1<=t.length/\t.length<=50000
theorem rear_t{t:Ao}(ht:Ev t){m:Int}(hm:bD m):eS (jZ t m) λ_=>True:=by
 obtain⟨h1,h2⟩:=ht;have hm:-9223372036854775808<=m/\m<=9223372036854775807:=by unfold bD at hm;omega
 unfold jZ;refine aC (P:=λr=>r=false->-2147483648<=m) ?_ λr hr=>?_;split
 ·exact tot_some.2 (by simp)
 rw [aA (by unfold bD; omega)];exact tot_some.2 λ_=>by omega
 cases r with
 |true=>exact tot_some.2 trivial
 |false=>
  have:=hr rfl;rw[if_neg eX,aA (by unfold bD;omega)];exact tot_some.2 trivial
theorem beyond_t{t:Ao}(ht:Ev t){r:Aq}(hr:bD r.min):∃q:Int->Bool,∀s,iI t r s=some (q s):=by
 obtain⟨n,hn,_⟩:=rear_t ht hr;refine⟨λs=>if r.whole=true then decide (s<=n)else false,λs=>?_⟩;unfold iI;split;rw[hn,aH,aH];rw[aH]
theorem report_t{l:Aa}(hk:LayK l)(tb:A1){t:Ao}(ht:Ev t){r:Aq}(hr:Aq.Wf r){q:Int->Bool}(hq:∀s,iI t r s=some (q s)){k:Af}(h:TrackR l k):
  eS (nS l tb t k r) λx=>TrackR l x/\x.id=k.id/\x.Ak=k.Ak.drop (jN q k.Ak k.starts k.ends)/\x.starts=k.starts.drop (jN q k.Ak k.starts k.ends)/\x.ends=k.ends.drop (jN q k.Ak k.starts k.ends):=by
 obtain⟨s1,s2,s3,s4,s5⟩:=h.sm;have h1:=h.steps;have h2:=h.Ak;have h3:=h.origin;have h5:=h.done;unfold nS;rw[Cw (by omega) (by omega) (by omega) (by omega) (by omega),aH,h.cutSeq];rw[show((!(decide ((0:Int)=0)))&&(decide ((0:Int)<=(max k.accepted (min k.sent r.accepted)))))=false by simp,if_neg eX,aH];generalize hS:jN q k.Ak k.starts k.ends=S;refine aC (P:=λo=>(o.1=k.Ak.drop S/\o.2.1=k.starts.drop S/\o.2.2.1=k.ends.drop S)/\o.2.2.2.length+o.1.length<=64) (eO (λs=>(∃m,(s.1=k.Ak.drop m/\s.2.1=k.starts.drop m/\s.2.2.1=k.ends.drop m)/\S=m+jN q s.1 s.2.1 s.2.2.1)/\s.2.2.2.length+s.1.length<=64) (λs=>s.1.length) 64 (by omega) ⟨⟨0,⟨rfl,rfl,rfl⟩,by dsimp only;omega⟩,by dsimp only;omega⟩ h2 ?_) ?_;rintro⟨a,b,c,d⟩ ⟨⟨m,⟨q1,q2,q3⟩,q4⟩,q5⟩ _;dsimp only at q1 q2 q3 q4 q5⊢
 have hstop:jN q a b c=0->((a=k.Ak.drop S/\b=k.starts.drop S/\c=k.ends.drop S)/\d.length+a.length<=64):=λh0=>by
  rw[h0]at q4;have:m=S:=by omega
  subst this;exact⟨⟨q1,q2,q3⟩,q5⟩
 cases a with
 |nil=>
  rw[if_neg (by simp),aH,if_neg eX];exact⟨_,rfl,hstop rfl⟩
 |cons x a=>
  rw[if_pos (by simp only[eK];omega)]
  cases b with
  |nil=>
   rw[if_neg (by simp),aH,if_neg eX];exact⟨_,rfl,hstop rfl⟩
  |cons y b=>
   rw[if_pos (by simp only[eK];omega)]
   cases c with
   |nil=>
    rw[if_neg (by simp),aH,if_neg eX];exact⟨_,rfl,hstop rfl⟩
   |cons z c=>
    rw[if_pos (by simp only[eK];omega),wb,hq,aH,aH]
    cases hqy:q y with
    |false=>
     rw[if_neg eX];exact⟨_,rfl,hstop (by simp[jN,hqy])⟩
    |true=>
     rw[if_pos rfl];simp only[eK]at q5
     have hdrop:∀{L:List Int}{u:Int}{v:List Int},u::v=L.drop m->v=L.drop (m+1):=fun {L u v} e=>by
      have:(L.drop m).drop 1=v:=by rw[<- e];rfl
      rw[<- this,pR]
     refine aC (P:=λd2=>d2.length<=d.length+1) ?_ λd2 hd2=>?_;rw[wb];refine aC (qK (by omega) _) λb _=>?_;split;rw [wb, aA (by simp; omega)];exact tot_some.2 (by simp);exact tot_some.2 (by omega);rw [aA (by simp only [eK]; omega), aA (by simp only [eK]; omega), aA (by simp only [eK]; omega), E8, E8, E8];refine⟨_,rfl,⟨⟨m+1,⟨hdrop q1,hdrop q2,hdrop q3⟩,?_⟩,by dsimp only;omega⟩,by simp⟩;dsimp only;rw[q4];simp only[jN,hqy,if_true];omega
 rintro⟨a,b,c,d⟩ ⟨⟨q1,q2,q3⟩,q5⟩;dsimp only at q1 q2 q3 q5⊢;have hmin:bD (max k.min r.min):=by have a1:=h.min;have a2:=hr.min;unfold bD at *; omega
 refine aC (P:=λo=>(-65000000<=o.1/\o.1+1000000*(o.2.length:Int)<=130000000)/\o.2.length<=64) ?_ ?_;split
 ·refine aC (rear_t ht hmin) fun e _ => ?_;refine eO (λs=>(-65000000<=s.1/\s.1+1000000*(s.2.length:Int)<=130000000)/\s.2.length<=64) (λs=>s.2.length) 64 (by omega) ⟨h3,h1⟩ h1 ?_;rintro⟨o,w⟩ ⟨⟨p1,p2⟩,p3⟩ _;dsimp only at p1 p2 p3⊢;refine aC (P:=λx=>x=true->2<=w.length) ?_ λx hx=>?_;split
  ·refine bG (by omega) (by omega) fun s _ _ => ?_;refine aC (zM hk s) λn hn=>?_;rw[aA (by unfold bD;omega)];exact tot_some.2 λ_=>by omega
  exact tot_some.2 (by simp)
  cases x with
  |false=>exact⟨_,rfl,⟨p1,p2⟩,p3⟩
  |true=>
   have hx:=hx rfl;rw[if_pos rfl]
   cases w with
   |nil=>simp at hx
   |cons s w=>
    rw[wb];refine aC (zM hk s) λn hn=>?_;simp only[eK]at p2 p3 hx;rw[aA (by unfold bD;omega),aA (by simp only[eK];omega),E8];refine⟨_,rfl,⟨⟨by dsimp only;omega,by dsimp only;push_cast at p2⊢;omega⟩,by dsimp only;omega⟩,by simp⟩
 exact tot_some.2 ⟨h3,h1⟩;rintro⟨o,w⟩ ⟨p1,p2⟩;dsimp only at p1 p2⊢;refine tot_some.2 ⟨⟨p2,p1,?_,?_,?_,q5,rfl,hmin⟩,rfl,q1,q2,q3⟩;dsimp only;rw[q1,qZ];omega;have:=h.starts;dsimp only;rw[q2,qZ];omega;have:=h.ends;dsimp only;rw[q3,qZ];omega
theorem yz(x a b:Int):cP x a b=some (decide (a<=x/\x<=b)):=by unfold cP;rw[<- Bool.decide_and]
def xV(id sq:Int)(r:Aq):Ap:=⟨1,id,0,sq,20,⟨0,0,[],[]⟩,r⟩
theorem mvalid_t(id sq:Int)(r:Aq):eS (nJ (xV id sq r)) λ_=>True:=by
 unfold nJ xV;simp only[yz,aH];refine aC (P:=λ_=>True) ?_ λx _=>?_;split
 ·exact tot_some.2 trivial
 split<;>exact tot_some.2 trivial;split
 ·exact tot_some.2 trivial
 refine aC (P := fun _ => True) ?_ fun x _ => ?_
 ·split<;>exact tot_some.2 trivial
 split
 ·exact tot_some.2 trivial
 refine aC (P := fun _ => True) ?_ fun x _ => tot_some.2 trivial;refine aC (P:=λ_=>True) ?_ λx _=>?_;unfold iD nY;rw[aH,if_pos (by rfl)];exact tot_some.2 trivial;split
 ·refine aC (P := fun _ => True) ?_ fun x _ => tot_some.2 trivial;unfold jS;simp only[yz,aH];rw[if_pos trivial];refine aC (P:=λ_=>True) ?_ λx _=>tot_some.2 trivial;split;split
  ·split<;>exact tot_some.2 trivial
  exact tot_some.2 trivial;exact tot_some.2 trivial
 exact tot_some.2 trivial
def lY(ids:List Int):Nat->List (Int×Int)
 |0=>[]
 |i+1=>if(!((bH (lY ids i) (ids[i]?.getD 0)).isSome))=true then lP (lY ids i) (ids[i]?.getD 0) i else lY ids i
theorem kl(ids:List Int):∀i,((lY ids i).map (·.1)).Nodup/\∀k v,bH (lY ids i) k=some v->0<=v/\v<(i:Int)
 |0=>⟨by simp[lY],λk v h=>by simp[lY,qh]at h⟩
 |i+1=>by
  obtain⟨h1,h2⟩:=kl ids i;unfold lY;split;refine ⟨oM h1 _ _, fun k v h => ?_⟩;rw[Cy]at h;split at h;cases h;push_cast;omega;have:=h2 k v h;push_cast;omega;exact⟨h1,λk v h=>by have:=h2 k v h;push_cast;omega⟩
theorem Ia{ts:List Af}(h:ts.length<=1000000):oL ts=some (lY (ts.map (·.id)) ts.length):=by
 unfold oL;rw[y5 ts.length (λi=>lY (ts.map (·.id)) i) (o:=lY (ts.map (·.id)) ts.length) (b:=([]:List (Int×Int))) rfl (by omega) (λi hi=>?_) (by dsimp only;rw[if_neg (by omega)];rfl),aH];have hx:=lR hi;have hid:((ts.map (·.id))[i]?).getD 0=ts[i].id:=by rw[qU,hx];rfl
 have hn:=(kl (ts.map (·.id)) i).1;dsimp only;rw[if_pos (by omega),bC hx,aA hn];have hstep:lY (ts.map (·.id)) (i+1)=if(!((bH (lY (ts.map (·.id)) i) (((ts.map (·.id))[i]?).getD 0)).isSome))=true then lP (lY (ts.map (·.id)) i) (((ts.map (·.id))[i]?).getD 0) i else lY (ts.map (·.id)) i:=rfl;rw[hstep,hid];split;rw[aA hn,aA (bM hi (by omega))];rw[aA (bM hi (by omega))]
theorem D9{ts:List Ao}(h:ts.length<=1000000)(m:Ap):eS (fQ ts (λa0=>lV a0 m)) λr=>-1<=r/\r<(ts.length:Int):=by
 unfold fQ;refine bL (P:=λo=>match o with|.inl _=>True|.inr r=>-1<=r/\r<(ts.length:Int)) (dS ts (by omega) (λ_=>True) trivial ?_ ?_) (λ_ _=>tot_some.2 (by omega)) (λb hb=>hb);intro k e hx _;have hi:=(zQQ.1 hx).1;rw[if_pos (by omega),bC hx];unfold lV;rw[aH];split;exact⟨_,rfl,.inr ⟨_,rfl,by dsimp only;omega⟩⟩;rw [aA (bM hi (by omega))];exact⟨_,rfl,.inl ⟨rfl,trivial⟩⟩;intro _;rw[if_neg (by omega)];exact⟨_,rfl,_,rfl,trivial⟩
structure CenR (l:Aa) (ns:List Int) (k:Nat) (c:Ar):Prop where
 ids:c.tracks.map (·.id)=ns
 peers:c.sessions.map (·.peer)=ns
 tracks:∀t∈c.tracks,TrackR l t
 sessions:∀s∈c.sessions,s.inV<=(k:Int)
def Cz(l:Aa)(r:Aq)(q:Int->Bool)(i:Nat)(c c':Ar):Prop:=
 ∃t t',c.tracks[i]?=some t/\c'.tracks=c.tracks.set i t'/\t'.Ak=t.Ak.drop (jN q t.Ak t.starts t.ends)/\t'.starts=t.starts.drop (jN q t.Ak t.starts t.ends)/\t'.ends=t.ends.drop (jN q t.Ak t.starts t.ends)
theorem I8{α:Type}{f:α->Int}{b:List α}{ids:List Int}(h:b.map f=ids){i:Nat}{t0 t:α}(h0:b[i]?=some t0)(hid:f t=f t0):(b.set i t).map f=ids:=by
 rw[<- h,sC];apply hU;intro k;rw[cG];split;rename_i e;subst e;have hl:=(zQQ.1 h0).1;rw[if_pos (by simpa using hl),qU,h0,gO,hid];rfl
theorem recv_t{l:Aa}(hk:LayK l)(tb:A1){ts:List Ao}(hts:ts.length<=6)(htk:∀t∈ts,Ev t){ids:List Int}(hids:ids.length<=6)(id:Int){r:Aq}(hr:Aq.Wf r)(k:Nat):
  ∃A:Option (Nat×(Int->Bool)),∀c,CenR l ids k c->eS (fW l tb ts c (xV id ((k:Int)+1) r) 20) λx=>match A with
   |none=>x.2≠0
   |some (i,q)=>x.2=0/\CenR l ids (k+1) x.1/\Cz l r q i c x.1:=by
 have hkind:∀sq,(xV id sq r).kind=1:=λ_=>rfl;have hfrom:∀sq,(xV id sq r).fromV=id:=λ_=>rfl;obtain⟨v,hv,_⟩:=mvalid_t id ((k:Int)+1) r
 have hlen:∀c,CenR l ids k c->c.tracks.length=ids.length/\c.sessions.length=ids.length:=λc h=>by
  constructor;have:=congrArg List.length h.ids;simpa using this;have:=congrArg List.length h.peers;simpa using this
 have hbegin:∀c,CenR l ids k c->kN c=some true:=λc h=>by
  obtain⟨h1,h2⟩:=hlen c h;unfold kN;rw[h1,h2,decide_eq_true rfl]
 cases v with
 |false=>
  refine⟨none,λc hc=>?_⟩;unfold fW;rw[hbegin c hc,aH,if_neg (by simp),hkind,if_pos rfl,hv,aH,aH,if_pos (by rfl)];exact tot_some.2 (show(1:Int)≠0 by decide)
 |true=>
  have hnum:∀c,CenR l ids k c->oL c.tracks=some (lY ids ids.length):=λc h=>by
   obtain⟨h1,h2⟩:=hlen c h;rw[Ia (by omega),h.ids,h1]
  have hnok:=kl ids ids.length
  cases hn:bH (lY ids ids.length) id with
  |none=>
   refine⟨none,λc hc=>?_⟩;unfold fW;rw[hbegin c hc,aH,if_neg (by simp),hkind,if_pos rfl,hv,aH,aH,if_neg (by simp),hnum c hc,aH,aA hnok.1,hfrom,hn,if_pos (by rfl)];exact tot_some.2 (show(9:Int)≠0 by decide)
  |some ix=>
   obtain⟨x0,x1⟩:=hnok.2 id ix hn;obtain⟨tj,htj,hj1,hj2⟩:=D9 (ts:=ts) (by omega) (xV id ((k:Int)+1) r);by_cases hneg:tj<0;refine ⟨none, fun c hc => ?_⟩;unfold fW;rw[hbegin c hc,aH,if_neg (by simp),hkind,if_pos rfl,hv,aH,aH,if_neg (by simp),hnum c hc,aH,aA hnok.1,hfrom,hn,if_neg (by simp),htj,aH,if_pos hneg];exact tot_some.2 (show(9:Int)≠0 by decide);obtain⟨n,rfl⟩:=xq x0;obtain⟨m,rfl⟩:=xq (show 0<=tj by omega);have hnl:n<ids.length:=by omega
   have hml:m<ts.length:=by omega
   have hidx:=lR hnl;have htx:=lR hml;have htr:=htk _ (fM hml);obtain⟨q,hq⟩:=beyond_t htr hr.min;by_cases hp:id=ids[n];refine ⟨some (n, q), fun c hc => ?_⟩;obtain⟨h1,h2⟩:=hlen c hc;obtain⟨s,hs⟩:∃s,c.sessions[n]?=some s:=⟨_,lR (show n<c.sessions.length by omega)⟩;obtain⟨t,ht⟩:∃t,c.tracks[n]?=some t:=⟨_,lR (show n<c.tracks.length by omega)⟩
   have hpeer:s.peer=ids[n]:=by
    have:=congrArg (·[n]?) hc.peers;simp only[qU,hs,gO,hidx]at this;exact aS this
   have hin:=hc.sessions s (tX hs);have htR:=hc.tracks t (tX ht);unfold fW;rw[hbegin c hc,aH,if_neg (by simp),hkind,if_pos rfl,hv,aH,aH,if_neg (by simp),hnum c hc,aH,aA hnok.1,hfrom,hn,if_neg (by simp),htj,aH,if_neg hneg];simp only[rJ];rw[bC hs]
   have htake:jA s (xV id ((k:Int)+1) r) 20=some (⟨s.peer,s.out,(k:Int)+1,20⟩,0):=by
    unfold jA;rw[if_pos (by rw[hfrom,hp,hpeer])];unfold oX;rw[show(xV id ((k:Int)+1) r).time=20 from rfl,aH,if_neg (by decide),if_neg (by show ¬((k:Int)+1<=s.inV);omega)];rfl
   rw[htake,aH];dsimp only;rw[if_pos rfl];refine aC (Jo (by omega) (by omega) λt ht=>(hc.tracks t ht).sm) ?_;rintro _ rfl;rw[bC hs,bC htx,bC ht];refine aC (report_t hk tb htr hr hq htR) ?_;rintro t' ⟨r1,r2,r3,r4,r5⟩;rw[bC ht,gt];refine tot_some.2 ⟨rfl,⟨I8 hc.ids ht r2,I8 hc.peers hs rfl,λx hx=>?_,λx hx=>?_⟩,t,t',ht,rfl,r3,r4,r5⟩;rcases xB hx with hx|rfl
   ·exact hc.tracks x hx
   exact r1;rcases xB hx with hx|rfl
   ·have:=hc.sessions x hx;push_cast;omega
   show(k:Int)+1<=_;push_cast;omega;refine ⟨none, fun c hc => ?_⟩;obtain⟨h1,h2⟩:=hlen c hc;obtain⟨s,hs⟩:∃s,c.sessions[n]?=some s:=⟨_,lR (show n<c.sessions.length by omega)⟩
   have hpeer:s.peer=ids[n]:=by
    have:=congrArg (·[n]?) hc.peers;simp only[qU,hs,gO,hidx]at this;exact aS this
   unfold fW;rw[hbegin c hc,aH,if_neg (by simp),hkind,if_pos rfl,hv,aH,aH,if_neg (by simp),hnum c hc,aH,aA hnok.1,hfrom,hn,if_neg (by simp),htj,aH,if_neg hneg];simp only[rJ];rw[bC hs]
   have htake:jA s (xV id ((k:Int)+1) r) 20=some (s,1):=by
    unfold jA;rw[if_neg (by rw[hfrom,hpeer];exact hp)]
   rw[htake,aH];dsimp only;rw[if_neg (by decide)];exact tot_some.2 (show(1:Int)≠0 by decide)
theorem CenR.up{l:Aa}{ids:List Int}{k m:Nat}{c:Ar}(h:CenR l ids k c)(hm:k<=m):CenR l ids m c:=⟨h.ids,h.peers,h.tracks,λs hs=>by have:=h.sessions s hs;omega⟩
def Sfx(a b:Af):Prop:=∃k,a.Ak=b.Ak.drop k/\a.starts=b.starts.drop k/\a.ends=b.ends.drop k
def I0(A B:List Af):Prop:=∀(i:Nat)(a b:Af),A[i]?=some a->B[i]?=some b->Sfx a b
theorem rest_one{l:Aa}{r:Aq}{q:Int->Bool}{i:Nat}{A A':Ar}{B:List Af}(h:I0 A.tracks B)(ht:Cz l r q i A A'):I0 A'.tracks B:=by
 obtain⟨t,t',h0,h1,h2,h3,h4⟩:=ht;intro j a b ha hb;rw[h1,cG]at ha;split at ha;rename_i e;subst e;split at ha;cases ha;obtain⟨k,k1,k2,k3⟩:=h i t b h0 hb;exact⟨k+jN q t.Ak t.starts t.ends,by rw[h2,k1,pR],by rw[h3,k2,pR],by rw[h4,k3,pR]⟩;cases ha;exact h j a b ha hb
theorem Kk{l:Aa}{r:Aq}{q:Int->Bool}{i:Nat}{A A' B B':Ar}(h:I0 A.tracks B.tracks)(ht:Cz l r q i A A')(hu:Cz l r q i B B'):I0 A'.tracks B'.tracks:=by
 obtain⟨t,t',h0,h1,h2,h3,h4⟩:=ht;obtain⟨u,u',g0,g1,g2,g3,g4⟩:=hu;intro j a b ha hb;rw[h1,cG]at ha;rw[g1,cG]at hb;split at ha;rename_i e;subst e;rw[if_pos rfl]at hb;split at ha;cases ha;split at hb;cases hb;obtain⟨k,k1,k2,k3⟩:=h i t u h0 g0;have hs:=qs q k u.Ak u.starts u.ends;rw[<- k1,<- k2,<- k3]at hs;refine⟨k+jN q t.Ak t.starts t.ends-jN q u.Ak u.starts u.ends,?_,?_,?_⟩;rw[h2,g2,k1,pR,pR,k2,k3,<- k1]
 congr 1
 rw[k1]at hs⊢;rw[k2,k3]at hs;omega;rw[h3,g3,pR,k2,pR]
 congr 1
 rw[k2]at hs;omega;rw[h4,g4,pR,k3,pR]
 congr 1
 rw[k3]at hs;omega;cases hb;cases ha;rename_i e;rw[if_neg e]at hb;exact h j a b ha hb
theorem alive_eq:kT=some true:=by decide+kernel
theorem light_t(l:Aa):eS (uC l []) λ_=>True:=by
 unfold uC;split;exact tot_some.2 trivial;refine bL (P := fun _ => True) (dS ([] : List A9) (by simp) (fun _ => True) trivial ?_ ?_) (fun _ _ => tot_some.2 trivial) (fun _ _ => trivial)
 ·intro i e hx _;simp at hx
 intro _;rw[if_neg (by simp)];exact⟨_,rfl,_,rfl,trivial⟩
theorem short_t{c:Fd}(h:c.bodies.length<=reachBytes):eS (uB c) λ_=>True:=by
 have h:=xL h;unfold uB;refine bL (P:=λ_=>True) (dS c.bodies (by omega) (λ_=>True) trivial ?_ ?_) (λ_ _=>?_) (λ_ _=>trivial);intro i e hx _;have hi:=(zQQ.1 hx).1;rw[if_pos (by omega),bC hx];split;exact⟨_,rfl,.inr ⟨_,rfl,trivial⟩⟩;rw [aA (bM hi (by omega))];exact⟨_,rfl,.inl ⟨rfl,trivial⟩⟩;intro _;rw[if_neg (by omega)];exact⟨_,rfl,_,rfl,trivial⟩;refine aC (P := fun _ => True) ?_ fun _ _ => tot_some.2 trivial;refine aC (light_t _) λb _=>?_;split;split<;>exact tot_some.2 trivial;exact tot_some.2 trivial
theorem CenG.r{l:Aa}{ts:List Ao}{n:Nat}{c:Ar}(h:CenG l ts n c):CenR l (ts.map (·.id)) 0 c:=⟨h.ids,h.peers,λt ht=>(h.tracks t ht).r,λs hs=>by rw[(h.sessions s hs).2];omega⟩
theorem CenR.len{l:Aa}{ids:List Int}{k:Nat}{c:Ar}(h:CenR l ids k c):c.tracks.length=ids.length:=by
 have:=congrArg List.length h.ids;simpa using this
def TakenA(l:Aa)(r:Aq):Option (Nat×(Int->Bool))->Ar->Ar->Prop
 |none,c,c'=>c'=c
 |some a,c,c'=>Cz l r a.2 a.1 c c'
theorem one_t{l : Aa}{tb : A1}{ts : List Ao}{ids : List Int}{id : Int}{r : Aq}{k : Nat}{A : Option (Nat × (Int -> Bool))}{c : Ar}(hc : CenR l ids k c)(hA : eS (fW l tb ts c (xV id ((k : Int) + 1) r) 20) fun x => match A with | none => x.2 ≠ 0 | some (i, q) => x.2 = 0 /\ CenR l ids (k + 1) x.1 /\ Cz l r q i c x.1) :
  eS (fW l tb ts c (xV id ((k:Int)+1) r) 20) λx=>∃c',CenR l ids (k+1) c'/\((x.2=0/\c'=x.1)\/(x.2≠0/\c'=c))/\TakenA l r A c c':=by
 refine kS hA λx hx=>?_
 cases A with
 |none=>exact⟨c,hc.up (Nat.le_succ k),.inr ⟨hx,rfl⟩,rfl⟩
 |some a=>exact⟨x.1,hx.2.1,.inl ⟨hx.1,rfl⟩,hx.2.2⟩
theorem If{p0:Fd}{p1:List (List Int)}{p2:List Aq}{p3:List Bool}(w0:p0.Wf)(w1:p1.length<=reachBytes/\∀x∈p1,(λl:List Int=>l.length<=reachBytes/\∀x∈l,bD x) x)(w2:p2.length<=reachBytes/\∀x∈p2,Aq.Wf x)(w3:p3.length<=reachBytes/\∀x∈p3,(λ_:Bool=>True) x):nE p0 p1 p2 p3=some true:=by
 have key:eS (nE p0 p1 p2 p3) λr=>r=true:=by
  unfold nE;simp only[alive_eq,aH];refine aC (Build_t w0.layout) ?_;rintro⟨tb,e1⟩ h1;refine aC (New_t w0.layout w0.trains.2 w0.bodies.2) ?_;rintro⟨cen,e2⟩ h2;dsimp only at h1 h2⊢;refine aC (P:=λr=>r=false->e1=0/\e2=0/\p1.length<=12/\p2.length<=12/\p0.trains.length≠0) ?_ λx hx=>?_;refine aC (short_t w0.bodies.1) fun b _ => ?_;split;exact tot_some.2 (by simp);split
  ·rename_i g1;split;rename_i g2;split;exact tot_some.2 (by simp);split
   ·exact tot_some.2 (by simp)
   split
   ·exact tot_some.2 (by simp)
   exact tot_some.2 λh=>⟨g1,g2,by omega,by omega,by have:=of_decide_eq_false h;omega⟩;exact tot_some.2 (by simp)
  exact tot_some.2 (by simp)
  cases x with
  |true=>rw[if_pos rfl];exact tot_some.2 rfl
  |false=>
   obtain⟨g1,g2,g3,g4,g5⟩:=hx rfl;obtain⟨hk,htb⟩:=h1 g1;obtain⟨_,hts,htl,hcen⟩:=h2 g2;have hrl:=htb.len;rw[if_neg eX];refine aC (P:=λo=>CenG p0.layout p0.trains 72 ⟨o.1,o.2⟩) (dM (λ(i:Nat)(s:Int×List Af×List Ah)=>s.1=(i:Int)/\CenG p0.layout p0.trains (6*i) ⟨s.2.1,s.2.2⟩) p1.length (by omega) ⟨rfl,hcen⟩ ?_ ?_) ?_;rintro i ⟨_,tk,se⟩ hi ⟨rfl,q⟩;dsimp only at q⊢;have hx:=lR hi;rw[if_pos (by omega)];refine aC (P:=λo=>CenG p0.layout p0.trains (6*i+6) ⟨o.1,o.2⟩) ?_ ?_;rw [aA (by omega)];refine aC (P:=λ_=>True) ?_ λb _=>?_;rw [bC hx, bC hx, aA (by omega)]
   have hsl:(sub p1[i] 0 (min (p1[i].length:Int) 60)).length<=60:=by
    rw[show(min (p1[i].length:Int) 60)=((min p1[i].length 60:Nat):Int) by omega,xG,gB];omega
   generalize sub p1[i] 0 (min (p1[i].length:Int) 60)=S at hsl;refine dM (λ(k:Nat)(s:Int×List At)=>s.1=(k:Int)) S.length (by omega) rfl ?_ ?_;rintro k ⟨_,b⟩ hk2 rfl;dsimp only;rw[if_pos (by omega),bC (lR hk2)];split;rename_i hc;simp only[J2,decide_eq_true_eq]at hc;refine bG hc.1 hc.2 λ_ _ _=>?_;rw[aA (bM hk2 (by omega))];exact tot_some.2 (by push_cast;rfl);rw [aA (bM hk2 (by omega))];exact tot_some.2 (by push_cast;rfl);rintro⟨_,b⟩ rfl;dsimp only;rw[if_neg (by omega)];exact⟨_,rfl,trivial⟩;refine aC (Grant_t hk htb _ hts (by omega) q _) ?_;rintro⟨c,ms⟩ hc;exact tot_some.2 hc;rintro⟨tk2,se2⟩ hc;dsimp only at hc⊢;rw[aA (bM hi (by omega))];exact tot_some.2 ⟨by push_cast;rfl,by rw[Nat.mul_add];exact hc⟩;rintro⟨_,tk,se⟩ ⟨rfl,q⟩;dsimp only at q⊢;rw[if_neg (by omega)];exact⟨_,rfl,q.ids,q.peers,λt ht=>(q.tracks t ht).up (by omega),q.sessions⟩;rintro⟨tk,se⟩ hg;have hr:=hg.r;have hil:(p0.trains.map (·.id)).length<=6:=by rw[Bo];exact hts
   have hlen:=hr.len;dsimp only at hg hr hlen⊢;generalize hids:p0.trains.map (·.id)=ids at hr hil hlen;refine aC (P:=λo=>CenR p0.layout ids p2.length ⟨o.1,o.2.1⟩/\CenR p0.layout ids p2.length ⟨o.2.2.1,o.2.2.2⟩/\I0 o.1 o.2.2.1) (dM (λ(i:Nat)(s:Int×List Af×List Ah×List Af×List Ah)=>s.1=(i:Int)/\CenR p0.layout ids i ⟨s.2.1,s.2.2.1⟩/\CenR p0.layout ids i ⟨s.2.2.2.1,s.2.2.2.2⟩/\I0 s.2.1 s.2.2.2.1) p2.length (by omega) ⟨rfl,hr,hr,λi a b ha hb=>by rw[ha]at hb;cases hb;exact⟨0,rfl,rfl,rfl⟩⟩ ?_ ?_) ?_;rintro i ⟨_,a1,a2,b1,b2⟩ hi ⟨rfl,qa,qb,qr⟩;dsimp only at qa qb qr⊢;have hx:=lR hi;rw[if_pos (by omega)];refine bG (by omega) (by omega) λt0 _ _=>?_;rw[aA (bM hi (by omega)),bC hx];obtain⟨A,hA⟩:=recv_t hk tb hts (λt ht=>htl t ht) hil t0.id (w2.2 _ (fM hi)) i;refine aC (P:=λo=>∃c',CenR p0.layout ids (i+1) c'/\o=(c'.tracks,c'.sessions)/\TakenA p0.layout p2[i] A ⟨a1,a2⟩ c') ?_ ?_;refine aC (one_t qa (hA _ qa)) ?_;rintro⟨cc,ee⟩ ⟨c',u1,u2,u3⟩;dsimp only at u2⊢;rcases u2 with⟨u4,rfl⟩|⟨u4,rfl⟩
   rw[if_pos u4];exact tot_some.2 ⟨c',u1,rfl,u3⟩;rw[if_neg u4];exact tot_some.2 ⟨⟨a1,a2⟩,u1,rfl,u3⟩;rintro _ ⟨ca,u1,rfl,u3⟩;dsimp only;refine aC (P:=λ_=>True) ?_ λlost _=>?_;split
   ·exact bG (by omega) (by omega) λ_ _ _=>tot_some.2 trivial
   exact tot_some.2 trivial;split
   ·rw [aA (bM hi (by omega))];refine tot_some.2 ⟨by push_cast;rfl,u1,qb.up (Nat.le_succ i),?_⟩
    cases A with
    |none=>have:ca=⟨a1,a2⟩:=u3;rw[this];exact qr
    |some a=>exact rest_one (l:=p0.layout) (r:=p2[i]) (A:=⟨a1,a2⟩) qr u3
   refine aC (one_t qb (hA _ qb)) ?_;rintro⟨cc,ee⟩ ⟨cb,v1,v2,v3⟩;dsimp only at v2⊢
   have hrest:I0 ca.tracks cb.tracks:=by
    cases A with
    |none=>
     have e1:ca=⟨a1,a2⟩:=u3;have e2:cb=⟨b1,b2⟩:=v3;rw[e1,e2];exact qr
    |some a=>exact Kk (l:=p0.layout) (r:=p2[i]) (A:=⟨a1,a2⟩) (B:=⟨b1,b2⟩) qr u3 v3
   rcases v2 with⟨v4,rfl⟩|⟨v4,rfl⟩
   rw [if_pos v4, aA (bM hi (by omega))];exact tot_some.2 ⟨by push_cast;rfl,u1,v1,hrest⟩;rw [if_neg v4, aA (bM hi (by omega))];exact tot_some.2 ⟨by push_cast;rfl,u1,v1,hrest⟩;rintro⟨_,a1,a2,b1,b2⟩ ⟨rfl,qa,qb,qr⟩;dsimp only at qa qb qr⊢;rw[if_neg (by omega)];exact⟨_,rfl,qa,qb,qr⟩;rintro⟨a1,a2,b1,b2⟩ ⟨qa,qb,qr⟩;dsimp only at qa qb qr⊢;have la:a1.length=ids.length:=qa.len;have lb:b1.length=ids.length:=qb.len;rw[la,lb,hlen,if_neg (by simp)];refine bL (P:=λo=>match o with|.inl _=>True|.inr b=>b=true) (dS a1 (by omega) (λ_=>True) trivial ?_ ?_) (λ_ _=>tot_some.2 rfl) (λb hb=>hb);intro i a hx _;have hi:=(zQQ.1 hx).1;have hy:=lR (l:=b1) (show i<b1.length by omega);rw[if_pos (by omega),bC hx,bC hy];obtain⟨k,hk1,_⟩:=qr i a _ hx hy;have ra:=(qa.tracks a (tX hx)).Ak;have rb:=(qb.tracks _ (fM (show i<b1.length by omega))).Ak;refine aC (within_t (by omega) (by omega) λx hx2=>by rw[hk1]at hx2;exact C4 hx2) λr hr=>?_;subst hr;rw[if_neg (by simp),aA (bM hi (by omega))];exact⟨_,rfl,.inl ⟨rfl,trivial⟩⟩;intro _;rw[if_neg (by omega)];exact⟨_,rfl,_,rfl,trivial⟩
 obtain⟨r,hr,rfl⟩:=key;exact hr
end Go.Proofs.YtjmpojlgegloeaaGreatDoor
