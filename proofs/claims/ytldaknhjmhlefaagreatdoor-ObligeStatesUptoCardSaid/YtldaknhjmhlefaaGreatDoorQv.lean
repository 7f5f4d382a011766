/- Texts of this proof, joined, without what it does not use. No condition. -/
import Derived.Test.YtldaknhjmhlefaaGreatDoorQu

set_option linter.unusedVariables false
set_option linter.unusedSimpArgs false
set_option maxHeartbeats 400000
set_option maxRecDepth 100000
namespace Go.Proofs.YtldaknhjmhlefaaGreatDoor
open Go Go.TL
variable {t:Am} {b:List At} {i:Nat}
def yG (p:Nat->Bool):Nat->Int
  | 0=>-1
  | n+1=>if p n=true then (n:Int) else yG p n
theorem qOI (p:Nat->Bool):∀ n,-1<=yG p n/\yG p n < (n:Int)
  | 0=>by simp [yG]
  | n+1=>by
    have:=qOI p n;unfold yG;split<;>omega
def nK (l m:List Int):Int:=yG (λk=>decide (l.getD k 0∈m)) l.length
theorem qEO (l m:List Int) (hl:Cnt l) (hm:Cnt m):lK l m=some (nK l m):=by
  unfold lK nK;unfold Cnt at hl;rw [lU (λk=>(yG (λk=>decide (l.getD k 0∈m)) k,(k:Int))) (o:=yG (λk=>decide (l.getD k 0∈m)) l.length) l.length (by rfl) hl (λk hk=>?_) (by dsimp only;rw [if_neg (by omega)];rfl),aA];have hx:=zQR hk;have hg:l.getD k 0=l[k]:=by rw [zQD,hx];rfl
  dsimp only;rw [if_pos (by omega),aR hx,zCZ _ _ hm,aA,aB (bD hk hl),aB (bD hk hl),yG,hg];by_cases h:l[k]∈m
  · rw [if_pos (decide_eq_true h),if_pos (decide_eq_true h)];rfl
  rw [if_neg (by simpa using h),if_neg (by simpa using h)];rfl
theorem qEV (l:List Ag) (x:Ag) (h:Cnt l) (hx:Ag.ok x) (ho:∀ s∈l,Ag.ok s):oT l x=some (decide (x∈l)):=by
  unfold oT;unfold Cnt at h;rw [kW l (λy=>decide (y=x)) (.inr true) (.inl ()) h (λk e he=>?_) (by rw [if_neg (by omega)];rfl)]
  · have:(l.any λy=>decide (y=x))=decide (x∈l):=by
      rw [Bool.eq_iff_iff,zQU];simp
    rw [this];cases decide (x∈l)<;>rfl
  have hi:=(zQQ.1 he).1;rw [if_pos (by omega),aR he,aB ⟨ho e (zQM he),hx⟩];by_cases hz:e=x
  · rw [if_pos hz,if_pos (decide_eq_true hz)];rfl
  rw [if_neg hz,aB (bD hi h),if_neg (by simpa using hz)]
def qHB (t:Am) (a:Aj) (s1:Ag) (out:Int) (s2:Ag):Option Int:=
  if s1.el=s2.el/\¬ s1.pos=s2.pos then
    (if nK a.Aa [pQ t s1.el] < 0\/s1∈a.Ar\/s1∈a.Az then none else some (max out (nK a.Aa [pQ t s1.el])))
  else some out
def qHC (t:Am) (a x:Aj) (out:Int) (s1:Ag):Option Int:=(fF (dU x)).foldlM (qHB t a s1) out
def qWQ (a x:Aj):Int:=if iY x a=false then max (nK a.Aa x.Aa) (nK a.Aa x.Ah) else nK a.Aa x.Aa
def zGN (a x:Aj):Bool:=(!iY a x&&decide (0<=nK a.Ah x.Aa))||(!iY a x&&(!iY x a&&decide (0<=nK a.Ah x.Ah)))
def yN (t:Am) (a x:Aj):Int:=
  if zGN a x=true then (a.Aa.length:Int) - 1
  else match (fF (dU a)).foldlM (qHC t a x) (qWQ a x) with
    | some out=>out
    | none=>(a.Aa.length:Int) - 1
theorem qKV (l m:List Int):-1<=nK l m/\nK l m < (l.length:Int):=qOI _ _
abbrev InB (a:Aj) (out:Int):Prop:=-1<=out/\out < (a.Aa.length:Int)
theorem qOP {a:Aj} {s1 s2:Ag} {out o:Int} (h:InB a out) (ho:qHB t a s1 out s2=some o):InB a o:=by
  have hm:=qKV a.Aa [pQ t s1.el];unfold qHB at ho;unfold InB at *;split at ho
  · split at ho
    · cases ho
    have:=Option.some.inj ho;omega
  have:=Option.some.inj ho;omega
theorem qOQ {a x:Aj} {s1:Ag} {out o:Int} (h:InB a out) (ho:qHC t a x out s1=some o):InB a o:=by
  unfold qHC at ho;exact qDN (Inv:=InB a) (λe _ b b' hb hh=>qOP hb hh) h o ho
theorem qYO (a x:Aj):InB a (qWQ a x):=by
  have b1:=qKV a.Aa x.Aa;have b2:=qKV a.Aa x.Ah;unfold qWQ InB;split<;>omega
theorem zGO {a x:Aj} (h:0 < a.Aa.length):InB a (yN t a x):=by
  unfold yN;split
  · unfold InB;omega
  split
  · rename_i out ho
    exact qDN (Inv:=InB a) (λe _ b b' hb hh=>qOQ hb hh) (qYO a x) out ho
  unfold InB;omega
theorem zAJ (hC:COk t) (ht:t.Wf) {o i:Nat} {a x:Aj} (ha:t.Ac[o]?=some a) (hx:t.Ac[i]?=some x):pI t (o:Int) (i:Int)=some (yN t a x):=by
  have hlm:=hC.lim;have ham:=zQM ha;have hxm:=zQM hx;have hsa:=hC.sum a ham;have hsx:=hC.sum x hxm;have hseca:=hC.secs ham;unfold rP at hsa hsx;have hala:=mE (dU a);have hala2:(dU a).length<=200:=by simp only [dU,zQL];omega
  have halx:=mE (dU x);have halx2:(dU x).length<=200:=by simp only [dU,zQL];omega
  have hsoa:=qFN ht a ham;have m1:=qEO a.Aa x.Aa (by unfold Cnt;omega) (by unfold Cnt;omega);have m2:=qEO a.Aa x.Ah (by unfold Cnt;omega) (by unfold Cnt;omega);have m3:=qEO a.Ah x.Aa (by unfold Cnt;omega) (by unfold Cnt;omega);have m4:=qEO a.Ah x.Ah (by unfold Cnt;omega) (by unfold Cnt;omega);unfold pI;rw [aR ha,aR hx,aB (by unfold I64;omega)];rw [show jM a x=some (iY a x) from rfl,aA,show jM x a=some (iY x a) from rfl,aA,m1,aA,m2,aA,m3,m4]
  have e1:(if (!iY x a)=true then some (max (nK a.Aa x.Aa) (nK a.Aa x.Ah)) else some (nK a.Aa x.Aa))=some (qWQ a x):=by
    unfold qWQ;cases iY x a<;>rfl
  rw [e1,aA]
  have e2 : (if (!iY a x) = true then aC (some (nK a.Ah x.Aa)) fun r17 => if (0 : Int) <= r17 then some true else if (!iY a x) = true then (if (!iY x a) = true then aC (some (nK a.Ah x.Ah)) fun r21 => some (decide ((0 : Int) <= r21)) else some false) else some false
      else if (!iY a x) = true then (if (!iY x a) = true then aC (some (nK a.Ah x.Ah)) fun r16 => some (decide ((0 : Int) <= r16)) else some false) else some false) = some (zGN a x) := by
    unfold zGN;cases iY a x<;>cases iY x a<;>simp only [Bool.not_true,Bool.not_false,if_true,Bool.false_eq_true,if_false,aA,Bool.true_and,Bool.false_and,Bool.or_false]
    · by_cases h:0<=nK a.Ah x.Aa
      · rw [if_pos h,decide_eq_true h,Bool.true_or]
      rw [if_neg h,decide_eq_false h,Bool.false_or]
    by_cases h:0<=nK a.Ah x.Aa
    · rw [if_pos h,decide_eq_true h]
    rw [if_neg h,decide_eq_false h]
  rw [e2,aA];unfold yN
  cases hW:zGN a x with
  | true=>rw [if_pos rfl,if_pos rfl]
  | false=>
    rw [if_neg Bool.false_ne_true,if_neg Bool.false_ne_true,lR a (hC.ok.each a ham),aA,lR x (hC.ok.each x hxm),aA];rw [qTI (fF (dU a)) (λb k=>(b,(k:Int))) (qHC t a x) (InB a) (.inr ((a.Aa.length:Int) - 1)) (λb=>.inl b) (b0:=qWQ a x) (by rfl) (by unfold qTF;omega) (λe _ b b' hb hh=>qOQ hb hh) (qYO a x) (λk s1 out hs1 hout=>?_) (λout _=>by dsimp only;rw [if_neg (by omega)];rfl)]
    · cases (fF (dU a)).foldlM (qHC t a x) (qWQ a x)<;>rfl
    have hk:=(zQQ.1 hs1).1;have hs1m:=zQM hs1;have hok1:Ag.ok s1:=hsoa s1 (ascS_mem.1 hs1m);obtain⟨p,hp1,hp2,hp3,hp4,hp5⟩:=hC.home ham hs1m;dsimp only;rw [if_pos (by omega)];rw [qTI (fF (dU x)) (λb k=>(b,(k:Int))) (qHB t a s1) (InB a) (.inr (.inr (.inr ((a.Aa.length:Int) - 1)))) (λb=>.inl b) (b0:=out) (by rfl) (by unfold qTF;omega) (λe _ b b' hb hh=>qOP hb hh) hout (λq s2 b hs2 hb=>?_) (λout _=>by dsimp only;rw [if_neg (by omega)];rfl)]
    · unfold qHC
      cases (fF (dU x)).foldlM (qHB t a s1) out with
      | none=>rfl
      | some b=>rw [qT,aB (bD hk (by omega))];rfl
    have hq:=(zQQ.1 hs2).1;have hid:gH (cZ t.Ae s1.el)=(p:Int):=hp1;dsimp only;rw [if_pos (by omega)];simp only [aR hs1,aR hs2];unfold qHB;by_cases h1:s1.el=s2.el
    · rw [if_pos h1,aA]
      by_cases h2:s1.pos=s2.pos
      · rw [if_pos (decide_eq_true h2), aB (bD hq (by omega)), if_neg (fun h => h.2 h2)]
        rfl
      rw [if_neg (by rw [decide_eq_false h2]; exact Bool.false_ne_true), if_pos ⟨h1, h2⟩, oN t _ (by unfold Cnt; omega), aA, hid, aR hp3, qEO a.Aa [pQ t s1.el] (by unfold Cnt; omega) (by simp), aA, qEV a.Ar s1 (by unfold Cnt; omega) hok1 (fun s hs => hsoa s (by simp [dU, hs])), aA, qEV a.Az s1 (by unfold Cnt; omega) hok1 (fun s hs => hsoa s (by simp [dU, hs])), aA]
      have e3:(if nK a.Aa [pQ t s1.el] < 0 then some true else if decide (s1∈a.Ar)=true then some true else some (decide (s1∈a.Az)))=some (decide (nK a.Aa [pQ t s1.el] < 0\/s1∈a.Ar\/s1∈a.Az)):=by
        by_cases g1:nK a.Aa [pQ t s1.el] < 0
        · rw [if_pos g1,decide_eq_true (.inl g1)]
        rw [if_neg g1];by_cases g2:s1∈a.Ar
        · rw [if_pos (decide_eq_true g2),decide_eq_true (.inr (.inl g2))]
        rw [if_neg (by simpa using g2)]
        congr 1
        rw [Bool.eq_iff_iff];simp [g1,g2]
      rw [e3,aA];by_cases g:nK a.Aa [pQ t s1.el] < 0\/s1∈a.Ar\/s1∈a.Az
      · rw [if_pos (decide_eq_true g),if_pos g];rfl
      rw [if_neg (by rw [decide_eq_false g]; exact Bool.false_ne_true), if_neg g, aB (bD hq (by omega))];rfl
    rw [if_neg h1, aA, if_pos rfl, aB (bD hq (by omega)), if_neg (fun h => h1 h.1)];rfl
def apX (t:Am) (i o:Nat) (x a:Aj):List Ad:=
  if o=i\/yN t a x < 0 then []
  else
    let A:=if yN t a x < (bB t o:Int) then fG [auE t o 3,eY (kZ t o (yN t a x))] else auE t o 3
    [eY (if o < i then orE [A,auE t o 4] else A)]
theorem qYV (i o:Nat) (x a:Aj):(apX t i o x a).length<=1:=by
  unfold apX;split<;>simp
def apsX (t:Am) (i:Nat) (x:Aj) (n:Nat):List Ad:=(List.range n).flatMap (rt t λo a=>apX t i o x a)
def qRD (t:Am) (i:Nat) (r:Aj):Ad:=fG ((([asE t i 2,eY (auE t i 3)]++(r.Aa++r.Ah).map zY)++apsX t i r t.Ac.length)++(fF (dU r)).map (qXE t))
theorem zCD (hC:COk t) (ht:t.Wf) {r:Aj} (hr:t.Ac[i]?=some r) (hb:b.length<=90000):jD (rcp t b) (i:Int)=some (rcp t (b++[⟨1,oZ t i+4,0,qRD t i r⟩])):=by
  have hi:=(zQQ.1 hr).1;have hm:=zQM hr;have hlm:=hC.lim;have hsum:=hC.sum r hm;unfold rP at hsum;have hal:=mE (dU r);have hal2:(dU r).length<=200:=by simp only [dU,zQL];omega
  unfold jD;dsimp only;rw [aR hr,qBF hC hi (by omega) (by omega),aA,yS hC hi (by omega) (by omega),aA,oV,aA,fV r.Aa (λ_ s=>zY s) _ (by omega) (λx s B hx hB=>?_) (by dsimp only;rw [if_neg (by omega)];rfl),aA,fQ]
  · rw [fV r.Ah (fun _ s => zY s) _ (by omega) (fun x s B hx hB => ?_) (by dsimp only; rw [if_neg (by omega)]; rfl), aA, fQ]
    · have hP : (([vE (vV t i + 2), eY (vE (oZ t i + 3))] ++ r.Aa.map zY) ++ r.Ah.map zY).length <= 300 := by simp only [zQL, zQC, List.length_cons, List.length_nil]; omega
      unfold qRD;rw [List.map_append,<- List.append_assoc];generalize ([vE (vV t i+2),eY (vE (oZ t i+3))]++r.Aa.map zY)++r.Ah.map zY=P at hP;rw [cV (rt t λo a=>apX t i o r a) P t.Ac.length (by omega) (λo ho=>?_) (by dsimp only;rw [if_neg (by omega)];rfl),aA]
      · have hP2:(P++(List.range t.Ac.length).flatMap (rt t λo a=>apX t i o r a)).length<=400:=by
          have:=dC (zH (t:=t) (f:=λo a=>apX t i o r a) (c:=1) λ_ _ _=>qYV _ _ _ _) t.Ac.length;rw [zQL];omega
        unfold apsX;generalize P++(List.range t.Ac.length).flatMap (rt t λo a=>apX t i o r a)=P2 at hP2;rw [lR r (hC.ok.each r hm),aA,fV (fF (dU r)) (λ_ s=>qXE t s) _ (by omega) (λx s B hx hB=>?_) (by dsimp only;rw [if_neg (by omega)];rfl),aA,yS hC hi (by omega) (by omega),aA,nB,aA,zW (by omega),aA,fQ];have hx':=(zQQ.1 hx).1;have hxm:=zQM hx;obtain⟨k,hk1,hk2,hk3,hk4,hk5⟩:=hC.home hm hxm;have hid:gH (cZ t.Ae s.el)=mA t s.el:=rfl;have h3:=hC.base t.Ac.length;have h4:kX t=dR t t.Ac.length:=rfl;have h2:=(yH t).1;dsimp only;rw [if_pos (by omega),aR hx,oN t _ (by unfold Cnt;omega),aA,hid,aB (by unfold I64;omega),zV,aA,aR hx]
        have e1:(if s.pos=(1:Int) then aC (eU (vE ((inN t:Int)+mA t s.el))) λr91=>some (r91.op,r91.var,r91.args) else some ((vE ((inN t:Int)+mA t s.el)).op,(vE ((inN t:Int)+mA t s.el)).var,(vE ((inN t:Int)+mA t s.el)).args))=some ((qER t s).op,(qER t s).var,(qER t s).args):=by
          unfold qER;by_cases h:s.pos=1
          · rw [if_pos h,if_pos h,oV,aA]
          rw [if_neg h,if_neg h]
        rw [e1,aA];dsimp only;rw [hk1,aR hk3,rS hk4 (by omega),aA,zX,aA,aB (by simp;omega),aB (bD hx' (by omega)),Ad.eta];rfl
      have hlen:(P++(List.range o).flatMap (rt t λo a=>apX t i o r a)).length<=400:=by
        have:=dC (zH (t:=t) (f:=λo a=>apX t i o r a) (c:=1) λ_ _ _=>qYV _ _ _ _) o;rw [zQL];omega
      generalize (P++(List.range o).flatMap (rt t λo a=>apX t i o r a))=B at hlen;have hq:=zQR ho;have hsq:=hC.secs (List.getElem_mem ho);have hln:bB t o=t.Ac[o].Aa.length - 1:=by unfold bB;rw [hq]
      generalize t.Ac[o]=a at hq hsq hln;have hbi:=zGO (t:=t) (x:=r) hsq.1;unfold InB at hbi;dsimp only;rw [if_pos (by omega),zAJ hC ht hq hr,aA,rY hq];unfold apX;by_cases hno:o=i\/yN t a r < 0
      · rw [if_pos (by rcases hno with h | h; · rw [decide_eq_true (show (o : Int) = (i : Int) by omega)]; rfl
                       · rw [decide_eq_true h, Bool.or_true]), if_pos hno, aB (bD ho (by omega)), List.append_nil]
      rw [if_neg (by rw [decide_eq_false (show ¬ (o : Int) = (i : Int) by omega), decide_eq_false (by omega)]; simp), if_neg hno, yS hC ho (by omega) (by omega), aA, (qGG hC ho).1, aA];dsimp only
      have e1:(if yN t a r < (bB t o:Int) then aC (eL (rcp t b) (o:Int) (yN t a r)) λr57=>aC (eU r57) λr58=>aC (eP ([vE (oZ t o+3),r58]:List Ad)) λr59=>some (r59.op,r59.var,r59.args) else some ((vE (oZ t o+3)).op,(vE (oZ t o+3)).var,(vE (oZ t o+3)).args))=some ((if yN t a r < (bB t o:Int) then fG [auE t o 3,eY (kZ t o (yN t a r))] else auE t o 3).op,(if yN t a r < (bB t o:Int) then fG [auE t o 3,eY (kZ t o (yN t a r))] else auE t o 3).var,(if yN t a r < (bB t o:Int) then fG [auE t o 3,eY (kZ t o (yN t a r))] else auE t o 3).args):=by
        by_cases h:yN t a r < (bB t o:Int)
        · rw [if_pos h,if_pos h,qSU hC ho (by omega) (by omega),aA,oV,aA,nB,aA]
        rw [if_neg h,if_neg h]
      rw [e1,aA];dsimp only;rw [Ad.eta];generalize (if yN t a r < (bB t o:Int) then fG [auE t o 3,eY (kZ t o (yN t a r))] else auE t o 3)=A
      have e2:(if (o:Int) < (i:Int) then aC (bO (rcp t b) (o:Int) 4) λr65=>aC (hU ([A,r65]:List Ad)) λr66=>some (r66.op,r66.var,r66.args) else some (A.op,A.var,A.args))=some ((if o < i then orE [A,auE t o 4] else A).op,(if o < i then orE [A,auE t o 4] else A).var,(if o < i then orE [A,auE t o 4] else A).args):=by
        by_cases h:o < i
        · rw [if_pos (by omega),if_pos h,yS hC ho (by omega) (by omega),aA,zX,aA]
        rw [if_neg (by omega),if_neg h]
      rw [e2,aA];dsimp only;rw [oV,aA,aB (by simp;omega),aB (bD ho (by omega)),Ad.eta]
    have hx':=(zQQ.1 hx).1;have hs:=hC.sec_in hm (List.mem_append_right _ (zQM hx));simp only [zQL,zQC,List.length_cons,List.length_nil] at hB;dsimp only;rw [if_pos (by omega),aR hx,aB (by unfold I64;omega),aB (by unfold I64;omega),zV,aA,aB (by simp;omega),aB (bD hx' (by omega))];rfl
  have hx':=(zQQ.1 hx).1;have hs:=hC.sec_in hm (List.mem_append_left _ (zQM hx));simp only [List.length_cons,List.length_nil] at hB;dsimp only;rw [if_pos (by omega),aR hx,aB (by unfold I64;omega),aB (by unfold I64;omega),zV,aA,aB (by simp;omega),aB (bD hx' (by omega))];rfl
def qHJ (t:Am) (el pos:Int) (i:Nat) (r:Aj):List Ad:=if (⟨el,pos⟩:Ag)∈fF (dU r) then [auE t i 4] else []
theorem qYY (el pos:Int) (i:Nat) (r:Aj):(qHJ t el pos i r).length<=1:=by unfold qHJ;split<;>simp
def nV (t:Am) (el pos:Int) (n:Nat):List Ad:=(List.range n).flatMap (rt t (qHJ t el pos))
theorem qJJ (el pos:Int) (n:Nat):(nV t el pos n).length<=1 * n:=dC (zH λ_ _ _=>qYY _ _ _ _) _
def zHI (t:Am) (p:Nat) (el:Int):Ad:=orE [orE (nV t el 2 t.Ac.length),fG [vE ((inN t:Int)+(p:Int)),eY (orE (nV t el 1 t.Ac.length))]]
theorem r_lies (hC:COk t) (ht:t.Wf) {p:Nat} {el:Int} (hp:t.Ae[p]?=some el) (hel:I64 el) (hb:b.length<=80000):kF (rcp t b) (p:Int)=some (rcp t (b++[⟨1,(inN t:Int)+(p:Int),0,zHI t p el⟩])):=by
  have hpl:=(zQQ.1 hp).1;have hlm:=hC.lim;have h3:=hC.base t.Ac.length;have h4:kX t=dR t t.Ac.length:=rfl;have h2:=(yH t).1;unfold kF;dsimp only;rw [mR t.Ac.length (λn=>(nV t el 1 n,nV t el 2 n)) (o:=(nV t el 1 t.Ac.length,nV t el 2 t.Ac.length)) (by simp [nV]) (by omega) (λn hn=>?_) (by dsimp only;rw [if_neg (by omega)];rfl),aA]
  · dsimp only
    rw [aB (by unfold I64;omega),zV,aA,zX,aA,zX,aA,oV,aA,nB,aA,zX,aA,zW (by omega),aA];rfl
  have hr:=zQR hn;have hm:=List.getElem_mem hn;have w1:=qJJ (t:=t) el 1 n;have w2:=qJJ (t:=t) el 2 n;have hsum:=hC.sum _ hm;unfold rP at hsum;have hso:=qFN ht _ hm;generalize t.Ac[n]=r at hr hm hsum hso;have hal:=mE (dU r);have hal2:(dU r).length<=200:=by simp only [dU,zQL];omega
  have hok (k:Int) (h0:0<=k) (h1:k<=5):Ag.ok (⟨el,k⟩:Ag):=⟨hel,by show I64 k;unfold I64;omega⟩;have ho:∀ s∈fF (dU r),Ag.ok s:=λs hs=>hso s (ascS_mem.1 hs);have e1:nV t el 1 (n+1)=nV t el 1 n++qHJ t el 1 n r:=by unfold nV;rw [mB,rY hr]
  have e2:nV t el 2 (n+1)=nV t el 2 n++qHJ t el 2 n r:=by unfold nV;rw [mB,rY hr]
  dsimp only;rw [e1,e2];generalize nV t el 1 n=A at w1;generalize nV t el 2 n=B at w2;rw [if_pos (by omega),aR hr,lR r (hC.ok.each r hm),aA,aR hp,qEV _ _ (by unfold Cnt;omega) (hok 1 (by omega) (by omega)) ho,aA]
  have f1:(if decide ((⟨el,1⟩:Ag)∈fF (dU r))=true then aC (bO (rcp t b) (n:Int) 4) λr20=>aD ((A++[r20]).length<=1000000000) (some (A++[r20])) else some A)=some (A++qHJ t el 1 n r):=by
    unfold qHJ;by_cases h:(⟨el,1⟩:Ag)∈fF (dU r)
    · rw [if_pos (decide_eq_true h),yS hC hn (by omega) (by omega),aA,aB (by simp;omega),if_pos h]
    rw [if_neg (by simpa using h),if_neg h,List.append_nil]
  rw [f1,aA,aR hp,qEV _ _ (by unfold Cnt;omega) (hok 2 (by omega) (by omega)) ho,aA];unfold qHJ;by_cases h:(⟨el,2⟩:Ag)∈fF (dU r)
  · rw [if_pos (decide_eq_true h),yS hC hn (by omega) (by omega),aA,aB (by simp;omega),aB (bD hn (by omega)),if_pos h]
  rw [if_neg (by simpa using h),if_neg h,List.append_nil,aB (bD hn (by omega))]
def qYM (t:Am) (i:Nat) (r:Aj):List At:=[⟨1,oZ t i+4,0,qRD t i r⟩]
def zFL (t:Am) (p:Nat) (el:Int):List At:=[⟨1,(inN t:Int)+(p:Int),0,zHI t p el⟩]
def qFT (t:Am):List At:=(List.range t.Ac.length).flatMap (rt t (qDV t))
def qJX (t:Am):List At:=(List.range t.Ac.length).flatMap (rt t (qOC t))
def qPG (t:Am):List At:=(List.range t.Ac.length).flatMap (rt t (qYM t))
def rungX5 (t:Am):List At:=(List.range t.Ae.length).flatMap (pt t (zFL t))
def rungsX (t:Am):List At:=(((qFT t++qJX t)++qPG t)++qXO t)++rungX5 t
abbrev prgX (t:Am):Program:=⟨lA t,(inN t:Int),rungsX t⟩
theorem qUV (h:TOk t) (ht:t.Wf) (hs:qCW t=true):lL t=some (if gI t=0 then if 2000 < mP t then (⟨[],0,[]⟩,2) else (prgX t,0) else (⟨[],0,[]⟩,gI t)):=by
  unfold lL;rw [qLS t h,aA];by_cases hz:gI t=0
  · obtain⟨hT,h1,h2,h3⟩:=qBC hs
    have hC:COk t:=⟨h,h1,h2,h3,hz⟩;rw [if_pos hz,if_pos hz,wM hC,aA];dsimp only;by_cases ha:2000 < mP t
    · rw [if_pos (by omega),if_pos ha]
    rw [if_neg (by omega), if_neg ha];have hlm:=hC.lim;have l1:(qFT t).length<=2 * t.Ac.length:=dC (zH λ_ _ _=>by simp [qDV]) _;have l2:(qJX t).length<=30 * t.Ac.length:=dC (zH λi _ _=>by rw [qOB];have:=hC.last24 i;omega) _;have l3:(qPG t).length<=1 * t.Ac.length:=dC (zH λ_ _ _=>by simp [qYM]) _;have l4:(qXO t).length<=1 * t.Ac.length:=dC (λ_=>by simp [qRY]) _;have hai:=hC.base t.Ac.length;rw [qP (t:=t) (qDV t) [] (c:=2) (by omega) (by omega) (by simp) (λ_ _ _=>by simp [qDV]) (by omega) (λi r B hr hB=>?_) (λB=>by dsimp only;rw [if_neg (by omega)];rfl),aA,List.nil_append]
    · rw [qP (t := t) (qOC t) _ (c := 30) (by omega) (by omega) (by unfold qFT at l1; omega) (fun i _ _ => by rw [qOB]; have := hC.last24 i; omega) (by omega) (fun i r B hr hB => ?_) (fun B => by dsimp only; rw [if_neg (by omega)]; rfl), aA]
      · rw [qP (t := t) (qYM t) _ (c := 1) (by omega) (by omega) (by rw [zQL]; unfold qFT at l1; unfold qJX at l2; omega) (fun _ _ _ => by simp [qYM]) (by omega) (fun i r B hr hB => ?_) (fun B => by dsimp only; rw [if_neg (by omega)]; rfl), aA]
        · rw [cV (qRY t) _ t.Ac.length (by omega) (fun i hi => ?_) (by dsimp only; rw [if_neg (by omega)]; rfl), aA]
          · rw [cV (pt t (zFL t)) _ t.Ae.length (by omega) (fun p hp => ?_) (by dsimp only; rw [if_neg (by omega)]; rfl), aA, zDW hC, aA]
            · rfl
            have l6 : ((List.range p).flatMap (pt t (zFL t))).length <= 1 * p := dC (fun i => by unfold pt; split <;> simp [zFL]) _;have hq:=zQR hp;have hel:I64 t.Ae[p]:=ht.Ae.2 _ (List.getElem_mem hp);dsimp only
            rw [if_pos (by omega), r_lies hC ht hq hel (by
              simp only [zQL]; unfold qFT at l1; unfold qJX at l2; unfold qPG at l3; unfold qXO at l4; omega), aA, aB (bD hp (by omega)), zHF hq]
            rfl
          have l6 : ((List.range i).flatMap (qRY t)).length <= 1 * i := dC (fun _ => by simp [qRY]) _;dsimp only
          rw [if_pos (by omega), xX hC hi (by omega) (by omega), aA, yS hC hi (by omega) (by omega), aA, yS hC hi (by omega) (by omega), aA, zX, aA, zW (by
              simp only [zQL]; unfold qFT at l1; unfold qJX at l2; unfold qPG at l3; omega), aA, aB (bD hi (by omega))]
          rfl
        have hi:=(zQQ.1 hr).1;dsimp only;rw [if_pos (by omega),zCD hC ht hr (by omega),aA,aB (bD hi (by omega))];rfl
      have hi:=(zQQ.1 hr).1;dsimp only;rw [if_pos (by omega),qVR hC ht hr (by omega),aA,aB (bD hi (by omega))]
    have hi:=(zQQ.1 hr).1;dsimp only;rw [if_pos (by omega),zBZ hC hr (by omega),aA,aB (bD hi (by omega))]
  rw [if_neg hz,if_neg hz]
mutual
theorem zEH:∀ e:Ad,szE e<=e.Aq.bulk
 | ⟨a,b,c⟩=>by
  have:=qRU c;simp only [szE,Ad.Aq,D.bulk,D.bulks];omega
theorem qRU:∀ l:List Ad,szL l<=D.bulks (Ad.Bh l)
 | []=>by simp [szL]
 | e :: r=>by
  have:=zEH e;have:=qRU r;simp only [szL,Ad.Bh,D.bulks];omega
end
mutual
theorem qON:∀ e:Ad,dpE e<=szE e
 | ⟨a,b,c⟩=>by
  have:=zDG c;simp only [szE,dpE];omega
theorem zDG:∀ l:List Ad,dpL l<=szL l
 | []=>by simp [szL,dpL]
 | e :: r=>by
  have:=qON e;have:=zDG r;simp only [szL,dpL];omega
end
theorem sz_pos (e:Ad):1<=szE e:=by rw [qJR];omega
theorem qKY:∀ l:List Ad,l.length<=szL l
 | []=>by simp [szL]
 | e :: r=>by have:=sz_pos e;have:=qKY r;simp only [szL,List.length_cons];omega
theorem qGS:∀ {l:List Ad} {x:Ad},x∈l->szE x<=szL l
 | e :: r,x,h=>by
  rcases zQB.1 h with rfl|h
  ·simp only [szL];omega
  have:=qGS h;simp only [szL];omega
theorem qKU {l:List Ad} {x:Ad} (h:x∈l):dpE x<=dpL l:=(dpL_le.1 (zQW _)) x h
theorem qNW:∀ (fu:Nat) (e:Ad),dpE e<=fu->szE e<=1000000000->mI fu e=some (szE e:Int)
 | 0,e,h,_=>by rw [yK] at h;omega
 | fu+1,e,h,hs=>by
  rw [yK] at h;have hse:=qJR e;have hl:=qKY e.args;unfold mI;rw [lU (s:=((1:Int),(0:Int))) (λi=>((1:Int)+(szL (e.args.take i):Int),(i:Int))) e.args.length (o:=(1:Int)+(szL e.args:Int)) rfl (by omega) ?_ ?_]
  ·rw [aA]
   congr 1
   omega
  ·intro i hi;have hm:=List.getElem_mem hi;have h1:=qKU hm;have h2:=qGS hm;have hq:e.args.take (i+1)=e.args.take i++[e.args[i]]:=by rw [List.take_add_one,zQR hi];rfl
   have hn:szL (e.args.take (i+1))=szL (e.args.take i)+szE e.args[i]:=by rw [hq,qXJ];simp [szL]
   have hle:szL (e.args.take (i+1))<=szL e.args:=by
    have:=qXJ (e.args.take (i+1)) (e.args.drop (i+1));rw [List.take_append_drop] at this;omega
   dsimp only;rw [if_pos (by omega),aR (zQR hi),qNW fu e.args[i] (by omega) (by omega),aA,aB (by unfold I64;omega),aB (by unfold I64;omega)]
   congr 3
   omega
  dsimp only;rw [if_neg (by omega),List.take_length];rfl
theorem zEM {e:Ad} (hs:szE e<=1000000000):xP e=some (szE e:Int):=by
 unfold xP;exact qNW eR e (by have:=qON e;unfold eR;omega) hs
theorem zFW (a b:List Ad):dpL (a++b)=max (dpL a) (dpL b):=by
 induction a with
 | nil=>simp [dpL]
 | cons x r ih=>simp only [List.cons_append,dpL,ih];omega
theorem qLO:∀ (fu:Nat) (e:Ad),dpE e<=fu->szE e<=1000000000->lM fu e=some (dpE e:Int)
 | 0,e,h,_=>by rw [yK] at h;omega
 | fu+1,e,h,hs=>by
  rw [yK] at h;have hse:=qJR e;have hde:=yK e;have hds:=qON e;have hl:=qKY e.args;unfold lM;rw [lU (s:=((0:Int),(0:Int))) (λi=>((dpL (e.args.take i):Int),(i:Int))) e.args.length (o:=(dpL e.args:Int)) rfl (by omega) ?_ ?_]
  ·rw [aA, aB (by unfold I64; omega)]
   congr 1
   omega
  ·intro i hi;have hm:=List.getElem_mem hi;have h1:=qKU hm;have h2:=qGS hm;have hq:e.args.take (i+1)=e.args.take i++[e.args[i]]:=by rw [List.take_add_one,zQR hi];rfl
   have hn:dpL (e.args.take (i+1))=max (dpL (e.args.take i)) (dpE e.args[i]):=by rw [hq,zFW];simp [dpL]
   dsimp only;rw [if_pos (by omega),aR (zQR hi),qLO fu e.args[i] (by omega) (by omega),aA,aB (by unfold I64;omega)]
   congr 3
   omega
  dsimp only;rw [if_neg (by omega),List.take_length];rfl
theorem zDH {e:Ad} (hs:szE e<=1000000000):uP e=some (dpE e:Int):=by
 unfold uP;exact qLO eR e (by have:=qON e;unfold eR;omega) hs
theorem qOL (n:Int):∀ (fu:Nat) (e:Ad),dpE e<=fu->szE e<=1000000000->lH fu e n=some (oC n e)
 | 0,e,h,_=>by rw [yK] at h;omega
 | fu+1,e,h,hs=>by
  rw [yK] at h;have hse:=qJR e;have hl:=qKY e.args;have hg:oC n e=(pR n e.op e.var e.args.length&&qCQ n e.args):=by cases e;rw [oC]
  have hgl:qCQ n e.args=!(e.args.any λx=>!oC n x):=by
   rw [Bool.eq_iff_iff,goodL_iff];simp
  have hloop : aW (ρ := Unit ⊕ Bool) (fun i20 =>
    if i20 < (e.args.length : Int) then
     bC e.args i20 fun e23 =>
     aC ((lH fu) e23 n) fun r24 =>
     if (!(r24)) = true then
      aY (
       aY (
        some false))
     else
      aD (I64 (i20 + (1 : Int))) <|
      some (.inl (i20 + (1 : Int)))
    else
     aY (
      some (.inl ()))) (0 : Int) = some (if (e.args.any fun x => !oC n x) = true then (.inr false : Unit ⊕ Bool) else .inl ()) := by
   refine kW (ρ:=Unit ⊕ Bool) e.args (λx=>!oC n x) (Sum.inr false) (Sum.inl ()) (by omega) ?_ ?_
   ·intro i x hx;have hi:=(zQQ.1 hx).1;have hm:=zQM hx;have h1:=qKU hm;have h2:=qGS hm;rw [if_pos (by omega),aR hx,qOL n fu x (by omega) (by omega),aA,aB (by unfold I64;omega)];cases oC n x<;>rfl
   rw [if_neg (by omega)];rfl
  unfold lH;rw [hloop,hg,hgl]
  have leaf:e.op=1\/e.op=2->some ((decide (e.var=0))&&(decide ((e.args.length:Int)=0)))=some (pR n e.op e.var e.args.length&&!(e.args.any λx=>!oC n x)):=λh=>by
   have hf:pR n e.op e.var e.args.length=decide (e.var=0/\e.args.length=0):=by unfold pR;rw [if_pos h]
   rw [hf];by_cases hk:e.var=0/\e.args.length=0
   ·have ha:e.args=[]:=List.length_eq_zero_iff.1 hk.2;simp [hk.1,ha]
   rw [decide_eq_false hk,Bool.false_and]
   congr 1
   rw [Bool.and_eq_false_iff,decide_eq_false_iff_not,decide_eq_false_iff_not];omega
  by_cases h1:e.op=1
  ·rw [if_pos h1,aA,decide_eq_true h1,if_pos rfl,eV,lD];exact leaf (.inl h1)
  rw [if_neg h1,aA];by_cases h2:e.op=2
  ·rw [decide_eq_true h2,if_pos rfl,eV,lD];exact leaf (.inr h2)
  have h12 : ¬ (e.op = 1 \/ e.op = 2) := by omega
  rw [decide_eq_false h2,if_neg Bool.false_ne_true];by_cases h3:e.op=3
  ·have hf : pR n e.op e.var e.args.length = decide (0 <= e.var /\ e.var < n /\ e.args.length = 0) := by unfold pR; rw [if_neg h12, if_pos h3]
   rw [if_pos h3,eV,lD,hf];by_cases hk:0<=e.var/\e.var < n/\e.args.length=0
   ·have ha:e.args=[]:=List.length_eq_zero_iff.1 hk.2.2;simp [hk.1,hk.2.1,ha]
   rw [decide_eq_false hk,Bool.false_and]
   congr 1
   rw [Bool.and_eq_false_iff,Bool.and_eq_false_iff,decide_eq_false_iff_not,decide_eq_false_iff_not,decide_eq_false_iff_not];omega
  rw [if_neg h3];by_cases h4:e.op=4
  ·have hf : pR n e.op e.var e.args.length = decide (e.args.length = 1 /\ e.var = 0) := by unfold pR; rw [if_neg h12, if_neg h3, if_pos h4]
   rw [if_pos h4,hf];by_cases hk:e.args.length=1
   ·rw [if_pos (by omega), qT];cases e.args.any λx=>!oC n x<;>simp [hk]
   rw [if_neg (by omega), eV, lD];simp [hk]
  rw [if_neg h4];by_cases h5:e.op=5
  ·have hf : pR n e.op e.var e.args.length = decide (e.var = 0) := by unfold pR; rw [if_neg h12, if_neg h3, if_neg h4, if_pos (.inl h5)]
   rw [if_pos h5,qT,hf];cases e.args.any λx=>!oC n x<;>simp
  rw [if_neg h5];by_cases h6:e.op=6
  ·have hf : pR n e.op e.var e.args.length = decide (e.var = 0) := by unfold pR; rw [if_neg h12, if_neg h3, if_neg h4, if_pos (.inr h6)]
   rw [if_pos h6,qT,hf];cases e.args.any λx=>!oC n x<;>simp
  have hf : pR n e.op e.var e.args.length = false := by unfold pR; rw [if_neg h12, if_neg h3, if_neg h4, if_neg (by omega)]
  rw [if_neg h6,eV,lD,hf];rfl
theorem zFV (n:Int) {e:Ad} (hs:szE e<=1000000000):xO e n=some (oC n e):=by
 unfold xO;exact qOL n eR e (by have:=qON e;unfold eR;omega) hs
theorem qWX (n:Int) {e:Ad} (hs:szE e<=1000000000):rH e n=some (valB n e):=by
 unfold rH;rw [zEM hs,aA];by_cases h1:(szE e:Int)<=20000
 ·rw [if_pos h1,zDH hs,aA];by_cases h2:(dpE e:Int)<=12
  ·rw [if_pos h2,zFV n hs,aA,aA]
   congr 1
   cases hg:oC n e with
   | false=>exact (decide_eq_false (show ¬ qRK n 1 20000 e from λh=>by rw [h.1] at hg;cases hg)).symm
   | true=>exact (decide_eq_true (show qRK n 1 20000 e from ⟨hg,by omega,h1⟩)).symm
  rw [if_neg h2,aA]
  congr 1
  exact (decide_eq_false (show ¬ qRK n 1 20000 e from λh=>by have:=h.2.1;omega)).symm
 rw [if_neg h1,aA]
 congr 1
 exact (decide_eq_false (show ¬ qRK n 1 20000 e from λh=>by have:=h.2.2;omega)).symm
theorem qCX (v:List Bool):∀ (fu:Nat) (e:Ad),dpE e<=fu->szE e<=1000000000->kI fu e v=some (evE v e)
 | 0,e,h,_=>by rw [yK] at h;omega
 | fu+1,e,h,hs=>by
  rw [yK] at h;have hse:=qJR e;have hl:=qKY e.args;rw [evE_eq];unfold kI opB;by_cases h2:e.op=2
  ·rw [if_pos h2,eV,lD,if_neg (by omega),if_neg (by omega),if_neg (by omega),if_neg (by omega),decide_eq_true h2]
  rw [if_neg h2];by_cases h3:e.op=3
  ·rw [if_pos h3,if_pos h3];by_cases h0:0<=e.var
   ·rw [if_pos h0];by_cases hv:e.var < (v.length:Int)
    ·have hget:v[e.var.toNat]?=some (v.getD e.var.toNat false):=by
      rw [zQD,zQR (by omega)];rfl
     rw [if_pos hv,qLH h0 hget,aA,eV,lD,decide_eq_true h0,Bool.true_and]
    rw [if_neg hv, aA, eV, lD, zQD, List.getElem?_eq_none (by omega)];simp
   rw [if_neg h0,aA,eV,lD,decide_eq_false h0,Bool.false_and]
  rw [if_neg h3,if_neg h3];by_cases h4:e.op=4
  ·rw [if_pos h4,if_pos h4]
   cases ha:e.args with
   | nil=>
    rw [if_neg (by simp),aA,eV,lD];rfl
   | cons x r=>
    have hm:x∈e.args:=by rw [ha];exact List.mem_cons_self ..
    have q1:=qKU hm;have q2:=qGS hm;rw [if_pos (by simp),qLH (by omega) (by rfl),qCX v fu x (by omega) (by omega),aA,aA,eV,lD];rfl
  rw [if_neg h4,if_neg h4]
  have hloop : ∀ c : Bool, aW (ρ := Unit ⊕ (Unit ⊕ Bool)) (fun i24 =>
      if i24 < (e.args.length : Int) then
       bC e.args i24 fun e27 =>
       aC ((kI fu) e27 v) fun r28 =>
       if ((r28 == c)) = true then
        aY (
         aY (
          aY (
           some c)))
       else
        aD (I64 (i24 + (1 : Int))) <|
        some (.inl (i24 + (1 : Int)))
      else
       aY (
        some (.inl ()))) (0 : Int) = some (if (e.args.any fun x => evE v x == c) = true then .inr (.inr c) else .inl ()) := fun c => by
   refine kW (ρ:=Unit ⊕ (Unit ⊕ Bool)) e.args (λx=>evE v x == c) (Sum.inr (Sum.inr c)) (Sum.inl ()) (by omega) ?_ ?_
   ·intro i x hx;have hi:=(zQQ.1 hx).1;have hm:=zQM hx;have q1:=qKU hm;have q2:=qGS hm;rw [if_pos (by omega),aR hx,qCX v fu x (by omega) (by omega),aA,aB (by unfold I64;omega)];cases evE v x == c<;>rfl
   rw [if_neg (by omega)];rfl
  by_cases h5:e.op=5
  ·have h6 : ¬ e.op = 6 := by omega
   rw [if_pos h5,if_pos h5,aA,decide_eq_true h5,if_pos rfl,decide_eq_false h6,hloop false]
   have:(e.args.map (evE v)).all id=!(e.args.any λx=>evE v x == false):=by
    rw [List.all_map,List.all_eq_not_any_not]
    congr 2
    funext x
    show (!(evE v x))=(evE v x == false);cases evE v x<;>rfl
   rw [this];cases (e.args.any λx=>evE v x == false)<;>rfl
  rw [if_neg h5,if_neg h5,aA];by_cases h6:e.op=6
  ·rw [if_pos h6,decide_eq_true h6,if_pos rfl,decide_eq_false h5,hloop true]
   have:(e.args.map (evE v)).any id=(e.args.any λx=>evE v x == true):=by
    rw [List.any_map]
    congr 1
    funext x
    show evE v x=(evE v x == true);cases evE v x<;>rfl
   rw [this];cases (e.args.any λx=>evE v x == true)<;>rfl
  rw [if_neg h6,decide_eq_false h6,if_neg (by simp),qT,decide_eq_false h2]
theorem qUU (v:List Bool) {e:Ad} (hs:szE e<=1000000000):tE e v=some (evE v e):=by
 unfold tE;exact qCX v eR e (by have:=qON e;unfold eR;omega) hs
theorem zGV:rM=some true:=by decide+kernel
def keyWords:List (List UInt8):=[qRQ,zGY,qBA,vX,qJL,qXF,zHB,qXG,qMH,qBW,mX,rW,rX,qDU,qRN,qJM,zGZ,wUse,zHA,wAct,qXH].map (·.data.toList)
def zFQ (s:Nat×List UInt8×Nat×Nat) (c:UInt8):Nat×List UInt8×Nat×Nat:=
 if c=46 then (s.1+1,s.2) else if s.1=0 then (s.1,s.2.1++[c],s.2.2) else if s.1=1 then (s.1,s.2.1,s.2.2.1 * 10+(c.toNat - 48),s.2.2.2) else (s.1,s.2.1,s.2.2.1,s.2.2.2 * 10+(c.toNat - 48))
def qAC (b:BA):Nat:=(b.data.toList.foldl zFQ (0,[],0,0)) |> λs=>keyWords.findIdx (· == s.2.1) * 10000+s.2.2.1 * 100+s.2.2.2
theorem key1:∀ i,i < 48->(nm1 i).map qAC=[i * 100,10000+i * 100]:=by decide+kernel
theorem key2:∀ i,i < 48->(nm2 i).map qAC=[20000+i * 100,30000+i * 100]:=by decide+kernel
theorem key3:∀ i,i < 48->(nm3 i).map qAC=[40000+i * 100,50000+i * 100,60000+i * 100,70000+i * 100]:=by decide+kernel
theorem key4:∀ i,i < 48->(nm4 i).map qAC=[80000+i * 100]:=by decide+kernel
theorem key5:∀ i,i < 48->([qBW,mX,rW,rX].map (nmB · i)).map qAC=[90000+i * 100,100000+i * 100,110000+i * 100,120000+i * 100]:=by decide+kernel
theorem keyR:∀ i,i < 48->∀ k,k < 24->qAC (nmB (wRelD++nL i) k)=130000+i * 100+k:=by decide+kernel
theorem key7:∀ i,i < 48->([qRN,qJM].map (nmB · i)).map qAC=[140000+i * 100,150000+i * 100]:=by decide+kernel
theorem key6:∀ i,i < 48->(nm6 i).map qAC=[160000+i * 100,170000+i * 100,180000+i * 100,190000+i * 100,200000+i * 100]:=by decide+kernel
theorem tP {α β:Type} (f:Nat->List α) (g:α->β) (h:Nat->List β) (n:Nat) (hh:∀ i,i < n->(f i).map g=h i):((List.range n).flatMap f).map g=(List.range n).flatMap h:=by
 rw [List.map_flatMap]
 induction n with
 | zero=>rfl
 | succ n ih=>rw [List.range_succ,List.flatMap_append,List.flatMap_append,ih λi hi=>hh i (by omega)];simp [hh n (by omega)]
theorem qEX {α β:Type} (f:α->β) (l:List α):l.flatMap (λx=>[f x])=l.map f:=by
 induction l with
 | nil=>rfl
 | cons x r ih=>rw [List.flatMap_cons,ih];rfl
theorem iS {β:Type} {h:Nat->List β} {n:Nat} {x:β} (hx:x∈(List.range n).flatMap h):∃ i,i < n/\x∈h i:=by
 obtain⟨i,hi,hm⟩:=List.mem_flatMap.1 hx;exact⟨i,List.mem_range.1 hi,hm⟩
theorem qO {h:Nat->List Nat} {n:Nat} (h1:∀ i,i < n->(h i).Nodup) (h2:∀ a b,a < b->b < n->∀ x∈h a,∀ y∈h b,x≠y):((List.range n).flatMap h).Nodup:=by
 induction n with
 | zero=>simp
 | succ n ih=>
  rw [mB,List.nodup_append];refine⟨ih (λi hi=>h1 i (by omega)) λa b hab hb=>h2 a b hab (by omega),h1 n (by omega),λx hx y hy=>?_⟩;obtain⟨i,hi,hm⟩:=iS hx;exact h2 i n hi (by omega) x hm y hy
theorem qQI {α β:Type} {f:α->β} {l:List α} (h:(l.map f).Nodup):l.Nodup:=by
 unfold List.Nodup at *;rw [List.pairwise_map] at h;exact h.imp λhab he=>hab (by rw [he])
def kb1 (i:Nat):List Nat:=[i * 100,10000+i * 100]
def kb2 (i:Nat):List Nat:=[20000+i * 100,30000+i * 100]
def kb3 (i:Nat):List Nat:=[40000+i * 100,50000+i * 100,60000+i * 100,70000+i * 100]
def kb4 (i:Nat):List Nat:=[80000+i * 100]
def kb5 (t:Am) (i:Nat):List Nat:=([90000+i * 100,100000+i * 100,110000+i * 100,120000+i * 100]++(List.range (bB t i)).map (130000+i * 100+·))++[140000+i * 100,150000+i * 100]
def kb6 (i:Nat):List Nat:=[160000+i * 100,170000+i * 100,180000+i * 100,190000+i * 100,200000+i * 100]
theorem in1 {i x:Nat} (h:x∈kb1 i):x=i * 100\/x=10000+i * 100:=by simpa [kb1] using h
theorem in2 {i x:Nat} (h:x∈kb2 i):x=20000+i * 100\/x=30000+i * 100:=by simpa [kb2] using h
theorem in3 {i x:Nat} (h:x∈kb3 i):x=40000+i * 100\/x=50000+i * 100\/x=60000+i * 100\/x=70000+i * 100:=by simpa [kb3] using h
theorem in4 {i x:Nat} (h:x∈kb4 i):x=80000+i * 100:=by simpa [kb4] using h
theorem in5 {t:Am} {i x:Nat} (hl:bB t i<=23) (h:x∈kb5 t i):x=90000+i * 100\/x=100000+i * 100\/x=110000+i * 100\/x=120000+i * 100\/(∃ k,k < 24/\x=130000+i * 100+k)\/x=140000+i * 100\/x=150000+i * 100:=by
 unfold kb5 at h;simp only [zQN,zQB,List.not_mem_nil,or_false,List.mem_map,List.mem_range] at h;rcases h with ((h|h|h|h)|⟨k,hk,rfl⟩)|h|h
 ·exact .inl h
 ·exact .inr (.inl h)
 ·exact .inr (.inr (.inl h))
 ·exact .inr (.inr (.inr (.inl h)))
 ·exact .inr (.inr (.inr (.inr (.inl ⟨k,by omega,rfl⟩))))
 ·exact .inr (.inr (.inr (.inr (.inr (.inl h)))))
 exact .inr (.inr (.inr (.inr (.inr (.inr h)))))
theorem in6 {i x:Nat} (h:x∈kb6 i):x=160000+i * 100\/x=170000+i * 100\/x=180000+i * 100\/x=190000+i * 100\/x=200000+i * 100:=by simpa [kb6] using h
theorem zAB (t:Am) {i:Nat} (hl:bB t i<=23):(kb5 t i).Nodup:=by
 unfold kb5;rw [List.nodup_append,List.nodup_append];refine⟨⟨by simp,?_,λx hx y hy=>?_⟩,by simp,λx hx y hy=>?_⟩
 ·unfold List.Nodup;rw [List.pairwise_map];exact List.pairwise_lt_range.imp λh=>by omega
 ·obtain⟨k,hk,rfl⟩:=List.mem_map.1 hy;rw [List.mem_range] at hk;simp only [zQB,List.not_mem_nil,or_false] at hx;omega
 simp only [zQN,zQB,List.not_mem_nil,or_false,List.mem_map,List.mem_range] at hx hy;rcases hx with hx|⟨k,hk,rfl⟩<;>omega
variable {t:Am}
theorem yC (hC:COk t):(lA t).Nodup:=by
 have hlm:=hC.lim;have hl:=hC.last24;apply qQI (f:=qAC);unfold lA;simp only [List.map_append];rw [tP nm1 qAC kb1 _ λi hi=>key1 i (by omega),tP nm2 qAC kb2 _ λi hi=>key2 i (by omega),tP nm3 qAC kb3 _ λi hi=>key3 i (by omega),tP nm4 qAC kb4 _ λi hi=>key4 i (by omega),tP (nm5 t) qAC (kb5 t) _ ?_,tP nm6 qAC kb6 _ λi hi=>key6 i (by omega)]
 ·have n1 : ((List.range t.Aa.toNat).flatMap kb1).Nodup := qO (fun i hi => by simp [kb1]) fun a b hab hb x hx y hy => by have := in1 hx; have := in1 hy; omega
  have n2:((List.range t.Ae.length).flatMap kb2).Nodup:=qO (λi hi=>by simp [kb2]) λa b hab hb x hx y hy=>by have:=in2 hx;have:=in2 hy;omega
  have n3:((List.range t.Ac.length).flatMap kb3).Nodup:=qO (λi hi=>by simp [kb3]) λa b hab hb x hx y hy=>by have:=in3 hx;have:=in3 hy;omega
  have n4:((List.range t.Ae.length).flatMap kb4).Nodup:=qO (λi hi=>by simp [kb4]) λa b hab hb x hx y hy=>by have:=in4 hx;have:=in4 hy;omega
  have n5:((List.range t.Ac.length).flatMap (kb5 t)).Nodup:=qO (λi hi=>zAB t (hl i)) λa b hab hb x hx y hy=>by
   have h1:=in5 (hl a) hx;have h2:=in5 (hl b) hy;rcases h1 with h1|h1|h1|h1|⟨k,hk,h1⟩|h1|h1<;>rcases h2 with h2|h2|h2|h2|⟨k2,hk2,h2⟩|h2|h2<;>omega
  have n6:((List.range t.Ac.length).flatMap kb6).Nodup:=qO (λi hi=>by simp [kb6]) λa b hab hb x hx y hy=>by have:=in6 hx;have:=in6 hy;omega
  have b1:∀ x∈(List.range t.Aa.toNat).flatMap kb1,x < 20000:=λx hx=>by obtain⟨i,hi,hm⟩:=iS hx;have:=in1 hm;omega
  have b2:∀ x∈(List.range t.Ae.length).flatMap kb2,20000<=x/\x < 40000:=λx hx=>by obtain⟨i,hi,hm⟩:=iS hx;have:=in2 hm;omega
  have b3:∀ x∈(List.range t.Ac.length).flatMap kb3,40000<=x/\x < 80000:=λx hx=>by obtain⟨i,hi,hm⟩:=iS hx;have:=in3 hm;omega
  have b4:∀ x∈(List.range t.Ae.length).flatMap kb4,80000<=x/\x < 90000:=λx hx=>by obtain⟨i,hi,hm⟩:=iS hx;have:=in4 hm;omega
  have b5:∀ x∈(List.range t.Ac.length).flatMap (kb5 t),90000<=x/\x < 160000:=λx hx=>by
   obtain⟨i,hi,hm⟩:=iS hx;have h1:=in5 (hl i) hm;rcases h1 with h1|h1|h1|h1|⟨k,hk,h1⟩|h1|h1<;>omega
  have b6:∀ x∈(List.range t.Ac.length).flatMap kb6,160000<=x:=λx hx=>by obtain⟨i,hi,hm⟩:=iS hx;have:=in6 hm;omega
  have c2:∀ x∈(List.range t.Aa.toNat).flatMap kb1++(List.range t.Ae.length).flatMap kb2,x < 40000:=λx hx=>by
   rcases zQN.1 hx with h|h
   ·have:=b1 x h;omega
   have:=b2 x h;omega
  have m2:((List.range t.Aa.toNat).flatMap kb1++(List.range t.Ae.length).flatMap kb2).Nodup:=List.nodup_append.2 ⟨n1,n2,λx hx y hy=>by have:=b1 x hx;have:=b2 y hy;omega⟩;generalize (List.range t.Aa.toNat).flatMap kb1++(List.range t.Ae.length).flatMap kb2=L2 at c2 m2
  have c3:∀ x∈L2++(List.range t.Ac.length).flatMap kb3,x < 80000:=λx hx=>by
   rcases zQN.1 hx with h|h
   ·have:=c2 x h;omega
   have:=b3 x h;omega
  have m3:(L2++(List.range t.Ac.length).flatMap kb3).Nodup:=List.nodup_append.2 ⟨m2,n3,λx hx y hy=>by have:=c2 x hx;have:=b3 y hy;omega⟩;generalize L2++(List.range t.Ac.length).flatMap kb3=L3 at c3 m3
  have c4:∀ x∈L3++(List.range t.Ae.length).flatMap kb4,x < 90000:=λx hx=>by
   rcases zQN.1 hx with h|h
   ·have:=c3 x h;omega
   have:=b4 x h;omega
  have m4:(L3++(List.range t.Ae.length).flatMap kb4).Nodup:=List.nodup_append.2 ⟨m3,n4,λx hx y hy=>by have:=c3 x hx;have:=b4 y hy;omega⟩;generalize L3++(List.range t.Ae.length).flatMap kb4=L4 at c4 m4
  have c5:∀ x∈L4++(List.range t.Ac.length).flatMap (kb5 t),x < 160000:=λx hx=>by
   rcases zQN.1 hx with h|h
   ·have:=c4 x h;omega
   have:=b5 x h;omega
  have m5:(L4++(List.range t.Ac.length).flatMap (kb5 t)).Nodup:=List.nodup_append.2 ⟨m4,n5,λx hx y hy=>by have:=c4 x hx;have:=b5 y hy;omega⟩;generalize L4++(List.range t.Ac.length).flatMap (kb5 t)=L5 at c5 m5;exact List.nodup_append.2 ⟨m5,n6,λx hx y hy=>by have:=c5 x hx;have:=b6 y hy;omega⟩
 intro i hi
 have h1:(wC i (bB t i)).map qAC=(List.range (bB t i)).map (130000+i * 100+·):=by
  unfold wC
  rw [tP _ qAC (fun k => [130000 + i * 100 + k]) _ (fun k hk => by
   have := hl i
   rw [List.map_cons, List.map_cons, List.map_nil, List.map_nil, keyR i (by omega) k (by omega)]), qEX]
 unfold nm5 kb5;rw [List.map_append,List.map_append,key5 i (by omega),key7 i (by omega),h1]
def wP (L:List BA):List (BA×Int):=L.mapIdx λi x=>(x,(i:Int))
theorem qTG {L:List BA} {j:Nat} {s:BA} {v:Int} (h:(wP L)[j]?=some (s,v)):L[j]?=some s/\v=(j:Int):=by
 unfold wP at h;rw [List.getElem?_mapIdx] at h
 cases e:L[j]? with
 | none=>rw [e] at h;cases h
 | some x=>
  rw [e] at h;simp only [Option.map_some,Option.some.injEq,Prod.mk.injEq] at h;exact⟨by rw [h.1],h.2.symm⟩
theorem qOE (L:List BA):(wP L).map (·.1)=L:=by
 unfold wP;apply List.ext_getElem?;intro i;rw [zQP,List.getElem?_mapIdx];cases L[i]?<;>rfl
theorem qZV (L:List BA) (x:BA):wP (L++[x])=wP L++[(x,(L.length:Int))]:=by
 unfold wP;rw [List.mapIdx_append];simp
theorem zFI {L:List BA} (hn:L.Nodup) {j:Nat} {s:BA} (h:L[j]?=some s):jJ (wP L) s=some (j:Int):=by
 have hm:(wP L)[j]?=some (s,(j:Int)):=by unfold wP;rw [List.getElem?_mapIdx,h];rfl
 cases e:jJ (wP L) s with
 | none=>exact absurd rfl (qAT e _ (zQM hm))
 | some b=>
  obtain⟨k,hk⟩:=qAS e;obtain⟨h1,h2⟩:=qTG hk;rw [h2]
  congr 2
  rw [qN] at hn;have hj:=(zQQ.1 h).1;have hkl:=(zQQ.1 h1).1;rcases Nat.lt_trichotomy k j with hlt|heq|hgt
  ·exact absurd (by rw [h,h1]) (hn k j hlt hj)
  ·exact heq
  exact absurd (by rw [h,h1]) (hn j k hgt hkl)
theorem qZW {L:List BA} {s:BA} (h:s∉L):jJ (wP L) s=none:=by
 cases e:jJ (wP L) s with
 | none=>rfl
 | some b=>
  obtain⟨k,hk⟩:=qAS e;exact absurd (zQM (qTG hk).1) h
theorem qZU {L : List BA} (hn : L.Nodup) (hl : L.length <= 1000000) : aW (ρ := List (BA × Int)) (fun (x10, b11) =>
    if x10 < (L.length : Int) then
     bC L x10 fun e14 =>
     aD (b11.map (·.1)).Nodup <|
     aD (I64 (x10 + (1 : Int))) <|
     some (.inl ((x10 + (1 : Int)), (qQC b11 e14 x10)))
    else
     aY (
      some b11)) ((0 : Int), ([] : List (BA × Int))) = some (wP L) := by
 rw [mR L.length (λk=>wP (L.take k)) (o:=wP L) (by simp [wP]) (by omega) (λk hk=>?_) (by dsimp only;rw [if_neg (by omega),List.take_length];rfl)];have hx:=zQR hk;have hnt:(L.take k).Nodup:=hn.sublist (List.take_sublist k L)
 have hni:L[k]∉L.take k:=λhm=>by
  obtain⟨j,hj,he⟩:=List.mem_take_iff_getElem.1 hm;rw [qN] at hn;exact hn j k (by omega) hk (by rw [hx,zQR (by omega),he])
 dsimp only;rw [if_pos (by omega),aR hx,aB (by rw [qOE];exact hnt),aB (by unfold I64;omega),qSV (qZW hni),List.take_add_one,hx];show some (Sum.inl ((k:Int)+1,wP (L.take k)++[(L[k],(k:Int))]))=some (Sum.inl ((k:Int)+1,wP (L.take k++[L[k]])));rw [qZV,List.length_take,Nat.min_eq_left (by omega)]
variable {t:Am} {b:List Af} {i:Nat}
theorem qIX {β:Type} {f:Nat->List β} {n i j:Nat} {x:β} (hi:i < n) (h:(f i)[j]?=some x):((List.range n).flatMap f)[((List.range i).flatMap f).length+j]?=some x:=by
 induction n with
 | zero=>omega
 | succ n ih=>
  rw [mB];by_cases hin:i < n
  ·have h1:=ih hin;rw [List.getElem?_append_left (zQQ.1 h1).1,h1]
  have : i = n := by omega
  subst this;rw [List.getElem?_append_right (by omega),Nat.add_sub_cancel_left,h]
theorem tY {β:Type} {a c:List β} {j:Nat} {x:β} (h:a[j]?=some x):(a++c)[j]?=some x:=by
 rw [List.getElem?_append_left (zQQ.1 h).1,h]
theorem qYU {β:Type} {a c:List β} {j k:Nat} {x:β} (hk:k=a.length+j) (h:c[j]?=some x):(a++c)[k]?=some x:=by
 rw [List.getElem?_append_right (by omega),hk,Nat.add_sub_cancel_left,h]
theorem p_free {s:Nat} (hs:s < t.Aa.toNat):(lA t)[2 * s]?=some (nmB qRQ s):=by
 unfold lA;have h1:=fC (f:=nm1) (c:=2) (λ_=>rfl) s;have:=qIX (f:=nm1) (j:=0) (x:=nmB qRQ s) hs rfl;rw [h1] at this;exact tY (tY (tY (tY (tY (by simpa using this)))))
theorem p_pnt {p j:Nat} {w:BA} (hp:p < t.Ae.length) (hw:([qBA,vX])[j]?=some w):(lA t)[2 * t.Aa.toNat+2 * p+j]?=some (nmB w p):=by
 unfold lA;have h1:=fC (f:=nm1) (c:=2) (λ_=>rfl) t.Aa.toNat;have h2:=fC (f:=nm2) (c:=2) (λ_=>rfl) p;have:=qIX (f:=nm2) (j:=j) (x:=nmB w p) hp (by unfold nm2;rw [zQP,hw];rfl);rw [h2] at this;exact tY (tY (tY (tY (qYU (j:=2 * p+j) (by rw [h1];omega) this))))
theorem len3 (t:Am):((((List.range t.Aa.toNat).flatMap nm1++(List.range t.Ae.length).flatMap nm2)++(List.range t.Ac.length).flatMap nm3)).length=inN t:=by
 have h1:=fC (f:=nm1) (c:=2) (λ_=>rfl) t.Aa.toNat;have h2:=fC (f:=nm2) (c:=2) (λ_=>rfl) t.Ae.length;have h3:=fC (f:=nm3) (c:=4) (λ_=>rfl) t.Ac.length;simp only [zQL,h1,h2,h3];unfold inN;omega
theorem len4 (t:Am):((((List.range t.Aa.toNat).flatMap nm1++(List.range t.Ae.length).flatMap nm2)++(List.range t.Ac.length).flatMap nm3)++(List.range t.Ae.length).flatMap nm4).length=inN t+t.Ae.length:=by
 have h4:=fC (f:=nm4) (c:=1) (λ_=>rfl) t.Ae.length;rw [zQL,len3,h4];omega
theorem p_lie {p:Nat} (hp:p < t.Ae.length):(lA t)[inN t+p]?=some (nmB qMH p):=by
 unfold lA;have h4:=fC (f:=nm4) (c:=1) (λ_=>rfl) p;have:=qIX (f:=nm4) (j:=0) (x:=nmB qMH p) hp rfl;rw [h4] at this;exact tY (tY (qYU (j:=1 * p+0) (by rw [len3];omega) this))
theorem zHG (hC:COk t) (hi:i < t.Ac.length) {j:Nat} {x:BA} (h:(nm5 t i)[j]?=some x):(lA t)[dR t i+j]?=some x:=by
 unfold lA;have h5:=tO hC i (by omega);have:=qIX hi h;exact tY (qYU (j:=((List.range i).flatMap (nm5 t)).length+j) (by rw [len4];omega) this)
theorem zFB (hC:COk t) (hi:i < t.Ac.length) {k:Nat} {w:BA} (hw:([qBW,mX,rW,rX])[k]?=some w):(lA t)[dR t i+k]?=some (nmB w i):=
 zHG hC hi (by unfold nm5;exact tY (tY (by rw [zQP,hw];rfl)))
theorem p_rel (hC:COk t) (hi:i < t.Ac.length) {k:Nat} (hk:k < bB t i):(lA t)[dR t i+(4+k)]?=some (nmB (wRelD++nL i) k):=
 zHG hC hi (by
  have h1 : wC i (bB t i) = (List.range (bB t i)).map fun k => nmB (wRelD ++ nL i) k := qEX _ _;unfold nm5;rw [h1]
  exact tY (qYU (j := k) (by simp) (by rw [zQP, List.getElem?_range hk]; rfl)))
def pC (w sep:BA) (xs:List Int):BA:=xs.foldl (λb x=>b++(sep++nL x.toNat)) w
def spB:BA:=⟨#[32]⟩
abbrev Low (xs:List Int):Prop:=∀ x∈xs,0<=x/\x < 100
theorem qNT (w sep:BA) (xs:List Int) (x:Int):pC w sep (xs++[x])=pC w sep xs++(sep++nL x.toNat):=by
 unfold pC;rw [List.foldl_append];rfl
theorem qNU {w sep:BA} (hw:w.size<=100) (hs:sep.size<=10):∀ (k:Nat) {xs:List Int},xs.length=k->Low xs->(pC w sep xs).size<=100+20 * k
 | 0,xs,hk,h=>by
  have:=List.length_eq_zero_iff.1 hk;subst this;exact Nat.le_trans hw (by omega)
 | k+1,xs,hk,h=>by
  have hne:xs≠[]:=λhe=>by subst he;simp at hk
  have hx:=List.dropLast_concat_getLast hne;rw [<- hx] at h ⊢;have hl:=h (xs.getLast hne) (by simp);have h1:=qNU hw hs k (xs:=xs.dropLast) (by simp;omega) (λx hm=>h x (by simp [hm]));have h2:=sO (xs.getLast hne).toNat (by omega);rw [qNT,ByteArray.size_append,ByteArray.size_append];omega
theorem qJQ {w sep : BA} {xs : List Int} (hw : w.size <= 100) (hs : sep.size <= 10) (hl : xs.length <= 100) (hx : Low xs) (F : Int -> Option BA) (hF : ∀ i : Nat, i < 100 -> F (i : Int) = some (nL i)) : aW (ρ := BA) (fun (word5, x6) =>
   if x6 < (xs.length : Int) then
    bC xs x6 fun e9 =>
    aC (F e9) fun r10 =>
    aD (sep.size + r10.size <= 9223372036854775807) <|
    aD (word5.size + (sep ++ r10).size <= 9223372036854775807) <|
    aD (I64 (x6 + (1 : Int))) <|
    some (.inl ((word5 ++ (sep ++ r10)), (x6 + (1 : Int))))
   else
    aY (
     some word5)) (w, (0 : Int)) = some (pC w sep xs) := by
 rw [lU (s:=(w,(0:Int))) (λi=>(pC w sep (xs.take i),(i:Int))) xs.length (o:=pC w sep xs) rfl (by omega) ?_ ?_]
 ·intro i hi;have hg:=zQR hi;have hm:=hx _ (List.getElem_mem hi);generalize xs[i]=x at hg hm;have hF:=hF x.toNat (by omega);rw [show ((x.toNat:Nat):Int)=x by omega] at hF;have h1:=qNU hw hs i (xs:=xs.take i) (by simp;omega) (λy hy=>hx y (List.mem_of_mem_take hy));have h2:=sO x.toNat (by omega);dsimp only;rw [if_pos (by omega),aR hg,hF,aA,aB (by omega),aB (by rw [ByteArray.size_append];omega),aB (by unfold I64;omega),List.take_add_one,hg];show _=some (Sum.inl (pC w sep (xs.take i++[x]),((i+1:Nat):Int)));rw [qNT];rfl
 dsimp only;rw [if_neg (by omega),List.take_length];rfl
theorem qRT {w sep:BA} {xs:List Int} (hw:w.size<=100) (hs:sep.size<=10) (hl:xs.length<=100) (hx:Low xs):nS w sep xs=some (pC w sep xs):=by
 unfold nS;rw [qJQ hw hs hl hx lF (λi hi=>qQQ hi),aA]
theorem sL {w:BA} {xs:List Int} (hw:w.size<=100) (hl:xs.length<=100) (hx:Low xs):kO w xs=some (pC w spB xs):=by
 unfold kO;have:=qJQ (sep:=spB) hw (by decide) hl hx nR (λi hi=>qOK i hi);unfold spB at this ⊢;rw [this,aA]
abbrev cl (t:Am) (b:List Af):Av:=⟨t,wP (lA t),b⟩
theorem qJN (hC:COk t) {w:BA} {xs:List Int} {pos:Nat} (hw:w.size<=100) (hl:xs.length<=100) (hx:Low xs) (hp:(lA t)[pos]?=some (pC w qIJ xs)):bL (cl t b) w xs=some (vE (pos:Int)):=by
 unfold bL;have h1:=qRT (w:=w) (sep:=qIJ) hw (by decide) hl hx;unfold qIJ at h1;rw [h1,aA,aB (by rw [qOE];exact yC hC)];have h2:=zFI (yC hC) hp;unfold qIJ at h2;rw [h2];rfl
theorem zEF (w:BA) (i:Nat):pC w qIJ [(i:Int)]=nmB w i:=by
 unfold pC nmB;show w++(qIJ++nL i)=_;rw [ByteArray.append_assoc]
theorem tit2 (i k:Nat):pC qDU qIJ [(i:Int),(k:Int)]=nmB (wRelD++nL i) k:=by
 unfold pC nmB;show (qDU++(qIJ++nL i))++(qIJ++nL k)=_;rw [show wRelD=qDU++qIJ from rfl];simp only [ByteArray.append_assoc]
theorem qNM {x:Int} (h:0<=x/\x < 100):Low [x]:=λy hy=>by
 rw [List.mem_singleton] at hy;subst hy;exact h
theorem low2 {x y:Int} (h:0<=x/\x < 100) (h2:0<=y/\y < 100):Low [x,y]:=λz hz=>by
 simp only [zQB,List.not_mem_nil,or_false] at hz;rcases hz with rfl|rfl
 ·exact h
 exact h2
theorem zFJ {x y z:Int} (h:0<=x/\x < 100) (h2:0<=y/\y < 100) (h3:0<=z/\z < 100):Low [x,y,z]:=λu hu=>by
 simp only [zQB,List.not_mem_nil,or_false] at hu;rcases hu with rfl|rfl|rfl
 ·exact h
 ·exact h2
 exact h3
theorem v_free (hC:COk t) {s:Int} (h0:0<=s) (h1:s < t.Aa):bL (cl t b) ⟨#[102,114,101,101]⟩ [s]=some (fB s):=by
 have hlm:=hC.lim
 have h2 := qJN (b := b) hC (w := qRQ) (xs := [s]) (pos := 2 * s.toNat) (by decide) (by simp) (qNM (by omega)) (by
  rw [show ([s] : List Int) = [((s.toNat : Nat) : Int)] by rw [show ((s.toNat : Nat) : Int) = s by omega], zEF]
  exact p_free (by omega))
 rw [show ((2 * s.toNat:Nat):Int)=2 * s by omega] at h2;exact h2
theorem zHC (hC:COk t) {p:Nat} {j:Nat} {w:BA} (hp:p < t.Ae.length) (hw:([qBA,vX])[j]?=some w) (hsz:w.size<=100):bL (cl t b) w [(p:Int)]=some (vE (2 * t.Aa+2 * (p:Int)+(j:Int))):=by
 have hlm:=hC.lim;have h2:=qJN (b:=b) hC (w:=w) (xs:=[(p:Int)]) hsz (by simp) (qNM (by omega)) (by rw [zEF];exact p_pnt hp hw);rw [show ((2 * t.Aa.toNat+2 * p+j:Nat):Int)=2 * t.Aa+2 * (p:Int)+(j:Int) by omega] at h2;exact h2
theorem v_lie (hC:COk t) {p:Nat} (hp:p < t.Ae.length):bL (cl t b) ⟨#[108,105,101]⟩ [(p:Int)]=some (vE ((inN t:Int)+(p:Int))):=by
 have hlm:=hC.lim;have h2:=qJN (b:=b) hC (w:=qMH) (xs:=[(p:Int)]) (by decide) (by simp) (qNM (by omega)) (by rw [zEF];exact p_lie hp);rw [show ((inN t+p:Nat):Int)=(inN t:Int)+(p:Int) by omega] at h2;exact h2
theorem xG (hC:COk t) (hi:i < t.Ac.length) {k:Nat} {w:BA} (hw:([qBW,mX,rW,rX])[k]?=some w) (hsz:w.size<=100):bL (cl t b) w [(i:Int)]=some (stE t i (k:Int)):=by
 have hlm:=hC.lim;have h2:=qJN (b:=b) hC (w:=w) (xs:=[(i:Int)]) hsz (by simp) (qNM (by omega)) (by rw [zEF];exact zFB hC hi hw);rw [show ((dR t i+k:Nat):Int)=(dR t i:Int)+(k:Int) by omega] at h2;exact h2
theorem zAU (hC:COk t) (hi:i < t.Ac.length) {k:Nat} (hk:k < bB t i):bL (cl t b) ⟨#[114,101,108]⟩ [(i:Int),(k:Int)]=some (kZ t i (k:Int)):=by
 have hlm:=hC.lim;have h24:=hC.last24 i;have h2:=qJN (b:=b) hC (w:=qDU) (xs:=[(i:Int),(k:Int)]) (by decide) (by simp) (low2 (by omega) (by omega)) (by rw [tit2];exact p_rel hC hi hk);rw [show ((dR t i+(4+k):Nat):Int)=(dR t i:Int)+(4+(k:Int)) by omega] at h2;exact h2
def wS (t:Am) (i:Nat):Ad:=orE [stE t i 0,stE t i 1,stE t i 2,stE t i 3]
def mS (t:Am) (i k:Nat):Ad:=if k=bB t i then wS t i else fG [wS t i,eY (kZ t i (k:Int))]
theorem xB (hC:COk t) (hi:i < t.Ac.length):dQ (cl t b) (i:Int)=some (wS t i):=by
 unfold dQ;have h0:=xG (b:=b) hC hi (k:=0) (w:=qBW) rfl (by decide);have h1:=xG (b:=b) hC hi (k:=1) (w:=mX) rfl (by decide);have h2:=xG (b:=b) hC hi (k:=2) (w:=rW) rfl (by decide);have h3:=xG (b:=b) hC hi (k:=3) (w:=rX) rfl (by decide);unfold qBW at h0;unfold mX at h1;unfold rW at h2;unfold rX at h3;rw [h0,aA,h1,aA,h2,aA,h3,aA];rfl
theorem qJC (hC:COk t) {r:Aj} (hr:t.Ac[i]?=some r) {k:Nat} (hk:k < r.Aa.length):dW (cl t b) (i:Int) (k:Int)=some (mS t i k):=by
 have hi:=(zQQ.1 hr).1;have hs:=hC.secs (zQM hr);have hln:bB t i=r.Aa.length - 1:=by unfold bB;rw [hr]
 unfold dW mS;dsimp only;rw [aR hr,aB (by unfold I64;omega)];by_cases hl:k=bB t i
 ·rw [if_pos (by omega), if_pos hl, xB hC hi];rfl
 rw [if_neg (by omega), if_neg hl, xB hC hi, aA, zAU hC hi (by omega), aA];rfl
theorem qOS {e:Ad} {w:BA} {xs:List Int} (hw:w.size<=100) (hl:xs.length<=100) (hx:Low xs) (hb:b.length<=1000000):eJ (cl t b) e w xs=some (cl t (b++[⟨pC w spB xs,e⟩])):=by
 unfold eJ;have h1:=qRT (w:=w) (sep:=spB) hw (by decide) hl hx;unfold spB at h1 ⊢;rw [h1,aA,aB (by simp;omega)]
theorem mV (hC:COk t) (hi:i < t.Ac.length) {k:Int} (h0:0<=k) (h1:k<=1000):gU t (i:Int) k=some (stE t i k):=by
 have hb:=hC.base i;have hlm:=hC.lim;unfold gU uN
 rw [wM hC, aA, aR (e := (dR t i : Int)) (by
  unfold nN
  rw [zQP, List.getElem?_range hi]; rfl), aB (by unfold I64; omega), aA]
theorem qJ (hC:COk t) (hi:i < t.Ac.length):lG t (i:Int)=some (wS t i):=by
 unfold lG;rw [mV hC hi (by omega) (by omega),aA,mV hC hi (by omega) (by omega),aA,mV hC hi (by omega) (by omega),aA,mV hC hi (by omega) (by omega),aA];rfl
theorem qBG (hC:COk t) {r:Aj} (hr:t.Ac[i]?=some r) {k:Nat} (hk:k < r.Aa.length):jU t (i:Int) (k:Int)=some (mS t i k):=by
 have hi:=(zQQ.1 hr).1;have hs:=hC.secs (zQM hr);have hln:bB t i=r.Aa.length - 1:=by unfold bB;rw [hr]
 unfold jU mS;rw [aB (by unfold I64;omega),aR hr];by_cases hl:k=bB t i
 ·rw [if_pos (by omega), if_pos hl, qJ hC hi];rfl
 rw [if_neg (by omega), if_neg hl, qJ hC hi, aA, aB (by unfold I64; omega), mV hC hi (by omega) (by omega), aA];rfl
theorem qGH (l:List Int) (x:Int) (h:Cnt l):nG l x=some (gH (cZ l x)):=by
 unfold Cnt at h;unfold nG;rw [wQ (ρ:=Unit ⊕ Int) l (λy=>y == x) (λi=>.inr (i:Int)) (.inl ()) (by omega) (λi e he=>?_) (by rw [if_neg (by omega)];rfl)]
 ·unfold cZ gH;cases l.findIdx? (λy=>y == x)<;>rfl
 have hi:=(zQQ.1 he).1;rw [if_pos (by omega),aR he,aB (bD hi (by omega))];by_cases hx:e=x
 ·rw [if_pos hx,if_pos (by simp [hx])];rfl
 rw [if_neg hx,if_neg (by simpa using hx)]
variable {t:Am} {b:List Af} {i:Nat}
theorem yD {β ρ:Type} (f:Nat->List β) (pre:List β) (s0 n:Nat) {F:Int×List β->Option ((Int×List β) ⊕ ρ)} {o:ρ} (hn:n<=9223372036854775807) (hF:∀ j,j < n->F (((s0+j:Nat):Int),pre++(List.range j).flatMap f)=some (.inl (((s0+j+1:Nat):Int),(pre++(List.range j).flatMap f)++f j)))
  (he:F (((s0+n:Nat):Int),pre++(List.range n).flatMap f)=some (.inr o)):aW F ((s0:Int),pre)=some o:=by
 refine lU (λi=>(((s0+i:Nat):Int),pre++(List.range i).flatMap f)) n (by simp) hn (λi hi=>?_) he;rw [hF i hi,List.range_succ,List.flatMap_append,List.append_assoc];simp [Nat.add_assoc]
def qRO:BA:=⟨#[112,97,116,104]⟩
def qRP:BA:=⟨#[111,118,101,114]⟩
def qA (t:Am) (a c:Nat) (q:Aj) (s:Int) (x:Nat):List Af:=match cZ q.Aa s with
 | some k=>[⟨pC qRO spB [(a:Int),(c:Int),s],eY (fG [mS t a x,mS t c k])⟩]
 | none=>[]
def rZ (t:Am) (a c:Nat):List Af:=rt t (λ_ r=>rt t (λ_ q=>(List.range r.Aa.length).flatMap λx=>qA t a c q (oY r x) x) c) a
def yT (t:Am) (a:Nat):List Af:=(List.range (t.Ac.length - (a+1))).flatMap λj=>rZ t a (a+1+j)
def oL (t:Am):List Af:=(List.range t.Ac.length).flatMap (yT t)
def qB (t:Am) (a c:Nat) (q:Aj) (s:Int):List Af:=match cZ q.Aa s with
 | some k=>[⟨pC qRP spB [(a:Int),(c:Int),s],eY (fG [wS t a,mS t c k])⟩]
 | none=>[]
def mQ (t:Am) (a c:Nat):List Af:=rt t (λ_ r=>rt t (λ_ q=>if a=c\/iY r q=true then [] else (List.range r.Ah.length).flatMap λx=>qB t a c q (r.Ah.getD x 0)) c) a
def qL (t:Am):List Af:=(List.range t.Ac.length).flatMap λa=>(List.range t.Ac.length).flatMap (mQ t a)
theorem qGL (a c:Nat) (q:Aj) (s:Int) (x:Nat):(qA t a c q s x).length<=1:=by unfold qA;split<;>simp
theorem qGN (a c:Nat) (q:Aj) (s:Int):(qB t a c q s).length<=1:=by unfold qB;split<;>simp
theorem qFU {α:Type} {f:Nat->Aj->List α} {c:Nat} (h:∀ (i:Nat) (r:Aj),t.Ac[i]?=some r->(f i r).length<=c) (i:Nat):(rt t f i).length<=c:=by
 unfold rt
 cases e:t.Ac[i]? with
 | none=>simp
 | some r=>exact h i r e
theorem qGK (hC:COk t) (a c:Nat):(rZ t a c).length<=24:=by
 unfold rZ;refine qFU (λi r hr=>qFU (λj q hq=>?_) c) a;have h1:=hC.sec24 (zQM hr);have:=dC (f:=λx=>qA t a c q (oY r x) x) (c:=1) (λx=>qGL _ _ _ _ _) r.Aa.length;omega
theorem qVW (hC:COk t) {r:Aj} (hr:r∈t.Ac):r.Ah.length<=200:=by
 have:=hC.sum r hr;unfold rP at this;omega
theorem qGM (hC:COk t) (a c:Nat):(mQ t a c).length<=200:=by
 unfold mQ;refine qFU (λi r hr=>qFU (λj q hq=>?_) c) a;have h1:=qVW hC (zQM hr);split
 ·simp
 have := dC (f := fun x => qB t a c q (r.Ah.getD x 0)) (c := 1) (fun x => qGN _ _ _ _) r.Ah.length;omega
theorem qZQ (hC:COk t) (a:Nat):(yT t a).length<=24 * 48:=by
 have hlm:=hC.lim;unfold yT;have:=dC (f:=λj=>rZ t a (a+1+j)) (c:=24) (λj=>qGK hC _ _) (t.Ac.length - (a+1));have h2:24 * (t.Ac.length - (a+1))<=24 * 48:=Nat.mul_le_mul_left _ (by omega);omega
theorem qZR (hC:COk t) (a:Nat):((List.range t.Ac.length).flatMap (mQ t a)).length<=200 * 48:=by
 have hlm:=hC.lim;have:=dC (f:=mQ t a) (c:=200) (λj=>qGM hC _ _) t.Ac.length;omega
theorem qK (hC:COk t) (n:Nat) (hn:n<=48):((List.range n).flatMap (yT t)).length<=60000:=by
 have:=dC (f:=yT t) (c:=24 * 48) (λj=>qZQ hC _) n;have h2:24 * 48 * n<=24 * 48 * 48:=Nat.mul_le_mul_left _ hn;omega
theorem tN (hC:COk t) (n:Nat) (hn:n<=48):((List.range n).flatMap λa=>(List.range t.Ac.length).flatMap (mQ t a)).length<=500000:=by
 have:=dC (f:=λa=>(List.range t.Ac.length).flatMap (mQ t a)) (c:=200 * 48) (λj=>qZR hC _) n;have h2:200 * 48 * n<=200 * 48 * 48:=Nat.mul_le_mul_left _ hn;omega
theorem qXT (hC:COk t) {r:Aj} (hr:r∈t.Ac) {k:Nat} (hk:k < r.Ah.length):r.Ah[k]?=some (r.Ah.getD k 0)/\0<=r.Ah.getD k 0/\r.Ah.getD k 0 < t.Aa:=by
 have h1:r.Ah.getD k 0=r.Ah[k]:=by rw [zQD,zQR hk];rfl
 have h2:=hC.sec_in hr (s:=r.Ah[k]) (List.mem_append_right _ (List.getElem_mem hk));rw [h1];exact⟨zQR hk,h2⟩
theorem qBP (hC:COk t) {r:Aj} (hr:r∈t.Ac):Cnt r.Aa:=by
 have:=hC.sec24 hr;unfold Cnt;omega
theorem zGI (hC:COk t) (hb:b.length<=100000):gL (cl t b)=some (cl t (b++oL t)):=by
 have hlm:=hC.lim;unfold gL;dsimp only;rw [cV (yT t) b t.Ac.length (by omega) (λa ha=>?_) (by dsimp only;rw [if_neg (by omega)];rfl)]
 ·rfl
 have hB := qK hC a (by omega);have hBl:(b++(List.range a).flatMap (yT t)).length<=160000:=by rw [zQL];omega
 generalize b++(List.range a).flatMap (yT t)=B at hBl;have hra:=zQR ha;have hrm:=List.getElem_mem ha;generalize hr:t.Ac[a]=r at hra hrm;dsimp only;rw [if_pos (by omega),aB (by unfold I64;omega),show ((a:Int)+1)=((a+1:Nat):Int) by omega];rw [yD (λj=>rZ t a (a+1+j)) B (a+1) (t.Ac.length - (a+1)) (by omega) (λj hj=>?_) (by dsimp only;rw [if_neg (by omega)];rfl),aA]
 ·rw [aB (by unfold I64; omega)];rfl
 have hB2 := dC (f := fun j => rZ t a (a + 1 + j)) (c := 24) (fun j => qGK hC _ _) j;have h24:24 * j<=24 * 48:=Nat.mul_le_mul_left _ (by omega);have hB3:(B++(List.range j).flatMap λj=>rZ t a (a+1+j)).length<=170000:=by rw [zQL];omega
 generalize (B++(List.range j).flatMap λj=>rZ t a (a+1+j))=B2 at hB3;obtain⟨c,hc⟩:∃ c,c=a+1+j:=⟨_,rfl⟩;have hcl:c < t.Ac.length:=by omega
 rw [<- hc];have hqc:=zQR hcl;have hqm:=List.getElem_mem hcl;generalize t.Ac[c]=q at hqc hqm;dsimp only;have hs24:=hC.sec24 hrm;rw [if_pos (by omega),aR hra,cV (λx=>qA t a c q (oY r x) x) B2 r.Aa.length (by omega) (λx hx=>?_) (by dsimp only;rw [if_neg (by omega)];rfl),aA,aB (by unfold I64;omega)]
 ·have hp2:rZ t a c=(List.range r.Aa.length).flatMap λx=>qA t a c q (oY r x) x:=by
   unfold rZ;rw [rY hra,rY hqc]
  rw [hp2];rfl
 have hB4 := dC (f := fun x => qA t a c q (oY r x) x) (c := 1) (fun x => qGL _ _ _ _ _) x;have hB5:(B2++(List.range x).flatMap λx=>qA t a c q (oY r x) x).length<=180000:=by rw [zQL];omega
 generalize (B2++(List.range x).flatMap λx=>qA t a c q (oY r x) x)=B6 at hB5;obtain⟨hsx,hs0,hs1⟩:=uX hC hrm hx;generalize hsd:oY r x=s at hsx hs0 hs1;dsimp only;rw [if_pos (by omega),aR hsx,aR hqc,rN _ _ (qBP hC hqm),aA];unfold qA
 cases hk:cZ q.Aa s with
 | none=>
  rw [if_neg (by simp [gH]),aB (by unfold I64;omega),List.append_nil]
 | some k=>
  obtain⟨_,_,_,hkl⟩:=pO hk;have h1:=qJC (b:=B6) hC hra hx;have h2:=qJC (b:=B6) hC hqc hkl;rw [if_pos (by simp [gH]),h1,aA];show aC (dW (cl t B6) (c:Int) (k:Int)) _=_;have h3:=qOS (t:=t) (b:=B6) (e:=eY (fG [mS t a x,mS t c k])) (w:=qRO) (xs:=[(a:Int),(c:Int),s]) (by decide) (by simp) (zFJ (by omega) (by omega) (by omega)) (by omega);unfold qRO at h3;rw [h2,aA];show aC (some (fG [mS t a x,mS t c k])) _=_;rw [aA];show aC (some (eY (fG [mS t a x,mS t c k]))) _=_;rw [aA,h3,aA,aB (by unfold I64;omega)];rfl
theorem zGJ (hC:COk t) (hb:b.length<=200000):fN (cl t b)=some (cl t (b++qL t)):=by
 have hlm:=hC.lim;unfold fN;dsimp only;rw [cV (λa=>(List.range t.Ac.length).flatMap (mQ t a)) b t.Ac.length (by omega) (λa ha=>?_) (by dsimp only;rw [if_neg (by omega)];rfl)]
 ·rfl
 have hB := tN hC a (by omega);have hBl:(b++(List.range a).flatMap λa=>(List.range t.Ac.length).flatMap (mQ t a)).length<=700000:=by rw [zQL];omega
 generalize (b++(List.range a).flatMap λa=>(List.range t.Ac.length).flatMap (mQ t a))=B at hBl;have hra:=zQR ha;have hrm:=List.getElem_mem ha;generalize hr:t.Ac[a]=r at hra hrm;have ho24:=qVW hC hrm;dsimp only;rw [if_pos (by omega),aR hra,cV (mQ t a) B t.Ac.length (by omega) (λc hcl=>?_) (by dsimp only;rw [if_neg (by omega)];rfl),aA,aB (by unfold I64;omega)];have hB2:=dC (f:=mQ t a) (c:=200) (λj=>qGM hC _ _) c;have hB3:(B++(List.range c).flatMap (mQ t a)).length<=710000:=by rw [zQL];omega
 generalize (B++(List.range c).flatMap (mQ t a))=B2 at hB3;have hqc:=zQR hcl;have hqm:=List.getElem_mem hcl;generalize t.Ac[c]=q at hqc hqm;dsimp only
 have hp2:mQ t a c=if a=c\/iY r q=true then [] else (List.range r.Ah.length).flatMap λx=>qB t a c q (r.Ah.getD x 0):=by
  unfold mQ;rw [rY hra,rY hqc]
 rw [hp2,if_pos (by omega),aR hqc]
 have hsk:(if ((a:Int))=(c:Int) then some true else aC (gO r q) λr24=>some r24)=some (decide (a=c\/iY r q=true)):=by
  by_cases hac:a=c
  ·rw [if_pos (by omega),decide_eq_true (.inl hac)]
  rw [if_neg (by omega), show gO r q = some (iY r q) from rfl, aA]
  congr 1
  rw [Bool.eq_iff_iff,decide_eq_true_eq];exact⟨.inr,λh=>h.resolve_left hac⟩
 rw [hsk,aA];by_cases hh:a=c\/iY r q=true
 ·rw [if_pos (decide_eq_true hh),if_pos hh,aA,aB (by unfold I64;omega),List.append_nil]
 rw [if_neg (by simpa using hh), if_neg hh, cV (fun x => qB t a c q (r.Ah.getD x 0)) B2 r.Ah.length (by omega) (fun x hx => ?_) (by dsimp only; rw [if_neg (by omega)]; rfl), aA, aB (by unfold I64; omega)];have hB4:=dC (f:=λx=>qB t a c q (r.Ah.getD x 0)) (c:=1) (λx=>qGN _ _ _ _) x;have hB5:(B2++(List.range x).flatMap λx=>qB t a c q (r.Ah.getD x 0)).length<=720000:=by rw [zQL];omega
 generalize (B2++(List.range x).flatMap λx=>qB t a c q (r.Ah.getD x 0))=B6 at hB5;obtain⟨hsx,hs0,hs1⟩:=qXT hC hrm hx;generalize hsd:r.Ah.getD x 0=s at hsx hs0 hs1;dsimp only;rw [if_pos (by omega),aR hsx,rN _ _ (qBP hC hqm),aA];unfold qB
 cases hk:cZ q.Aa s with
 | none=>
  rw [if_neg (by simp [gH]),aB (by unfold I64;omega),List.append_nil]
 | some k=>
  obtain⟨_,_,_,hkl⟩:=pO hk;have h1:=xB (b:=B6) hC ha;have h2:=qJC (b:=B6) hC hqc hkl;rw [if_pos (by simp [gH]),h1,aA];show aC (dW (cl t B6) (c:Int) (k:Int)) _=_;have h3:=qOS (t:=t) (b:=B6) (e:=eY (fG [wS t a,mS t c k])) (w:=qRP) (xs:=[(a:Int),(c:Int),s]) (by decide) (by simp) (zFJ (by omega) (by omega) (by omega)) (by omega);unfold qRP at h3;rw [h2,aA];show aC (some (fG [wS t a,mS t c k])) _=_;rw [aA];show aC (some (eY (fG [wS t a,mS t c k]))) _=_;rw [aA,h3,aA,aB (by unfold I64;omega)];rfl
theorem qZN (hC:COk t):rE t=some (oL t++qL t):=by
 have hlm:=hC.lim;unfold rE;rw [cV (yT t) [] t.Ac.length (by omega) (λa ha=>?_) (by dsimp only;rw [if_neg (by omega)];rfl),aA]
 ·rw [List.nil_append];have hPl:=qK hC t.Ac.length (by omega);unfold oL qL;generalize (List.range t.Ac.length).flatMap (yT t)=P at hPl;rw [cV (λa=>(List.range t.Ac.length).flatMap (mQ t a)) P t.Ac.length (by omega) (λa ha=>?_) (by dsimp only;rw [if_neg (by omega)];rfl),aA];have hB:=tN hC a (by omega);have hBl:(P++(List.range a).flatMap λa=>(List.range t.Ac.length).flatMap (mQ t a)).length<=700000:=by rw [zQL];omega
  generalize (P++(List.range a).flatMap λa=>(List.range t.Ac.length).flatMap (mQ t a))=B at hBl;have hra:=zQR ha;have hrm:=List.getElem_mem ha;generalize hr:t.Ac[a]=r at hra hrm;have ho24:=qVW hC hrm;dsimp only;rw [if_pos (by omega),aR hra,cV (mQ t a) B t.Ac.length (by omega) (λc hcl=>?_) (by dsimp only;rw [if_neg (by omega)];rfl),aA,aB (by unfold I64;omega)];have hB2:=dC (f:=mQ t a) (c:=200) (λj=>qGM hC _ _) c;have hB3:(B++(List.range c).flatMap (mQ t a)).length<=710000:=by rw [zQL];omega
  generalize (B++(List.range c).flatMap (mQ t a))=B2 at hB3;have hqc:=zQR hcl;have hqm:=List.getElem_mem hcl;generalize t.Ac[c]=q at hqc hqm;dsimp only
  have hp2:mQ t a c=(List.range r.Ah.length).flatMap λx=>if a=c\/iY r q=true then [] else qB t a c q (r.Ah.getD x 0):=by
   unfold mQ;rw [rY hra,rY hqc];split
   ·simp
   rfl
  rw [hp2,if_pos (by omega),aR hqc,cV (λx=>if a=c\/iY r q=true then [] else qB t a c q (r.Ah.getD x 0)) B2 r.Ah.length (by omega) (λx hx=>?_) (by dsimp only;rw [if_neg (by omega)];rfl),aA,aB (by unfold I64;omega)];have hB4:=dC (f:=λx=>if a=c\/iY r q=true then [] else qB t a c q (r.Ah.getD x 0)) (c:=1) (λx=>by by_cases hh:a=c\/iY r q=true<;>simp [hh,qGN]) x;have hB5:(B2++(List.range x).flatMap λx=>if a=c\/iY r q=true then [] else qB t a c q (r.Ah.getD x 0)).length<=720000:=by rw [zQL];omega
  generalize (B2++(List.range x).flatMap λx=>if a=c\/iY r q=true then [] else qB t a c q (r.Ah.getD x 0))=B6 at hB5;obtain⟨hsx,hs0,hs1⟩:=qXT hC hrm hx;generalize hsd:r.Ah.getD x 0=s at hsx hs0 hs1;dsimp only;rw [if_pos (by omega),aR hsx,qGH _ _ (qBP hC hqm),aA]
  have hsk:(if ((a:Int))=(c:Int) then some false else aC (jM r q) λr81=>if (!(r81))=true then some (decide ((0:Int)<=gH (cZ q.Aa s))) else some false)=some (!decide (a=c\/iY r q=true)&&(cZ q.Aa s).isSome):=by
   by_cases hac:a=c
   ·rw [if_pos (by omega),decide_eq_true (.inl hac)];rfl
   rw [if_neg (by omega), show jM r q = some (iY r q) from rfl, aA]
   cases hfq:iY r q with
   | true=>simp
   | false=>cases cZ q.Aa s<;>simp [gH,hac]
  rw [hsk,aA];by_cases hh:a=c\/iY r q=true
  ·rw [if_pos hh,decide_eq_true hh,if_neg (by simp),aB (by unfold I64;omega),List.append_nil]
  rw [if_neg hh,decide_eq_false hh];unfold qB
  cases hk:cZ q.Aa s with
  | none=>rw [if_neg (by simp),aB (by unfold I64;omega),List.append_nil]
  | some k=>
   obtain⟨_,_,_,hkl⟩:=pO hk;have h3:=sL (w:=qRP) (xs:=[(a:Int),(c:Int),s]) (by decide) (by simp) (zFJ (by omega) (by omega) (by omega));unfold qRP at h3;rw [if_pos (by simp),h3,aA,qJ hC ha,aA];show aC (jU t (c:Int) (k:Int)) _=_;rw [qBG hC hqc hkl,aA];show aC (some (fG [wS t a,mS t c k])) _=_;rw [aA];show aC (some (eY (fG [wS t a,mS t c k]))) _=_;rw [aA,aB (by simp;omega),aB (by unfold I64;omega)];rfl
 have hB := qK hC a (by omega);have hBl:(([]:List Af)++(List.range a).flatMap (yT t)).length<=160000:=by rw [List.nil_append];omega
 generalize ([]:List Af)++(List.range a).flatMap (yT t)=B at hBl;have hra:=zQR ha;have hrm:=List.getElem_mem ha;generalize hr:t.Ac[a]=r at hra hrm;dsimp only;rw [if_pos (by omega),aR hra,aB (by unfold I64;omega),show ((a:Int)+1)=((a+1:Nat):Int) by omega];rw [yD (λj=>rZ t a (a+1+j)) B (a+1) (t.Ac.length - (a+1)) (by omega) (λj hj=>?_) (by dsimp only;rw [if_neg (by omega)];rfl),aA]
 ·rw [aB (by unfold I64; omega)];rfl
 have hB2 := dC (f := fun j => rZ t a (a + 1 + j)) (c := 24) (fun j => qGK hC _ _) j;have h24:24 * j<=24 * 48:=Nat.mul_le_mul_left _ (by omega);have hB3:(B++(List.range j).flatMap λj=>rZ t a (a+1+j)).length<=170000:=by rw [zQL];omega
 generalize (B++(List.range j).flatMap λj=>rZ t a (a+1+j))=B2 at hB3;obtain⟨c,hc⟩:∃ c,c=a+1+j:=⟨_,rfl⟩;have hcl:c < t.Ac.length:=by omega
 rw [<- hc];have hqc:=zQR hcl;have hqm:=List.getElem_mem hcl;generalize t.Ac[c]=q at hqc hqm;dsimp only;have hs24:=hC.sec24 hrm;rw [if_pos (by omega),cV (λx=>qA t a c q (oY r x) x) B2 r.Aa.length (by omega) (λx hx=>?_) (by dsimp only;rw [if_neg (by omega)];rfl),aA,aB (by unfold I64;omega)]
 ·have hp2:rZ t a c=(List.range r.Aa.length).flatMap λx=>qA t a c q (oY r x) x:=by
   unfold rZ;rw [rY hra,rY hqc]
  rw [hp2];rfl
 have hB4 := dC (f := fun x => qA t a c q (oY r x) x) (c := 1) (fun x => qGL _ _ _ _ _) x;have hB5:(B2++(List.range x).flatMap λx=>qA t a c q (oY r x) x).length<=180000:=by rw [zQL];omega
 generalize (B2++(List.range x).flatMap λx=>qA t a c q (oY r x) x)=B6 at hB5;obtain⟨hsx,hs0,hs1⟩:=uX hC hrm hx;generalize hsd:oY r x=s at hsx hs0 hs1;dsimp only;rw [if_pos (by omega),aR hsx,aR hqc,qGH _ _ (qBP hC hqm),aA];unfold qA
 cases hk:cZ q.Aa s with
 | none=>
  rw [if_neg (by simp [gH]),aB (by unfold I64;omega),List.append_nil]
 | some k=>
  obtain⟨_,_,_,hkl⟩:=pO hk;have h3:=sL (w:=qRO) (xs:=[(a:Int),(c:Int),s]) (by decide) (by simp) (zFJ (by omega) (by omega) (by omega));unfold qRO at h3;rw [if_pos (by simp [gH]),h3,aA,qBG hC hra hx,aA];show aC (jU t (c:Int) (k:Int)) _=_;rw [qBG hC hqc hkl,aA];show aC (some (fG [mS t a x,mS t c k])) _=_;rw [aA];show aC (some (eY (fG [mS t a x,mS t c k]))) _=_;rw [aA,aB (by simp;omega),aB (by unfold I64;omega)];rfl
variable {t:Am} {b:List Af} {i:Nat}
def qRG (t:Am) (i:Nat) (r:Aj) (x:Ag):Ad:=if x∈r.Ar\/x∈r.Az then wS t i else match cZ r.Aa (pQ t x.el) with
 | some k=>mS t i k
 | none=>wS t i
def zCU (t:Am) (i:Nat) (r:Aj) (x:Ag):Af:=⟨pC qMH spB [(i:Int),mA t x.el],orE [eY (qRG t i r x),qER t x]⟩
def tR (t:Am) (i:Nat):List Af:=rt t (λi r=>(fF (dU r)).map (zCU t i r)) i
def qCM (t:Am):List Af:=(List.range t.Ac.length).flatMap (tR t)
theorem zBF (ht:t.Wf) {r:Aj} (hr:r∈t.Ac):(∀ s∈r.Ar,Ag.ok s)/\(∀ s∈r.Az,Ag.ok s)/\(∀ s∈fF (dU r),Ag.ok s):=by
 have h:=qFN ht r hr;refine⟨λs hs=>h s (by simp [dU,hs]),λs hs=>h s (by simp [dU,hs]),λs hs=>h s ?_⟩;have:=ascS_mem.1 hs;simpa [dU] using this
theorem qUI (hC:COk t) {r:Aj} (hr:r∈t.Ac):Cnt r.Ar/\Cnt r.Az/\(fF (dU r)).length<=200:=by
 have hsum:=hC.sum r hr;unfold rP at hsum;have hal:=mE (dU r);have hal2:(dU r).length<=200:=by simp only [dU,zQL];omega
 unfold Cnt;omega
theorem zAA (hC:COk t) (i:Nat):(tR t i).length<=200:=by
 unfold tR;refine qFU (λi r hr=>?_) i;rw [zQC];exact (qUI hC (zQM hr)).2.2
theorem zBS (l:List Ag) (x:Ag) (h:Cnt l) (hx:Ag.ok x) (ho:∀ s∈l,Ag.ok s):wG l x=some (decide (x∈l)):=by
 unfold wG;unfold Cnt at h;rw [kW l (λy=>decide (y=x)) (.inr true) (.inl ()) h (λk e he=>?_) (by rw [if_neg (by omega)];rfl)]
 ·have:(l.any λy=>decide (y=x))=decide (x∈l):=by
   rw [Bool.eq_iff_iff,zQU];simp
  rw [this];cases decide (x∈l)<;>rfl
 have hi:=(zQQ.1 he).1;rw [if_pos (by omega),aR he,aB ⟨ho e (zQM he),hx⟩];by_cases hz:e=x
 ·rw [if_pos hz,if_pos (decide_eq_true hz)];rfl
 rw [if_neg hz,aB (bD hi h),if_neg (by simpa using hz)]
theorem zGK (hC:COk t) (ht:t.Wf) {r:Aj} (hr:t.Ac[i]?=some r) {x:Ag} (hx:x∈fF (dU r)):gM (cl t b) (i:Int) x=some (qRG t i r x):=by
 have hi:=(zQQ.1 hr).1;have hm:=zQM hr;have hlm:=hC.lim;obtain⟨o1,o2,o3⟩:=zBF ht hm;obtain⟨n1,n2,n3⟩:=qUI hC hm;obtain⟨p,hp1,hp2,hp3,hp4,hp5⟩:=hC.home hm hx;unfold gM qRG;dsimp only;rw [aR hr,oR t _ (by unfold Cnt;omega),aA,show gH (cZ t.Ae x.el)=(p:Int) from hp1,aR hp3,rN _ _ (qBP hC hm),aA,pF _ _ n1 (o3 x hx) o1,aA,pF _ _ n2 (o3 x hx) o2]
 cases hk:cZ r.Aa (pQ t x.el) with
 | none=>
  rw [if_pos (by simp [gH]),aA,if_pos rfl];show aC (dQ (cl t b) (i:Int)) _=_;rw [xB hC hi,aA];split<;>rfl
 | some k=>
  obtain⟨_,_,_,hkl⟩:=pO hk;rw [if_neg (by simp [gH])];by_cases h1:x∈r.Ar
  ·rw [if_pos (decide_eq_true h1),aA,if_pos rfl];show aC (dQ (cl t b) (i:Int)) _=_;rw [xB hC hi,aA,if_pos (.inl h1)]
  rw [if_neg (by simpa using h1), aA, aA];by_cases h2:x∈r.Az
  ·rw [if_pos (decide_eq_true h2)];show aC (dQ (cl t b) (i:Int)) _=_;rw [xB hC hi,aA,if_pos (.inr h2)]
  rw [if_neg (by simpa using h2)];show aC (dW (cl t b) (i:Int) (k:Int)) _=_;rw [qJC hC hr hkl,aA,if_neg (by simp [h1,h2])]
theorem qZO (hC:COk t) (ht:t.Wf) {r:Aj} (hr:t.Ac[i]?=some r) {x:Ag} (hx:x∈fF (dU r)):oS t (i:Int) x=some (qRG t i r x):=by
 have hi:=(zQQ.1 hr).1;have hm:=zQM hr;have hlm:=hC.lim;obtain⟨o1,o2,o3⟩:=zBF ht hm;obtain⟨n1,n2,n3⟩:=qUI hC hm;obtain⟨p,hp1,hp2,hp3,hp4,hp5⟩:=hC.home hm hx;unfold oS qRG;rw [aR hr,oN t _ (by unfold Cnt;omega),aA,show gH (cZ t.Ae x.el)=(p:Int) from hp1,aR hp3,qGH _ _ (qBP hC hm),aA,zBS _ _ n1 (o3 x hx) o1,aA,zBS _ _ n2 (o3 x hx) o2];by_cases h1:x∈r.Ar
 ·rw [if_pos (decide_eq_true h1),aA,if_pos rfl,qJ hC hi,aA,if_pos (.inl h1)]
 rw [if_neg (by simpa using h1), aA];by_cases h2:x∈r.Az
 ·rw [if_pos (decide_eq_true h2),aA,if_pos rfl,qJ hC hi,aA,if_pos (.inr h2)]
 rw [if_neg (by simpa using h2), aA, if_neg (show ¬ (x ∈ r.Ar \/ x ∈ r.Az) by simp [h1, h2])]
 cases hk:cZ r.Aa (pQ t x.el) with
 | none=>
  rw [if_pos (by simp [gH]),qJ hC hi,aA]
 | some k=>
  obtain⟨_,_,_,hkl⟩:=pO hk;rw [if_neg (by rw [decide_eq_false (by simp only [gH];omega)];simp)];show aC (jU t (i:Int) (k:Int)) _=_;rw [qBG hC hr hkl,aA]
theorem c_lies (hC:COk t) (ht:t.Wf) {r:Aj} (hr:t.Ac[i]?=some r) (hb:b.length<=900000):hJ (cl t b) (i:Int)=some (cl t (b++tR t i)):=by
 have hi:=(zQQ.1 hr).1;have hm:=zQM hr;have hlm:=hC.lim;obtain⟨n1,n2,n3⟩:=qUI hC hm;unfold hJ tR;dsimp only;rw [rY hr,aR hr,hC.sok ht hm,aA,fV (fF (dU r)) (λ_ x=>zCU t i r x) b (by omega) (λx s B hx hB=>?_) (by dsimp only;rw [if_neg (by omega)];rfl),fQ];have hx':=(zQQ.1 hx).1;have hmem:=zQM hx;obtain⟨p,hp1,hp2,hp3,hp4,hp5⟩:=hC.home hm hmem;dsimp only;rw [if_pos (by omega),aR hx,oR t _ (by unfold Cnt;omega),aA,show gH (cZ t.Ae s.el)=(p:Int) from hp1];show aC (bL (cl t B) ⟨#[108,105,101]⟩ [(p:Int)]) _=_;rw [v_lie hC hp2,aA,<- hp1];have h3 (e:Ad):=qOS (t:=t) (b:=B) (e:=e) (w:=qMH) (xs:=[(i:Int),mA t s.el]) (by decide) (by simp) (low2 (by omega) (by omega)) (by omega);unfold qMH at h3
 have tail (e:Ad):(aC (gM (cl t B) (i:Int) s) λr19=>aC (iR r19) λr20=>aC (oW [r20,e]) λr21=>aC (eJ (cl t B) r21 ⟨#[108,105,101]⟩ [(i:Int),mA t s.el]) λr22=>aD (I64 ((x:Int)+1)) <| (some (.inl ((x:Int)+1,r22.list)):Option ((Int×List Af) ⊕ Av)))=some (.inl ((x:Int)+1,B++[⟨pC ⟨#[108,105,101]⟩ spB [(i:Int),mA t s.el],orE [eY (qRG t i r s),e]⟩])):=by
  rw [zGK hC ht hr hmem,aA,show ∀ e,iR e=some (eY e) from λ_=>rfl,aA,show ∀ l,oW l=some (orE l) from λ_=>rfl,aA,h3,aA,aB (bD hx' (by omega))]
 unfold zCU qER;by_cases h1:s.pos=1
 ·rw [if_pos h1, if_pos h1, show ∀ e, iR e = some (eY e) from fun _ => rfl, aA, aA];exact tail _
 rw [if_neg h1,if_neg h1,aA];exact tail _
theorem wT (hC:COk t) (n:Nat) (hn:n<=48):((List.range n).flatMap (tR t)).length<=9600:=by
 have:=dC (f:=tR t) (c:=200) (λj=>zAA hC _) n;have h2:200 * n<=200 * 48:=Nat.mul_le_mul_left _ hn;omega
theorem zCE (hC:COk t) (ht:t.Wf):tD t=some (qCM t):=by
 have hlm:=hC.lim;unfold tD;rw [cV (tR t) [] t.Ac.length (by omega) (λi hi=>?_) (by dsimp only;rw [if_neg (by omega)];rfl),aA]
 ·rw [List.nil_append];rfl
 have hB := wT hC i (by omega);have hBl:(([]:List Af)++(List.range i).flatMap (tR t)).length<=9600:=by rw [List.nil_append];omega
 generalize ([]:List Af)++(List.range i).flatMap (tR t)=b at hBl;have hr:=zQR hi;have hm:=List.getElem_mem hi;generalize t.Ac[i]=r at hr hm;obtain⟨n1,n2,n3⟩:=qUI hC hm;dsimp only;rw [if_pos (by omega),aR hr,lR r (hC.ok.each r hm),aA,fV (fF (dU r)) (λ_ x=>zCU t i r x) b (by omega) (λx s B hx hB=>?_) (by dsimp only;rw [if_neg (by omega)];rfl),fQ,aA,aB (by unfold I64;omega)]
 ·unfold tR;rw [rY hr]
 have hx':=(zQQ.1 hx).1;have hmem:=zQM hx;obtain⟨p,hp1,hp2,hp3,hp4,hp5⟩:=hC.home hm hmem;have hin:=yH t;have hbs:=hC.base 0;rw [yO] at hbs;dsimp only;rw [if_pos (by omega),aR hx,oN t _ (by unfold Cnt;omega),aA,wM hC,aA,show gH (cZ t.Ae s.el)=mA t s.el from rfl];dsimp only;rw [aB (by unfold I64;omega)];show aC (some (vE ((inN t:Int)+mA t s.el))) _=_;rw [aA];have h3:=sL (w:=qMH) (xs:=[(i:Int),mA t s.el]) (by decide) (by simp) (low2 (by omega) (by omega));unfold qMH at h3
 have tail (e:Ad):(aC (oS t (i:Int) s) λr33=>aC (kU r33) λr34=>aC (rF [r34,e]) λr35=>aD ((B++([(⟨pC ⟨#[108,105,101]⟩ spB [(i:Int),mA t s.el],r35⟩:Af)]:List Af)).length<=1000000000) <| aD (I64 ((x:Int)+1)) <| (some (.inl ((x:Int)+1,B++([(⟨pC ⟨#[108,105,101]⟩ spB [(i:Int),mA t s.el],r35⟩:Af)]:List Af))):Option ((Int×List Af) ⊕ List Af)))=some (.inl ((x:Int)+1,B++[⟨pC ⟨#[108,105,101]⟩ spB [(i:Int),mA t s.el],orE [eY (qRG t i r s),e]⟩])):=by
  rw [qZO hC ht hr hmem,aA,show ∀ e,kU e=some (eY e) from λ_=>rfl,aA,show ∀ l,rF l=some (orE l) from λ_=>rfl,aA,aB (by simp;omega),aB (bD hx' (by omega))]
 unfold zCU qER;by_cases h1:s.pos=1
 ·rw [if_pos h1, if_pos h1, show ∀ e, kU e = some (eY e) from fun _ => rfl, aA, aA];dsimp only;rw [h3,aA];exact tail _
 rw [if_neg h1,if_neg h1,aA];dsimp only;rw [h3,aA];exact tail _
def qAZ:BA:=⟨#[112,114,111,118,101,100]⟩
def prE (t:Am) (i:Nat) (r:Aj):Ad:=orE [eY (stE t i 1),tM t r]
theorem zDN (hC:COk t) (ht:t.Wf) {r:Aj} (hr:t.Ac[i]?=some r) (hb:b.length<=900000):fZ (cl t b) (i:Int)=some (cl t (b++[⟨pC qAZ spB [(i:Int)],prE t i r⟩])):=by
 have hi:=(zQQ.1 hr).1;have hm:=zQM hr;have hlm:=hC.lim;have hsum:=hC.sum r hm;unfold rP at hsum;obtain⟨n1,n2,n3⟩:=qUI hC hm;unfold fZ;dsimp only;rw [aR hr,qBO _ ⟨by simp,by simp;omega⟩,aA];have hfl:[r.Aa,r.Ah].flatten=r.Aa++r.Ah:=by simp
 have hcl:(r.Aa++r.Ah).length<=200:=by rw [zQL];omega
 rw [hfl,fV (r.Aa++r.Ah) (λ_ s=>fB s) [] (by omega) (λx s B hx hB=>?_) (by dsimp only;rw [if_neg (by omega)];rfl),aA]
 ·rw [hC.sok ht hm, aA, fV (fF (dU r)) (fun _ s => qNE t s) _ (by omega) (fun x s B hx hB => ?_) (by dsimp only; rw [if_neg (by omega)]; rfl), aA]
  ·rw [fQ,fQ,List.nil_append];have h1:=xG (b:=b) hC hi (k:=1) (w:=mX) rfl (by decide);unfold mX at h1;have h3:=qOS (t:=t) (b:=b) (e:=prE t i r) (w:=qAZ) (xs:=[(i:Int)]) (by decide) (by simp) (qNM (by omega)) (by omega);unfold qAZ at h3;rw [h1,aA];show aC (some (eY (stE t i 1))) _=_;rw [aA];show aC (some (tM t r)) _=_;rw [aA];show aC (some (prE t i r)) _=_;rw [aA,h3,aA];rfl
  have hx':=(zQQ.1 hx).1;have hmem:=zQM hx;have hsi:=hC.set_in hm hmem;obtain⟨p,hp1,hp2,hp3,hp4,hp5⟩:=hC.home hm hmem;simp only [List.nil_append,List.length_mapIdx] at hB;dsimp only;rw [if_pos (by omega),aR hx];unfold qNE;by_cases h2:s.pos=2
  ·rw [if_pos h2, aA, oR t _ (by unfold Cnt; omega), aA, show gH (cZ t.Ae s.el) = (p : Int) from hp1, if_pos h2];have h4:=zHC (b:=b) hC (p:=p) (j:=1) (w:=vX) hp2 rfl (by decide);unfold vX at h4;rw [h4,aA,aB (by simp;omega),aB (bD hx' (by omega)),hp1];rfl
  rw [if_neg h2, aA, oR t _ (by unfold Cnt; omega), aA, show gH (cZ t.Ae s.el) = (p : Int) from hp1, if_neg h2];have h4:=zHC (b:=b) hC (p:=p) (j:=0) (w:=qBA) hp2 rfl (by decide);unfold qBA at h4;rw [h4,aA,aB (by simp;omega),aB (bD hx' (by omega)),hp1];rfl
 have hx':=(zQQ.1 hx).1;have hs:=hC.sec_in hm (zQM hx);simp only [List.length_nil,Nat.zero_add] at hB;dsimp only;rw [if_pos (by omega),aR hx,v_free (b:=b) hC hs.1 hs.2,aA,aB (by simp;omega),aB (bD hx' (by omega))]
theorem qVS (hC:COk t) (ht:t.Wf) {r:Aj} (hr:t.Ac[i]?=some r):pG t (i:Int)=some (prE t i r):=by
 have hi:=(zQQ.1 hr).1;have hm:=zQM hr;have hlm:=hC.lim;have hsum:=hC.sum r hm;unfold rP at hsum;obtain⟨n1,n2,n3⟩:=qUI hC hm;unfold pG;rw [aR hr,fV r.Aa (λ_ s=>fB s) [] (by omega) (λx s B hx hB=>?_) (by dsimp only;rw [if_neg (by omega)];rfl),aA,fQ,List.nil_append]
 ·rw [fV r.Ah (fun _ s => fB s) _ (by omega) (fun x s B hx hB => ?_) (by dsimp only; rw [if_neg (by omega)]; rfl), aA, fQ, <- List.map_append]
  ·rw [lR r (hC.ok.each r hm),aA];have hP:((r.Aa++r.Ah).map fB).length<=200:=by simp only [zQC,zQL];omega
   unfold prE tM;generalize (r.Aa++r.Ah).map fB=P at hP;rw [fV (fF (dU r)) (λ_ s=>qNE t s) _ (by omega) (λx s B hx hB=>?_) (by dsimp only;rw [if_neg (by omega)];rfl),fQ,aA,mV hC hi (by omega) (by omega),aA]
   ·rfl
   have hx':=(zQQ.1 hx).1;have hsi:=hC.set_in hm (zQM hx);have hid:gH (cZ t.Ae s.el)=mA t s.el:=rfl;dsimp only;rw [if_pos (by omega),aR hx,wM hC,aA,oN t _ (by unfold Cnt;omega),aA,hid];dsimp only;rw [aB (by unfold I64;omega),aB (by unfold I64;omega),aB (by unfold I64;omega),aB (by unfold I64;omega)];show aC (some (vE (2 * t.Aa+2 * mA t s.el+s.pos - 1))) _=_;rw [aA,aB (by simp;omega),aB (bD hx' (by omega))];unfold qNE;have hk:s.pos - 1=(if s.pos=2 then (1:Int) else 0):=by split<;>omega
   rw [<- hk,show 2 * t.Aa+2 * mA t s.el+s.pos - 1=2 * t.Aa+2 * mA t s.el+(s.pos - 1) by omega]
  have hx':=(zQQ.1 hx).1;have hs:=hC.sec_in hm (List.mem_append_right _ (zQM hx));simp only [zQC] at hB;dsimp only;rw [if_pos (by omega),aR hx,aB (by unfold I64;omega)];show aC (some (fB s)) _=_;rw [aA,aB (by simp;omega),aB (bD hx' (by omega))]
 have hx':=(zQQ.1 hx).1;have hs:=hC.sec_in hm (List.mem_append_left _ (zQM hx));simp only [List.length_nil,Nat.zero_add] at hB;dsimp only;rw [if_pos (by omega),aR hx,aB (by unfold I64;omega)];show aC (some (fB s)) _=_;rw [aA,aB (by simp;omega),aB (bD hx' (by omega))]
def qZA:BA:=⟨#[111,110,101]⟩
def yU (t:Am) (i a:Nat):List Ad:=(List.range a).map λ(c:Nat)=>eY (fG [stE t i (a:Int),stE t i (c:Int)])
def qTB (t:Am) (i:Nat):Ad:=fG ((List.range 4).flatMap (yU t i))
def stW:List BA:=[qBW,mX,rW,rX]
theorem stW_sz:∀ w∈stW,w.size<=100:=by decide
theorem zBC {a:Nat} (ha:a < 4):∃ w,stW[a]?=some w/\w.size<=100:=by
 have h:stW[a]?=some (stW[a]'(by exact ha)):=zQR _;exact⟨_,h,stW_sz _ (List.getElem_mem _)⟩
theorem qKR (t:Am) (i a:Nat) (ha:a<=4):((List.range a).flatMap (yU t i)).length<=100:=by
 induction a with
 | zero=>simp
 | succ a ih=>
  suffices h:∀ k,k<=4->((List.range k).flatMap (yU t i)).length<=10 * k by have:=h (a+1) ha;omega
  intro k
  induction k with
  | zero=>intro _;simp
  | succ k ihk=>
   intro hk;have:=ihk (by omega);rw [mB,zQL];have:(yU t i k).length=k:=by unfold yU;simp
   omega
theorem c_one (hC:COk t) (hi:i < t.Ac.length) (hb:b.length<=900000):iI (cl t b) (i:Int)=some (cl t (b++[⟨pC qZA spB [(i:Int)],qTB t i⟩])):=by
 have hlm:=hC.lim;unfold iI;dsimp only;rw [cV (yU t i) [] 4 (by omega) (λa ha=>?_) (by dsimp only;rw [if_neg (by omega)];rfl),aA,List.nil_append]
 ·show aC (some (qTB t i)) _=_;have h3:=qOS (t:=t) (b:=b) (e:=qTB t i) (w:=qZA) (xs:=[(i:Int)]) (by decide) (by simp) (qNM (by omega)) (by omega);unfold qZA at h3;rw [aA,h3,aA];rfl
 have hB := qKR t i a (by omega);have hBl:(([]:List Ad)++(List.range a).flatMap (yU t i)).length<=100:=by rw [List.nil_append];omega
 generalize ([]:List Ad)++(List.range a).flatMap (yU t i)=B at hBl;obtain⟨w,hw,hwz⟩:=zBC ha;have hsub:sub stW 0 (a:Int)=stW.take a:=by unfold sub;simp
 have hsl:(stW.take a).length=a:=by rw [List.length_take];show min a 4=a;omega
 dsimp only;rw [if_pos (by omega)]
 show aC (bC stW (a : Int) fun e12 => aD (0 <= (0 : Int) /\ (0 : Int) <= (a : Int) /\ (a : Int) <= 4) <|
    aW (fun (x17, b18) =>
     if x17 < ((sub stW (0 : Int) (a : Int)).length : Int) then
      bC (sub stW (0 : Int) (a : Int)) x17 fun e21 =>
      aC (bL (cl t b) e12 ([(i : Int)] : List Int)) fun r22 =>
      aC (bL (cl t b) e21 ([(i : Int)] : List Int)) fun r23 =>
      aC (lO ([r22, r23] : List Ad)) fun r24 =>
      aC (iR r24) fun r25 =>
      aD ((b18 ++ ([r25] : List Ad)).length <= 1000000000) <|
      aD (I64 (x17 + (1 : Int))) <|
      some (.inl ((x17 + (1 : Int)), (b18 ++ ([r25] : List Ad))))
     else
      aY (
       some b18)) ((0 : Int), B)) _ = _
 rw [aR hw,aB (by omega),hsub,hsl,qBJ a (λ(c:Nat)=>eY (fG [stE t i (a:Int),stE t i (c:Int)])) B (by omega) (λc B2 hc hB2=>?_) (by dsimp only;rw [if_neg (by omega)];rfl),aA,aB (by unfold I64;omega)]
 ·rfl
 obtain ⟨w2, hw2, hw2z⟩ := zBC (a := c) (by omega);have hw3:(stW.take a)[c]?=some w2:=by rw [List.getElem?_take_of_lt hc,hw2]
 dsimp only;rw [if_pos (by omega),aR hw3,xG (b:=b) hC hi hw hwz,aA,xG (b:=b) hC hi hw2 hw2z,aA];show aC (some (fG [stE t i (a:Int),stE t i (c:Int)])) _=_;rw [aA];show aC (some (eY (fG [stE t i (a:Int),stE t i (c:Int)]))) _=_;rw [aA,aB (by simp;omega),aB (by unfold I64;omega)]
theorem zEU (hC:COk t) (hi:i < t.Ac.length):wF t (i:Int)=some (qTB t i):=by
 have hlm:=hC.lim;unfold wF;rw [cV (yU t i) [] 4 (by omega) (λa ha=>?_) (by dsimp only;rw [if_neg (by omega)];rfl),aA,List.nil_append]
 ·rfl
 have hB := qKR t i a (by omega);have hBl:(([]:List Ad)++(List.range a).flatMap (yU t i)).length<=100:=by rw [List.nil_append];omega
 generalize ([]:List Ad)++(List.range a).flatMap (yU t i)=B at hBl;dsimp only;rw [if_pos (by omega),qBJ a (λ(c:Nat)=>eY (fG [stE t i (a:Int),stE t i (c:Int)])) B (by omega) (λc B2 hc hB2=>?_) (by dsimp only;rw [if_neg (by omega)];rfl),aA,aB (by unfold I64;omega)]
 ·rfl
 dsimp only;rw [if_pos (by omega),mV hC hi (by omega) (by omega),aA,mV hC hi (by omega) (by omega),aA];show aC (some (fG [stE t i (a:Int),stE t i (c:Int)])) _=_;rw [aA];show aC (some (eY (fG [stE t i (a:Int),stE t i (c:Int)]))) _=_;rw [aA,aB (by simp;omega),aB (by unfold I64;omega)]
def tC (t:Am) (i:Nat) (j:Nat):List Ad:=[orE [eY (kZ t i ((1+j:Nat):Int)),kZ t i (j:Int)]]
def qSH (t:Am) (i:Nat):Ad:=fG ((List.range (bB t i - 1)).flatMap (tC t i))
theorem c_rels (hC:COk t) {r:Aj} (hr:t.Ac[i]?=some r) (hb:b.length<=900000):gZ (cl t b) (i:Int)=some (cl t (b++[⟨pC qDU spB [(i:Int)],qSH t i⟩])):=by
 have hi:=(zQQ.1 hr).1;have hlm:=hC.lim;have hs:=hC.secs (zQM hr);have hln:bB t i=r.Aa.length - 1:=by unfold bB;rw [hr]
 have h24:=hC.last24 i;unfold gZ;dsimp only;rw [show (1:Int)=((1:Nat):Int) from rfl,yD (tC t i) [] 1 (bB t i - 1) (by omega) (λj hj=>?_) (by dsimp only;rw [aR hr,aB (by unfold I64;omega),if_neg (by omega)];rfl),aA,List.nil_append]
 ·show aC (some (qSH t i)) _=_;have h3:=qOS (t:=t) (b:=b) (e:=qSH t i) (w:=qDU) (xs:=[(i:Int)]) (by decide) (by simp) (qNM (by omega)) (by omega);unfold qDU at h3;rw [aA,h3,aA];rfl
 have hB := dC (f := tC t i) (c := 1) (fun _ => by simp [tC]) j;have hBl:(([]:List Ad)++(List.range j).flatMap (tC t i)).length<=100:=by rw [List.nil_append];omega
 generalize ([]:List Ad)++(List.range j).flatMap (tC t i)=B at hBl;dsimp only;rw [aR hr,aB (by unfold I64;omega),if_pos (by omega)];rw [zAU (b:=b) hC hi (k:=1+j) (by omega),aA];show aC (some (eY (kZ t i ((1+j:Nat):Int)))) _=_;rw [aA,aB (by unfold I64;omega),show (((1+j:Nat):Int) - ((1:Nat):Int))=(j:Int) by omega,zAU (b:=b) hC hi (k:=j) (by omega),aA];show aC (some (orE [eY (kZ t i ((1+j:Nat):Int)),kZ t i (j:Int)])) _=_;rw [aA,aB (by simp;omega),aB (by unfold I64;omega)];rfl
theorem zET (hC:COk t) {r:Aj} (hr:t.Ac[i]?=some r):wE t (i:Int)=some (qSH t i):=by
 have hi:=(zQQ.1 hr).1;have hlm:=hC.lim;have hs:=hC.secs (zQM hr);have hln:bB t i=r.Aa.length - 1:=by unfold bB;rw [hr]
 have h24:=hC.last24 i;unfold wE;rw [show (1:Int)=((1:Nat):Int) from rfl,yD (tC t i) [] 1 (bB t i - 1) (by omega) (λj hj=>?_) (by dsimp only;rw [aB (by unfold I64;omega),aR hr,if_neg (by omega)];rfl),aA,List.nil_append]
 ·rfl
 have hB := dC (f := tC t i) (c := 1) (fun _ => by simp [tC]) j;have hBl:(([]:List Ad)++(List.range j).flatMap (tC t i)).length<=100:=by rw [List.nil_append];omega
 generalize ([]:List Ad)++(List.range j).flatMap (tC t i)=B at hBl;dsimp only;rw [aB (by unfold I64;omega),aR hr,if_pos (by omega),aB (by unfold I64;omega),mV hC hi (by omega) (by omega),aA];show aC (some (eY (kZ t i ((1+j:Nat):Int)))) _=_;rw [aA,aB (by unfold I64;omega),mV hC hi (by omega) (by omega),aA];show aC (some (orE [eY (kZ t i ((1+j:Nat):Int)),stE t i (3+((1+j:Nat):Int))])) _=_;rw [aA,aB (by simp;omega)]
 have h6:stE t i (3+((1+j:Nat):Int))=kZ t i (j:Int):=by
  show vE ((dR t i:Int)+(3+((1+j:Nat):Int)))=vE ((dR t i:Int)+(4+(j:Int)));rw [show (dR t i:Int)+(3+((1+j:Nat):Int))=(dR t i:Int)+(4+(j:Int)) by omega]
 unfold tC;rw [h6,aB (by unfold I64;omega)];rfl
variable {t:Am}
theorem qJU {l:List Ag} (h:iE t l=true):l.length<=t.Ae.length:=by
 unfold iE at h;rw [allB_iff] at h
 have h1:∀ c a,a < c->c < l.length->(l.getD a ⟨0,0⟩).el < (l.getD c ⟨0,0⟩).el:=by
  intro c
  induction c with
  | zero=>intro a ha;omega
  | succ c ih=>
   intro a hac hc;have h2:=h (c+1) hc;unfold qDX at h2;have h3:=(of_decide_eq_true h2).2.2.2 (by omega);rw [Nat.add_sub_cancel] at h3;by_cases hh:a=c
   ·rw [hh];exact h3
   have:=ih a (by omega) (by omega);omega
 have hn:(l.map (·.el)).Nodup:=by
  rw [qN];intro a c hac hc he;rw [zQC] at hc;have:=h1 c a hac hc;rw [zQP,zQP] at he;rw [zQD,zQD,zQR hc,zQR (show a < l.length by omega)] at this;rw [zQR hc,zQR (show a < l.length by omega)] at he;simp only [Option.map_some,Option.some.injEq] at he;simp only [Option.getD_some] at this;omega
 have hsub:l.map (·.el)⊆t.Ae:=λx hx=>by
  obtain⟨s,hs,rfl⟩:=List.mem_map.1 hx;obtain⟨i,hi⟩:=List.getElem?_of_mem hs;have hil:=(zQQ.1 hi).1;have h2:=h i hil;unfold qDX at h2;have h3:=(of_decide_eq_true h2).1;rw [zQD,hi,Option.getD_some,qLE] at h3;exact of_decide_eq_true h3
 have:=List.Nodup.length_le_of_subset hn hsub
 rwa [zQC] at this
theorem zBG {l:List Int} (h:qHL t l=true) (hs:t.Aa<=24):l.length<=24:=by
 unfold qHL at h;rw [allB_iff] at h
 have hn:(l.map Int.toNat).Nodup:=by
  rw [qN];intro a c hac hcl;rw [zQC] at hcl;have h3:=h c hcl;have h4:=h a (by omega);rw [xM (zQR hcl)] at h3;rw [xM (zQR (show a < l.length by omega))] at h4;unfold inB at h3 h4;simp only [zQA,Bool.not_eq_true',decide_eq_false_iff_not,decide_eq_true_eq] at h3 h4;rw [zQP,zQP,zQR hcl,zQR (show a < l.length by omega)];simp only [Option.map_some];intro he;have he2:=Option.some.inj he;have:l[a]=l[c]:=by omega
  exact h3.2 (by rw [<- this];exact List.mem_take_iff_getElem.2 ⟨a,by omega,rfl⟩)
 have hsub:l.map Int.toNat⊆List.range 24:=by
  intro x hx;obtain⟨s,hs2,rfl⟩:=List.mem_map.1 hx;obtain⟨i,hi⟩:=List.getElem?_of_mem hs2;have h3:=h i (zQQ.1 hi).1;rw [xM hi] at h3;unfold inB at h3;simp only [zQA,decide_eq_true_eq] at h3;rw [List.mem_range];omega
 have h5:=List.Nodup.length_le_of_subset hn hsub;simp only [zQC,List.length_range] at h5;exact h5
theorem zI (h:gI t=0):qCW t=true:=by
 obtain⟨h1,h2,h3,h4,h5⟩:=oX h;unfold qIH at h1;have h1:=of_decide_eq_true h1;unfold qCW;rw [zQA,zQT];refine⟨λr hr=>?_,decide_eq_true (by omega)⟩;obtain⟨hR,hS⟩:=h3 r hr;unfold nF qYA at hR;unfold rQ at hS;simp only [zQA,decide_eq_true_eq] at hR hS;have e1:=qJU hS.1.1;have e2:=qJU hS.1.2;have e3:=qJU hS.2;have e4:=zBG hR.1.1.2 (by omega);rw [zQL] at e4;apply decide_eq_true;unfold rP;omega
theorem qKB (h:TOk t) (hz:gI t=0):COk t:=by
 obtain⟨hT,h1,h2,h3⟩:=qBC (zI hz);exact⟨h,h1,h2,h3,hz⟩
theorem zFY (h:TOk t) (ht:t.Wf):kD t=some (if gI t=0 then if 2000 < mP t then (⟨[],0,[]⟩,2) else (prgT t,0) else (⟨[],0,[]⟩,gI t)):=by
 by_cases hz:gI t=0
 ·exact qWY h ht (zI hz)
 unfold kD mD;rw [qUJ t h,aA,if_neg hz,aA,if_neg hz];dsimp only;rw [if_neg hz]
theorem zBY (h:TOk t) (ht:t.Wf):lL t=some (if gI t=0 then if 2000 < mP t then (⟨[],0,[]⟩,2) else (prgX t,0) else (⟨[],0,[]⟩,gI t)):=by
 by_cases hz:gI t=0
 ·exact qUV h ht (zI hz)
 unfold lL;rw [qLS t h,aA,if_neg hz,if_neg hz]
def mK (t:Am) (i:Nat):List Af:=rt t (λi r=>[⟨pC qAZ spB [(i:Int)],prE t i r⟩]) i
def uE (t:Am) (i:Nat):List Af:=[⟨pC qZA spB [(i:Int)],qTB t i⟩]
def qDZ (t:Am) (i:Nat):List Af:=[⟨pC qDU spB [(i:Int)],qSH t i⟩]
def qQH (t:Am):List Af:=(((oL t++qL t++qCM t)++(List.range t.Ac.length).flatMap (mK t))++(List.range t.Ac.length).flatMap (uE t))++(List.range t.Ac.length).flatMap (qDZ t)
theorem tL (i:Nat):(mK t i).length<=1:=qFU (λ_ _ _=>by simp) i
theorem All_eq (h:TOk t) (ht:t.Wf):qM t=some (if gI t=0 then if 2000 < mP t then ([],2) else (qQH t,0) else ([],gI t)):=by
 unfold qM;rw [zFY h ht,aA];by_cases hz:gI t=0
 ·have hC:=qKB h hz;have hlm:=hC.lim;rw [if_pos hz,if_pos hz];by_cases ha:2000 < mP t
  ·rw [if_pos ha,if_pos ha];rfl
  rw [if_neg ha,if_neg ha];dsimp only;have hnl:=qWE hC;rw [if_pos rfl,qZU (yC hC) (by omega),aA];show aC (gL (cl t [])) _=_;rw [zGI hC (by simp),aA,List.nil_append];have hPl:=qK hC t.Ac.length (by omega);have hOl:=tN hC t.Ac.length (by omega);have hLl:=wT hC t.Ac.length (by omega);show aC (fN (cl t (oL t))) _=_;rw [zGJ hC (by unfold oL;omega),aA];have h1:(oL t++qL t).length<=560000:=by unfold oL qL;rw [zQL];omega
  unfold qQH;have hlie:(oL t++qL t++qCM t).length<=570000:=by unfold qCM;rw [zQL];omega
  dsimp only;generalize oL t++qL t=A at h1 hlie;rw [cV (tR t) A t.Ac.length (by omega) (λi hi=>?_) (by dsimp only;rw [if_neg (by omega)];rfl),aA]
  ·rw [show (List.range t.Ac.length).flatMap (tR t)=qCM t from rfl];generalize A++qCM t=A at hlie;rw [cV (mK t) A t.Ac.length (by omega) (λi hi=>?_) (by dsimp only;rw [if_neg (by omega)];rfl),aA]
   ·have hpl:=dC (f:=mK t) (c:=1) tL t.Ac.length;have h2:(A++(List.range t.Ac.length).flatMap (mK t)).length<=571000:=by rw [zQL];omega
    generalize A++(List.range t.Ac.length).flatMap (mK t)=A2 at h2;rw [cV (uE t) A2 t.Ac.length (by omega) (λi hi=>?_) (by dsimp only;rw [if_neg (by omega)];rfl),aA]
    ·have hpl2 := dC (f := uE t) (c := 1) (fun _ => by simp [uE]) t.Ac.length;have h3:(A2++(List.range t.Ac.length).flatMap (uE t)).length<=572000:=by rw [zQL];omega
     generalize A2++(List.range t.Ac.length).flatMap (uE t)=A3 at h3;rw [cV (qDZ t) A3 t.Ac.length (by omega) (λi hi=>?_) (by dsimp only;rw [if_neg (by omega)];rfl),aA];have hpl3:=dC (f:=qDZ t) (c:=1) (λ_=>by simp [qDZ]) i;have h4:(A3++(List.range i).flatMap (qDZ t)).length<=573000:=by rw [zQL];omega
     generalize A3++(List.range i).flatMap (qDZ t)=B at h4;dsimp only;rw [if_pos (by omega)];show aC (gZ (cl t B) (i:Int)) _=_;rw [c_rels hC (zQR hi) (by omega),aA,aB (by unfold I64;omega)];rfl
    have hpl3 := dC (f := uE t) (c := 1) (fun _ => by simp [uE]) i;have h4:(A2++(List.range i).flatMap (uE t)).length<=573000:=by rw [zQL];omega
    generalize A2++(List.range i).flatMap (uE t)=B at h4;dsimp only;rw [if_pos (by omega)];show aC (iI (cl t B) (i:Int)) _=_;rw [c_one hC hi (by omega),aA,aB (by unfold I64;omega)];rfl
   have hpl3:=dC (f:=mK t) (c:=1) tL i;have h4:(A++(List.range i).flatMap (mK t)).length<=573000:=by rw [zQL];omega
   generalize A++(List.range i).flatMap (mK t)=B at h4;dsimp only;rw [if_pos (by omega)];show aC (fZ (cl t B) (i:Int)) _=_;have hr:=zQR hi;rw [zDN hC ht hr (by omega),aA,aB (by unfold I64;omega)];unfold mK;rw [rY hr]
  have hpl3 := wT hC i (by omega);have h4:(A++(List.range i).flatMap (tR t)).length<=573000:=by rw [zQL];omega
  generalize A++(List.range i).flatMap (tR t)=B at h4;dsimp only;rw [if_pos (by omega)];show aC (hJ (cl t B) (i:Int)) _=_;have hr:=zQR hi;rw [c_lies hC ht hr (by omega),aA,aB (by unfold I64;omega)]
 rw [if_neg hz,if_neg hz];dsimp only;rw [if_neg hz]
theorem zGW (h:TOk t) (ht:t.Wf):wH t=some (if gI t=0 then if 2000 < mP t then ([],2) else (qQH t,0) else ([],gI t)):=by
 unfold wH;rw [zBY h ht,aA];by_cases hz:gI t=0
 ·have hC:=qKB h hz;have hlm:=hC.lim;rw [if_pos hz,if_pos hz];by_cases ha:2000 < mP t
  ·rw [if_pos ha,if_pos ha];rfl
  rw [if_neg ha,if_neg ha];dsimp only;have hPl:=qK hC t.Ac.length (by omega);have hOl:=tN hC t.Ac.length (by omega);have hLl:=wT hC t.Ac.length (by omega);have h1:(oL t++qL t).length<=560000:=by unfold oL qL;rw [zQL];omega
  have hlie:(oL t++qL t++qCM t).length<=570000:=by unfold qCM;rw [zQL];omega
  rw [if_pos rfl,qZN hC,aA,zCE hC ht,aA,aB (by omega)];unfold qQH;generalize oL t++qL t++qCM t=A at hlie;rw [cV (mK t) A t.Ac.length (by omega) (λi hi=>?_) (by dsimp only;rw [if_neg (by omega)];rfl),aA]
  ·have hpl:=dC (f:=mK t) (c:=1) tL t.Ac.length;have h2:(A++(List.range t.Ac.length).flatMap (mK t)).length<=571000:=by rw [zQL];omega
   generalize A++(List.range t.Ac.length).flatMap (mK t)=A2 at h2;rw [cV (uE t) A2 t.Ac.length (by omega) (λi hi=>?_) (by dsimp only;rw [if_neg (by omega)];rfl),aA]
   ·have hpl2 := dC (f := uE t) (c := 1) (fun _ => by simp [uE]) t.Ac.length;have h3:(A2++(List.range t.Ac.length).flatMap (uE t)).length<=572000:=by rw [zQL];omega
    generalize A2++(List.range t.Ac.length).flatMap (uE t)=A3 at h3;rw [cV (qDZ t) A3 t.Ac.length (by omega) (λi hi=>?_) (by dsimp only;rw [if_neg (by omega)];rfl),aA];have hpl3:=dC (f:=qDZ t) (c:=1) (λ_=>by simp [qDZ]) i;have h4:(A3++(List.range i).flatMap (qDZ t)).length<=573000:=by rw [zQL];omega
    generalize A3++(List.range i).flatMap (qDZ t)=B at h4;have h5:=sL (w:=qDU) (xs:=[(i:Int)]) (by decide) (by simp) (qNM (by omega));unfold qDU at h5;dsimp only;rw [if_pos (by omega),h5,aA,zET hC (zQR hi),aA,aB (by simp;omega),aB (by unfold I64;omega)];rfl
   have hpl3 := dC (f := uE t) (c := 1) (fun _ => by simp [uE]) i;have h4:(A2++(List.range i).flatMap (uE t)).length<=573000:=by rw [zQL];omega
   generalize A2++(List.range i).flatMap (uE t)=B at h4;have h5:=sL (w:=qZA) (xs:=[(i:Int)]) (by decide) (by simp) (qNM (by omega));unfold qZA at h5;dsimp only;rw [if_pos (by omega),h5,aA,zEU hC hi,aA,aB (by simp;omega),aB (by unfold I64;omega)];rfl
  have hpl3:=dC (f:=mK t) (c:=1) tL i;have h4:(A++(List.range i).flatMap (mK t)).length<=573000:=by rw [zQL];omega
  generalize A++(List.range i).flatMap (mK t)=B at h4;have h5:=sL (w:=qAZ) (xs:=[(i:Int)]) (by decide) (by simp) (qNM (by omega));unfold qAZ at h5;have hr:=zQR hi;dsimp only;rw [if_pos (by omega),h5,aA,qVS hC ht hr,aA,aB (by simp;omega),aB (by unfold I64;omega)];unfold mK;rw [rY hr];rfl
 rw [if_neg hz,if_neg hz];dsimp only;rw [if_neg hz]
end Go.Proofs.YtldaknhjmhlefaaGreatDoor
set_option linter.unusedVariables false
set_option linter.unusedSectionVars false
set_option linter.unusedSimpArgs false
set_option maxHeartbeats 400000
set_option maxRecDepth 100000
namespace Go.Proofs.YtldaknhjmhlefaaGreatDoor
open Go Go.TL
variable {t:Am}
def trim (N:Int) (d s:Nat) (e:Ad):Prop:=oC N e=true/\dpE e<=d/\szE e<=s
theorem trim.mono {N:Int} {d s d' s':Nat} {e:Ad} (h:trim N d s e) (hd:d<=d') (hs:s<=s'):trim N d' s' e:=⟨h.1,by have:=h.2.1;omega,by have:=h.2.2;omega⟩
theorem qJP {N x:Int} (h0:0<=x) (h1:x < N):trim N 1 1 (vE x):=⟨by simp [oC,pR,qCQ,h0,h1],by simp [dpE,dpL],by simp [szE,szL]⟩
theorem rB {N:Int} {d s:Nat} {e:Ad} (h:trim N d s e):trim N (d+1) (s+1) (eY e):=by
 obtain⟨a,b,c⟩:=h;refine⟨by simp [oC,pR,qCQ,a],?_,?_⟩
 ·simp only [dpE,dpL];omega
 simp only [szE,szL];omega
theorem zEI {l:List Ad} {s:Nat} (h:∀ e∈l,szE e<=s):szL l<=l.length * s:=by
 induction l with
 | nil=>simp [szL]
 | cons e r ih=>
  have h1:=h e (by simp);have h2:=ih λx hx=>h x (by simp [hx]);simp only [szL,List.length_cons,Nat.add_mul,Nat.one_mul];omega
theorem zE {N:Int} {d s k:Nat} {op:Int} (hop:op=5\/op=6) {l:List Ad} (h:∀ e∈l,trim N d s e) (hl:l.length<=k):trim N (d+1) (k * s+1) ⟨op,0,l⟩:=by
 have h1:=zEI (s:=s) λe he=>(h e he).2.2;have h2:l.length * s<=k * s:=Nat.mul_le_mul_right _ hl;have h3:dpL l<=d:=dpL_le.2 λe he=>(h e he).2.1;have h4:qCQ N l=true:=goodL_iff.2 λe he=>(h e he).1
 have h5:pR N op 0 l.length=true:=by
  unfold pR;rw [if_neg (by omega),if_neg (by omega),if_neg (by omega),if_pos hop];simp
 refine⟨by simp only [oC,h4,h5];rfl,?_,?_⟩
 ·simp only [dpE];omega
 simp only [szE];omega
theorem sV {N:Int} {d s:Nat} {op:Int} (hop:op=5\/op=6) {x y:Ad} (hx:trim N d s x) (hy:trim N d s y):trim N (d+1) (2 * s+1) ⟨op,0,[x,y]⟩:=
 zE hop (fun e he => by
  simp only [zQB, List.not_mem_nil, or_false] at he;rcases he with rfl | rfl
  ·exact hx
  exact hy) (by simp)
section hc
variable (hC:COk t) {i:Nat}
include hC
theorem qOT (hi:i < t.Ac.length):dR t i+6+bB t i<=mP t:=by
 have hr:=zQR hi;have hs:=hC.secs (List.getElem_mem hi);have h1:=tW hr;have h2:=qWR (t:=t) (i+1) t.Ac.length (by omega);have h3:=(yH t).2;have hw:qRL t.Ac[i]=5+t.Ac[i].Aa.length:=rfl;have hln:bB t i=t.Ac[i].Aa.length - 1:=by unfold bB;rw [hr]
 have he:kX t=dR t t.Ac.length:=rfl;omega
theorem zEV (hi:i < t.Ac.length) {k:Int} (h0:0<=k) (h1:k<=3):trim (mP t) 1 1 (stE t i k):=qJP (by omega) (by have:=qOT hC hi;omega)
theorem zCF (hi:i < t.Ac.length) {k:Nat} (h:k < bB t i):trim (mP t) 1 1 (kZ t i (k:Int)):=qJP (by omega) (by have:=qOT hC hi;omega)
theorem q_free {s : Int} (h0 : 0 <= s) (h1 : s < t.Aa) : trim (mP t) 1 1 (fB s) := qJP (by omega) (by
 have := yH t;have h : inN t = 2 * t.Aa.toNat + 2 * t.Ae.length + 4 * t.Ac.length := rfl
 omega)
theorem q_pnt {r:Aj} (hr:r∈t.Ac) {x:Ag} (hx:x∈fF (dU r)):trim (mP t) 1 1 (qNE t x):=by
 have h1:=hC.set_in hr hx;have h2:=yH t;have hlm:=hC.lim;have h:inN t=2 * t.Aa.toNat+2 * t.Ae.length+4 * t.Ac.length:=rfl;unfold qNE;have hk:(if x.pos=2 then (1:Int) else 0)=0\/(if x.pos=2 then (1:Int) else 0)=1:=by split<;>simp
 exact qJP (by omega) (by omega)
theorem q_lie {r:Aj} (hr:r∈t.Ac) {x:Ag} (hx:x∈fF (dU r)):trim (mP t) 2 2 (qER t x):=by
 have h1:=hC.set_in hr hx;have h2:=yH t;have h3:trim (mP t) 1 1 (vE ((inN t:Int)+mA t x.el)):=qJP (by omega) (by omega);unfold qER;split
 ·exact rB h3
 exact h3.mono (by omega) (by omega)
theorem qKN (hi:i < t.Ac.length):trim (mP t) 2 5 (wS t i):=by
 refine zE (k:=4) (d:=1) (s:=1) (.inr rfl) (λe he=>?_) (by simp);simp only [zQB,List.not_mem_nil,or_false] at he;rcases he with rfl|rfl|rfl|rfl<;>exact zEV hC hi (by omega) (by omega)
theorem qQB (hi:i < t.Ac.length) {k:Nat} (hk:k<=bB t i):trim (mP t) 3 11 (mS t i k):=by
 unfold mS;split
 ·exact (qKN hC hi).mono (by omega) (by omega)
 exact sV (.inl rfl) (qKN hC hi) ((rB (zCF hC hi (by omega))).mono (by omega) (by omega))
theorem qIV {r:Aj} (hr:t.Ac[i]?=some r) {k:Nat} (hk:k < r.Aa.length):k<=bB t i:=by
 unfold bB;rw [hr];simp only;omega
theorem zEW {a c:Nat} {r q:Aj} (ha:t.Ac[a]?=some r) (hc:t.Ac[c]?=some q) {s:Int} {x:Nat} (hx:x < r.Aa.length):∀ o∈qA t a c q s x,trim (mP t) 5 24 o.expr:=λo ho=>by
 unfold qA at ho
 cases hk:cZ q.Aa s with
 | none=>rw [hk] at ho;simp at ho
 | some k=>
  obtain⟨_,_,_,hkl⟩:=pO hk;rw [hk] at ho;simp only [List.mem_singleton] at ho;subst ho;exact rB (sV (.inl rfl) (qQB hC (zQQ.1 ha).1 (qIV hC ha hx)) (qQB hC (zQQ.1 hc).1 (qIV hC hc hkl)))
theorem zEX {a c:Nat} {r q:Aj} (ha:t.Ac[a]?=some r) (hc:t.Ac[c]?=some q) {s:Int}:∀ o∈qB t a c q s,trim (mP t) 5 24 o.expr:=λo ho=>by
 unfold qB at ho
 cases hk:cZ q.Aa s with
 | none=>rw [hk] at ho;simp at ho
 | some k=>
  obtain⟨_,_,_,hkl⟩:=pO hk;rw [hk] at ho;simp only [List.mem_singleton] at ho;subst ho;exact rB (sV (.inl rfl) ((qKN hC (zQQ.1 ha).1).mono (by omega) (by omega)) (qQB hC (zQQ.1 hc).1 (qIV hC hc hkl)))
omit hC in
theorem qBI {α:Type} {f:Nat->Aj->List α} {i:Nat} {x:α} (h:x∈rt t f i):∃ r,t.Ac[i]?=some r/\x∈f i r:=by
 unfold rt at h
 cases e:t.Ac[i]? with
 | none=>rw [e] at h;simp at h
 | some r=>rw [e] at h;exact⟨r,rfl,h⟩
theorem q_bnd (ht:t.Wf) {r:Aj} (hr:t.Ac[i]?=some r) {x:Ag}:trim (mP t) 3 11 (qRG t i r x):=by
 have hi:=(zQQ.1 hr).1;unfold qRG;split
 ·exact (qKN hC hi).mono (by omega) (by omega)
 cases hk:cZ r.Aa (pQ t x.el) with
 | none=>exact (qKN hC hi).mono (by omega) (by omega)
 | some k=>
  obtain⟨_,_,_,hkl⟩:=pO hk;exact qQB hC hi (qIV hC hr hkl)
theorem zCO (ht:t.Wf):∀ o∈qQH t,trim (mP t) 12 20000 o.expr:=λo ho=>by
 unfold qQH at ho;simp only [zQN] at ho;rcases ho with ((((ho|ho)|ho)|ho)|ho)|ho
 ·obtain⟨a,ha,ho⟩:=iS ho;obtain⟨j,hj,ho⟩:=iS ho;obtain⟨r,hr,ho⟩:=qBI ho;obtain⟨q,hq,ho⟩:=qBI ho;obtain⟨x,hx,ho⟩:=iS ho;exact (zEW hC hr hq hx o ho).mono (by omega) (by omega)
 ·obtain⟨a,ha,ho⟩:=iS ho;obtain⟨c,hc,ho⟩:=iS ho;obtain⟨r,hr,ho⟩:=qBI ho;obtain⟨q,hq,ho⟩:=qBI ho;split at ho
  ·simp at ho
  obtain⟨x,hx,ho⟩:=iS ho;exact (zEX hC hr hq o ho).mono (by omega) (by omega)
 ·obtain⟨i,hi,ho⟩:=iS ho;obtain⟨r,hr,ho⟩:=qBI ho;obtain⟨x,hx,rfl⟩:=List.mem_map.1 ho;exact (sV (d:=4) (s:=12) (.inr rfl) (rB (q_bnd hC ht hr)) ((q_lie hC (zQM hr) hx).mono (by omega) (by omega))).mono (by omega) (by omega)
 ·obtain⟨i,hi,ho⟩:=iS ho;obtain⟨r,hr,ho⟩:=qBI ho;have hm:=zQM hr;simp only [List.mem_singleton] at ho;subst ho;have hsum:=hC.sum r hm;unfold rP at hsum;obtain⟨n1,n2,n3⟩:=qUI hC hm
  have hp : trim (mP t) 2 401 (tM t r) := zE (k := 400) (d := 1) (s := 1) (.inl rfl) (fun e he => by
   rcases zQN.1 he with h | h
   ·obtain ⟨s, hs, rfl⟩ := List.mem_map.1 h;have := hC.sec_in hm hs;exact q_free hC this.1 this.2
   obtain ⟨s, hs, rfl⟩ := List.mem_map.1 h
   exact q_pnt hC hm hs) (by simp only [zQL, zQC]; omega)
  exact (sV (d:=2) (s:=401) (.inr rfl) ((rB (zEV hC hi (by omega) (by omega))).mono (by omega) (by omega)) hp).mono (by omega) (by omega)
 ·obtain⟨i,hi,ho⟩:=iS ho;unfold uE at ho;simp only [List.mem_singleton] at ho;subst ho
  exact (zE (k := 100) (d := 3) (s := 4) (.inl rfl) (fun e he => by
   obtain ⟨a, ha, he⟩ := iS he;unfold yU at he;obtain ⟨c, hc, rfl⟩ := List.mem_map.1 he;rw [List.mem_range] at hc
   exact rB (sV (d := 1) (s := 1) (.inl rfl) (zEV hC hi (by omega) (by omega)) (zEV hC hi (by omega) (by omega)))) (qKR t i 4 (by omega))).mono (by omega) (by omega)
 obtain⟨i,hi,ho⟩:=iS ho;unfold qDZ at ho;simp only [List.mem_singleton] at ho;subst ho;have h24:=hC.last24 i;have hl:=dC (f:=tC t i) (c:=1) (λ_=>by simp [tC]) (bB t i - 1)
 exact (zE (k := 24) (d := 3) (s := 5) (.inl rfl) (fun e he => by
  obtain ⟨j, hj, he⟩ := iS he;unfold tC at he;simp only [List.mem_singleton] at he;subst he
  exact sV (d := 2) (s := 2) (.inr rfl) (rB (zCF hC hi (by omega))) ((zCF hC hi (by omega)).mono (by omega) (by omega))) (by omega)).mono (by omega) (by omega)
end hc
theorem zED {n:Int} {e:Ad} (hg:oC n e=true) (hs:szE e<=20000):valB n e=decide (dpE e<=12):=by
 show decide (qRK n 1 20000 e)=_;rw [decide_eq_decide];unfold qRK;constructor
 ·rintro⟨_,h,_⟩;omega
 intro h;exact⟨hg,by omega,by omega⟩
def bigR (e9:Aj):Bool:=(decide ((80:Int) < (e9.path.length:Int)))||((decide ((80:Int) < (e9.Ae.length:Int)))||((decide ((80:Int) < (e9.Aa.length:Int)))||((decide ((80:Int) < (e9.over.length:Int)))||((decide ((80:Int) < (e9.Ar.length:Int)))||((decide ((80:Int) < (e9.Ah.length:Int)))||((decide ((80:Int) < (e9.Az.length:Int)))||((decide ((80:Int) < (e9.guards.length:Int)))||(decide ((80:Int) < (e9.gaps.length:Int))))))))))
theorem zEL (t:Am) (ht:t.Wf):∃ b,rL t=some b/\(b=true->TOk t/\t.Ac.length<=14):=by
 unfold rL qBL;by_cases h80:t.Ac.length<=80/\t.Ae.length<=80/\t.As.length<=80
 ·rw [if_neg (by simp; omega)];rw [kW t.Ac bigR (.inr false) (.inl ()) (by omega) (λi r hr=>?_) (by rw [if_neg (by omega)];rfl)]
  ·split
   ·exact⟨false,rfl,by simp⟩
   rename_i hany;refine⟨decide ((t.Ac.length:Int)<=14),rfl,λh=>?_⟩;rw [decide_eq_true_eq] at h;refine⟨⟨by omega,by omega,λr hr=>?_⟩,by omega⟩;have h1:¬ bigR r=true:=λhh=>hany (zQU.2 ⟨r,hr,hh⟩);unfold bigR at h1;simp only [Bool.or_eq_true,decide_eq_true_eq] at h1;exact⟨by omega,by omega,by omega,by omega⟩
  have hi:=(zQQ.1 hr).1;rw [if_pos (by omega),aR hr,aB (by unfold I64;omega)];rfl
 rw [if_pos (by simp; omega)];exact⟨false,rfl,by simp⟩
theorem qRH (l:List Int) (hl:l.length<=100) {n:Nat} (hn:n<=2000):∃ r,oM l (n:Int)=some r:=by
 unfold oM
 obtain ⟨o, h1, h2⟩ := zFK (f := fun ((i6 : Int), (b7 : List Bool)) =>
   if i6 < (n : Int) then
    if (0 : Int) < (l.length : Int) then
     aD (¬ (64 : Int) = 0) <|
     aD (¬ (l.length : Int) = 0) <|
     bC l ((IntKind.i64.wrap (i6.tdiv (64 : Int))).tmod (l.length : Int)) fun e15 =>
     aD (¬ (64 : Int) = 0) <|
     aD (0 <= (i6.tmod (64 : Int))) <|
     aD ((b7 ++ ([decide ((IntKind.u64.wrap (BitVec.ofInt IntKind.u64.bits (e15.fdiv (2 ^ (min (i6.tmod (64 : Int)).toNat IntKind.u64.bits))) &&& BitVec.ofInt IntKind.u64.bits (1 : Int)).toNat) = (1 : Int))] : List Bool)).length <= 1000000000) <|
     aD (I64 (i6 + (1 : Int))) <|
     some (.inl ((i6 + (1 : Int)), (b7 ++ ([decide ((IntKind.u64.wrap (BitVec.ofInt IntKind.u64.bits (e15.fdiv (2 ^ (min (i6.tmod (64 : Int)).toNat IntKind.u64.bits))) &&& BitVec.ofInt IntKind.u64.bits (1 : Int)).toNat) = (1 : Int))] : List Bool))))
    else
     aD ((b7 ++ ([false] : List Bool)).length <= 1000000000) <|
     aD (I64 (i6 + (1 : Int))) <|
     some (.inl ((i6 + (1 : Int)), (b7 ++ ([false] : List Bool))))
   else
    aY (
     some b7)) (s := ((0 : Int), ([] : List Bool))) (fun (o : List Bool) => True) (fun k s => s.1 = (k : Int) /\ s.2.length = k) n (by unfold qTF; omega) ⟨rfl, rfl⟩ (fun k hk s hI => by
   obtain ⟨i6, b7⟩ := s;obtain ⟨h1, h2⟩ := hI;dsimp only at h1 h2;subst h1;left;dsimp only;rw [if_pos (by omega)];by_cases h0 : 0 < l.length
   ·have hd : (k : Int).tdiv 64 = ((k / 64 : Nat) : Int) := rfl;have hm : (((k / 64 : Nat) : Int)).tmod (l.length : Int) = ((k / 64 % l.length : Nat) : Int) := rfl;have hlt := Nat.mod_lt (k / 64) h0;have hmm : 0 <= (k : Int).tmod 64 := by rw [show (k : Int).tmod 64 = ((k % 64 : Nat) : Int) from rfl]; omega
    rw [if_pos (by omega), aB (by decide), aB (by omega), hd, zAT (by omega), hm, aR (zQR hlt), aB (by decide), aB hmm, aB (by simp; omega), aB (by unfold I64; omega)];exact ⟨_, rfl, by push_cast; rfl, by simp; omega⟩
   ·rw [if_neg (by omega), aB (by simp; omega), aB (by unfold I64; omega)]
    exact ⟨_, rfl, by push_cast; rfl, by simp; omega⟩) (fun s hI => by
   obtain ⟨i6, b7⟩ := s;obtain ⟨h1, h2⟩ := hI;dsimp only at h1 h2;subst h1;dsimp only;rw [if_neg (by omega)]
   exact ⟨_, rfl, trivial⟩)
 rw [h1];exact⟨o,rfl⟩
theorem qTA {p0:Am} {p1:List Int} {Q:Prop} {B:Nat} (ht:p0.Wf) (w1:p1.length<=reachBytes/\Q) (hb:B<=1048576):mM p0 p1=some true:=by
 obtain⟨b,h1,h2⟩:=zEL p0 ht;unfold mM;rw [h1,aA,zGV]
 cases b with
 | false=>rfl
 | true=>
  obtain⟨hT,hn⟩:=h2 rfl;rw [Bool.not_true,if_neg Bool.false_ne_true,aA];by_cases hl:(100:Int) < (p1.length:Int)
  ·rw [if_pos (decide_eq_true hl)];rfl
  rw [if_neg (by simpa using hl), All_eq hT ht, zGW hT ht];by_cases hz:gI p0=0
  ·have hC:=qKB hT hz;have hlm:=hC.lim;rw [if_pos hz];by_cases ha:2000 < mP p0
   ·rw [if_pos ha];simp only [aA];rw [if_neg (by simp),if_neg (by decide),aA];obtain⟨r,hr⟩:=qRH p1 (by omega) (n:=0) (by omega);have hr:oM p1 0=some r:=hr;rw [hr,aA];rw [kW (ρ:=Unit ⊕ Bool) ([]:List Af) (λ_=>false) (.inr false) (.inl ()) (by simp) (λi e he=>by simp at he) (by rw [if_neg (by simp)];rfl)];rfl
   rw [if_neg ha];simp only [aA]
   have hol:(qQH p0).length<=1000000:=by
    have hPl:=qK hC p0.Ac.length (by omega);have hOl:=tN hC p0.Ac.length (by omega);have hLl:=wT hC p0.Ac.length (by omega);have hpl:=dC (f:=mK p0) (c:=1) tL p0.Ac.length;have hpl2:=dC (f:=uE p0) (c:=1) (λ_=>by simp [uE]) p0.Ac.length;have hpl3:=dC (f:=qDZ p0) (c:=1) (λ_=>by simp [qDZ]) p0.Ac.length;unfold qQH oL qL qCM;simp only [zQL];omega
   rw [if_neg (by simp),if_pos trivial,wM hC,aA,aA];obtain⟨r,hr⟩:=qRH p1 (by omega) (n:=mP p0) (by omega);dsimp only;rw [hr,aA];have htrim:=zCO hC ht;rw [kW (ρ:=Unit ⊕ Bool) (qQH p0) (λ_=>false) (.inr false) (.inl ()) (by omega) (λi o ho=>?_) (by rw [if_neg (by omega)];rfl),List.any_eq_false.2 (λ_ _=>by simp),if_neg (by simp),qT];have hi:=(zQQ.1 ho).1;obtain⟨g1,g2,g3⟩:=htrim o (zQM ho);rw [if_pos (by omega),aR ho,aR ho,if_pos rfl,aR ho,qWX _ (by omega),aA,zED g1 g3,decide_eq_true g2,if_neg (by simp),aR ho,qUU _ (by omega),aA,aR ho,qUU _ (by omega),aA,aA,if_neg (by simp),aB (by unfold I64;omega),if_neg (by simp)]
  rw [if_neg hz];simp only [aA];rw [if_neg (by simp),if_neg hz,aA];obtain⟨r,hr⟩:=qRH p1 (by omega) (n:=0) (by omega);have hr:oM p1 0=some r:=hr;rw [hr,aA];rw [kW (ρ:=Unit ⊕ Bool) ([]:List Af) (λ_=>false) (.inr false) (.inl ()) (by simp) (λi e he=>by simp at he) (by rw [if_neg (by simp)];rfl)];rfl
end Go.Proofs.YtldaknhjmhlefaaGreatDoor
