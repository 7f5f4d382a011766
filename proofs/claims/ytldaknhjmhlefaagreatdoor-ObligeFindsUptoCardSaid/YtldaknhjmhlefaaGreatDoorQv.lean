/- Texts of this proof, joined, without what it does not use. No condition. -/
import Derived.Test.YtldaknhjmhlefaaGreatDoorQu

set_option linter.unusedVariables false
set_option linter.unusedSimpArgs false
set_option maxHeartbeats 400000
set_option maxRecDepth 100000
namespace Go.Proofs.YtldaknhjmhlefaaGreatDoor
open Go Go.TL
variable {t:Table} {b:List Obligation} {i:Nat}
def qTC (t:Table) (i:Nat) (r:Route) (x:Setting):Expr:=if x∈r.overPoints∨x∈r.flank then tD t i else match cW r.sections (wU t x.el) with
 | some k=>kI t i k
 | none=>tD t i
def lieO (t:Table) (i:Nat) (r:Route) (x:Setting):Obligation:=⟨mW qKL spB [(i:Int),pF t x.el],orE [gT (qTC t i r x),qJM t x]⟩
def uL (t:Table) (i:Nat):List Obligation:=rt t (λi r=>(iB (eA r)).map (lieO t i r)) i
def qHK (t:Table):List Obligation:=(List.range t.routes.length).flatMap (uL t)
theorem set_ok (ht:t.Wf) {r:Route} (hr:r∈t.routes):(∀ s∈r.overPoints,Setting.ok s)∧(∀ s∈r.flank,Setting.ok s)∧(∀ s∈iB (eA r),Setting.ok s):=by
 have h:=qIC ht r hr;refine⟨λs hs=>h s (by simp [eA,hs]),λs hs=>h s (by simp [eA,hs]),λs hs=>h s ?_⟩;have:=ascS_mem.1 hs;simpa [eA] using this
theorem qVZ (hC:COk t) {r:Route} (hr:r∈t.routes):Cnt r.overPoints∧Cnt r.flank∧(iB (eA r)).length≤200:=by
 have hsum:=hC.sum r hr;unfold rD at hsum;have hal:=pL (eA r);have hal2:(eA r).length≤200:=by simp only [eA,zQL];omega
 unfold Cnt;omega
theorem qST (hC:COk t) (i:Nat):(uL t i).length≤200:=by
 unfold uL;refine zV (λi r hr=>?_) i;rw [zQC];exact (qVZ hC (zQM hr)).2.2
theorem zEV (hC:COk t) (ht:t.Wf) {r:Route} (hr:t.routes[i]?=some r) {x:Setting} (hx:x∈iB (eA r)):eM (cl t b) (i:Int) x=some (qTC t i r x):=by
 have hi:=(zQQ.1 hr).1;have hm:=zQM hr;have hlm:=hC.lim;obtain⟨o1,o2,o3⟩:=set_ok ht hm;obtain⟨n1,n2,n3⟩:=qVZ hC hm;obtain⟨p,hp1,hp2,hp3,hp4,hp5⟩:=hC.home hm hx;unfold eM qTC;dsimp only;rw [aX hr,lB t _ (by unfold Cnt;omega),aA,show fU (cW t.points x.el)=(p:Int) from hp1,aX hp3,nF _ _ (qKA hC hm),aA,lM _ _ n1 (o3 x hx) o1,aA,lM _ _ n2 (o3 x hx) o2]
 cases hk:cW r.sections (wU t x.el) with
 | none=>
  rw [if_pos (by simp [fU]),aA,if_pos rfl];show aB (cL (cl t b) (i:Int)) _=_;rw [rU hC hi,aA];split<;>rfl
 | some k=>
  obtain⟨_,_,_,hkl⟩:=oE hk;rw [if_neg (by simp [fU])];by_cases h1:x∈r.overPoints
  ·rw [if_pos (decide_eq_true h1),aA,if_pos rfl];show aB (cL (cl t b) (i:Int)) _=_;rw [rU hC hi,aA,if_pos (.inl h1)]
  rw [if_neg (by simpa using h1), aA, aA];by_cases h2:x∈r.flank
  ·rw [if_pos (decide_eq_true h2)];show aB (cL (cl t b) (i:Int)) _=_;rw [rU hC hi,aA,if_pos (.inr h2)]
  rw [if_neg (by simpa using h2)];show aB (cQ (cl t b) (i:Int) (k:Int)) _=_;rw [qCW hC hr hkl,aA,if_neg (by simp [h1,h2])]
theorem c_lies (hC:COk t) (ht:t.Wf) {r:Route} (hr:t.routes[i]?=some r) (hb:b.length≤900000):eY (cl t b) (i:Int)=some (cl t (b++uL t i)):=by
 have hi:=(zQQ.1 hr).1;have hm:=zQM hr;have hlm:=hC.lim;obtain⟨n1,n2,n3⟩:=qVZ hC hm;unfold eY uL;dsimp only;rw [yC hr,aX hr,hC.sok ht hm,aA,iU (iB (eA r)) (λ_ x=>lieO t i r x) b (by omega) (λx s B hx hB=>?_) (by dsimp only;rw [if_neg (by omega)];rfl),jB];have hx':=(zQQ.1 hx).1;have hmem:=zQM hx;obtain⟨p,hp1,hp2,hp3,hp4,hp5⟩:=hC.home hm hmem;dsimp only;rw [if_pos (by omega),aX hx,lB t _ (by unfold Cnt;omega),aA,show fU (cW t.points s.el)=(p:Int) from hp1];show aB (aY (cl t B) ⟨#[108,105,101]⟩ [(p:Int)]) _=_;rw [v_lie hC hp2,aA,← hp1];have h3 (e:Expr):=qHQ (t:=t) (b:=B) (e:=e) (w:=qKL) (xs:=[(i:Int),pF t s.el]) (by decide) (by simp) (low2 (by omega) (by omega)) (by omega);unfold qKL at h3
 have tail (e:Expr):(aB (eM (cl t B) (i:Int) s) λr19=>aB (fO r19) λr20=>aB (lD [r20,e]) λr21=>aB (dE (cl t B) r21 ⟨#[108,105,101]⟩ [(i:Int),pF t s.el]) λr22=>aD (I64 ((x:Int)+1)) <| (some (.inl ((x:Int)+1,r22.list)):Option ((Int×List Obligation) ⊕ Collector)))=some (.inl ((x:Int)+1,B++[⟨mW ⟨#[108,105,101]⟩ spB [(i:Int),pF t s.el],orE [gT (qTC t i r s),e]⟩])):=by
  rw [zEV hC ht hr hmem,aA,show ∀ e,fO e=some (gT e) from λ_=>rfl,aA,show ∀ l,lD l=some (orE l) from λ_=>rfl,aA,h3,aA,aC (bG hx' (by omega))]
 unfold lieO qJM;by_cases h1:s.pos=1
 ·rw [if_pos h1, if_pos h1, show ∀ e, fO e = some (gT e) from fun _ => rfl, aA, aA];exact tail _
 rw [if_neg h1,if_neg h1,aA];exact tail _
theorem qAQ (hC:COk t) (n:Nat) (hn:n≤48):((List.range n).flatMap (uL t)).length≤9600:=by
 have:=dN (f:=uL t) (c:=200) (λj=>qST hC _) n;have h2:200 * n≤200 * 48:=Nat.mul_le_mul_left _ hn;omega
def qCI:ByteArray:=⟨#[112,114,111,118,101,100]⟩
def prE (t:Table) (i:Nat) (r:Route):Expr:=orE [gT (stE t i 1),qBI t r]
theorem zAC (hC:COk t) (ht:t.Wf) {r:Route} (hr:t.routes[i]?=some r) (hb:b.length≤900000):eE (cl t b) (i:Int)=some (cl t (b++[⟨mW qCI spB [(i:Int)],prE t i r⟩])):=by
 have hi:=(zQQ.1 hr).1;have hm:=zQM hr;have hlm:=hC.lim;have hsum:=hC.sum r hm;unfold rD at hsum;obtain⟨n1,n2,n3⟩:=qVZ hC hm;unfold eE;dsimp only;rw [aX hr,vV _ ⟨by simp,by simp;omega⟩,aA];have hfl:[r.sections,r.overSections].flatten=r.sections++r.overSections:=by simp
 have hcl:(r.sections++r.overSections).length≤200:=by rw [zQL];omega
 rw [hfl,iU (r.sections++r.overSections) (λ_ s=>iE s) [] (by omega) (λx s B hx hB=>?_) (by dsimp only;rw [if_neg (by omega)];rfl),aA]
 ·rw [hC.sok ht hm, aA, iU (iB (eA r)) (fun _ s => qSD t s) _ (by omega) (fun x s B hx hB => ?_) (by dsimp only; rw [if_neg (by omega)]; rfl), aA]
  ·rw [jB,jB,List.nil_append];have h1:=rY (b:=b) hC hi (k:=1) (w:=lI) rfl (by decide);unfold lI at h1;have h3:=qHQ (t:=t) (b:=b) (e:=prE t i r) (w:=qCI) (xs:=[(i:Int)]) (by decide) (by simp) (qPA (by omega)) (by omega);unfold qCI at h3;rw [h1,aA];show aB (some (gT (stE t i 1))) _=_;rw [aA];show aB (some (qBI t r)) _=_;rw [aA];show aB (some (prE t i r)) _=_;rw [aA,h3,aA];rfl
  have hx':=(zQQ.1 hx).1;have hmem:=zQM hx;have hsi:=hC.set_in hm hmem;obtain⟨p,hp1,hp2,hp3,hp4,hp5⟩:=hC.home hm hmem;simp only [List.nil_append,List.length_mapIdx] at hB;dsimp only;rw [if_pos (by omega),aX hx];unfold qSD;by_cases h2:s.pos=2
  ·rw [if_pos h2, aA, lB t _ (by unfold Cnt; omega), aA, show fU (cW t.points s.el) = (p : Int) from hp1, if_pos h2];have h4:=zFP (b:=b) hC (p:=p) (j:=1) (w:=rB) hp2 rfl (by decide);unfold rB at h4;rw [h4,aA,aC (by simp;omega),aC (bG hx' (by omega)),hp1];rfl
  rw [if_neg h2, aA, lB t _ (by unfold Cnt; omega), aA, show fU (cW t.points s.el) = (p : Int) from hp1, if_neg h2];have h4:=zFP (b:=b) hC (p:=p) (j:=0) (w:=vF) hp2 rfl (by decide);unfold vF at h4;rw [h4,aA,aC (by simp;omega),aC (bG hx' (by omega)),hp1];rfl
 have hx':=(zQQ.1 hx).1;have hs:=hC.sec_in hm (zQM hx);simp only [List.length_nil,Nat.zero_add] at hB;dsimp only;rw [if_pos (by omega),aX hx,v_free (b:=b) hC hs.1 hs.2,aA,aC (by simp;omega),aC (bG hx' (by omega))]
def zAT:ByteArray:=⟨#[111,110,101]⟩
def yP (t:Table) (i a:Nat):List Expr:=(List.range a).map λ(c:Nat)=>gT (iL [stE t i (a:Int),stE t i (c:Int)])
def qQQ (t:Table) (i:Nat):Expr:=iL ((List.range 4).flatMap (yP t i))
def stW:List ByteArray:=[qBS,lI,sX,sY]
theorem stW_sz:∀ w∈stW,w.size≤100:=by decide
theorem qTY {a:Nat} (ha:a < 4):∃ w,stW[a]?=some w∧w.size≤100:=by
 have h:stW[a]?=some (stW[a]'(by exact ha)):=zQR _;exact⟨_,h,stW_sz _ (List.getElem_mem _)⟩
theorem qLX (t:Table) (i a:Nat) (ha:a≤4):((List.range a).flatMap (yP t i)).length≤100:=by
 induction a with
 | zero=>simp
 | succ a ih=>
  suffices h:∀ k,k≤4→((List.range k).flatMap (yP t i)).length≤10 * k by have:=h (a+1) ha;omega
  intro k
  induction k with
  | zero=>intro _;simp
  | succ k ihk=>
   intro hk;have:=ihk (by omega);rw [kC,zQL];have:(yP t i k).length=k:=by unfold yP;simp
   omega
theorem c_one (hC:COk t) (hi:i < t.routes.length) (hb:b.length≤900000):fI (cl t b) (i:Int)=some (cl t (b++[⟨mW zAT spB [(i:Int)],qQQ t i⟩])):=by
 have hlm:=hC.lim;unfold fI;dsimp only;rw [eF (yP t i) [] 4 (by omega) (λa ha=>?_) (by dsimp only;rw [if_neg (by omega)];rfl),aA,List.nil_append]
 ·show aB (some (qQQ t i)) _=_;have h3:=qHQ (t:=t) (b:=b) (e:=qQQ t i) (w:=zAT) (xs:=[(i:Int)]) (by decide) (by simp) (qPA (by omega)) (by omega);unfold zAT at h3;rw [aA,h3,aA];rfl
 have hB := qLX t i a (by omega);have hBl:(([]:List Expr)++(List.range a).flatMap (yP t i)).length≤100:=by rw [List.nil_append];omega
 generalize ([]:List Expr)++(List.range a).flatMap (yP t i)=B at hBl;obtain⟨w,hw,hwz⟩:=qTY ha;have hsub:sub stW 0 (a:Int)=stW.take a:=by unfold sub;simp
 have hsl:(stW.take a).length=a:=by rw [List.length_take];show min a 4=a;omega
 dsimp only;rw [if_pos (by omega)]
 show aB (aT stW (a : Int) fun e12 => aD (0 ≤ (0 : Int) ∧ (0 : Int) ≤ (a : Int) ∧ (a : Int) ≤ 4) <|
    aQ (fun (x17, b18) =>
     if x17 < ((sub stW (0 : Int) (a : Int)).length : Int) then
      aT (sub stW (0 : Int) (a : Int)) x17 fun e21 =>
      aB (aY (cl t b) e12 ([(i : Int)] : List Int)) fun r22 =>
      aB (aY (cl t b) e21 ([(i : Int)] : List Int)) fun r23 =>
      aB (iO ([r22, r23] : List Expr)) fun r24 =>
      aB (fO r24) fun r25 =>
      aD ((b18 ++ ([r25] : List Expr)).length ≤ 1000000000) <|
      aD (I64 (x17 + (1 : Int))) <|
      some (.inl ((x17 + (1 : Int)), (b18 ++ ([r25] : List Expr))))
     else
      aI (
       some b18)) ((0 : Int), B)) _ = _
 rw [aX hw,aC (by omega),hsub,hsl,qSP a (λ(c:Nat)=>gT (iL [stE t i (a:Int),stE t i (c:Int)])) B (by omega) (λc B2 hc hB2=>?_) (by dsimp only;rw [if_neg (by omega)];rfl),aA,aC (by unfold I64;omega)]
 ·rfl
 obtain ⟨w2, hw2, hw2z⟩ := qTY (a := c) (by omega);have hw3:(stW.take a)[c]?=some w2:=by rw [List.getElem?_take_of_lt hc,hw2]
 dsimp only;rw [if_pos (by omega),aX hw3,rY (b:=b) hC hi hw hwz,aA,rY (b:=b) hC hi hw2 hw2z,aA];show aB (some (iL [stE t i (a:Int),stE t i (c:Int)])) _=_;rw [aA];show aB (some (gT (iL [stE t i (a:Int),stE t i (c:Int)]))) _=_;rw [aA,aC (by simp;omega),aC (by unfold I64;omega)]
def yE (t:Table) (i:Nat) (j:Nat):List Expr:=[orE [gT (mE t i ((1+j:Nat):Int)),mE t i (j:Int)]]
def qQL (t:Table) (i:Nat):Expr:=iL ((List.range (bD t i - 1)).flatMap (yE t i))
theorem c_rels (hC:COk t) {r:Route} (hr:t.routes[i]?=some r) (hb:b.length≤900000):eX (cl t b) (i:Int)=some (cl t (b++[⟨mW qIE spB [(i:Int)],qQL t i⟩])):=by
 have hi:=(zQQ.1 hr).1;have hlm:=hC.lim;have hs:=hC.secs (zQM hr);have hln:bD t i=r.sections.length - 1:=by unfold bD;rw [hr]
 have h24:=hC.last24 i;unfold eX;dsimp only;rw [show (1:Int)=((1:Nat):Int) from rfl,qED (yE t i) [] 1 (bD t i - 1) (by omega) (λj hj=>?_) (by dsimp only;rw [aX hr,aC (by unfold I64;omega),if_neg (by omega)];rfl),aA,List.nil_append]
 ·show aB (some (qQL t i)) _=_;have h3:=qHQ (t:=t) (b:=b) (e:=qQL t i) (w:=qIE) (xs:=[(i:Int)]) (by decide) (by simp) (qPA (by omega)) (by omega);unfold qIE at h3;rw [aA,h3,aA];rfl
 have hB := dN (f := yE t i) (c := 1) (fun _ => by simp [yE]) j;have hBl:(([]:List Expr)++(List.range j).flatMap (yE t i)).length≤100:=by rw [List.nil_append];omega
 generalize ([]:List Expr)++(List.range j).flatMap (yE t i)=B at hBl;dsimp only;rw [aX hr,aC (by unfold I64;omega),if_pos (by omega)];rw [qTO (b:=b) hC hi (k:=1+j) (by omega),aA];show aB (some (gT (mE t i ((1+j:Nat):Int)))) _=_;rw [aA,aC (by unfold I64;omega),show (((1+j:Nat):Int) - ((1:Nat):Int))=(j:Int) by omega,qTO (b:=b) hC hi (k:=j) (by omega),aA];show aB (some (orE [gT (mE t i ((1+j:Nat):Int)),mE t i (j:Int)])) _=_;rw [aA,aC (by simp;omega),aC (by unfold I64;omega)];rfl
variable {t:Table}
theorem qDI {l:List Setting} (h:fH t l=true):l.length≤t.points.length:=by
 unfold fH at h;rw [allB_iff] at h
 have h1:∀ c a,a < c→c < l.length→(l.getD a ⟨0,0⟩).el < (l.getD c ⟨0,0⟩).el:=by
  intro c
  induction c with
  | zero=>intro a ha;omega
  | succ c ih=>
   intro a hac hc;have h2:=h (c+1) hc;unfold yB at h2;have h3:=(of_decide_eq_true h2).2.2.2 (by omega);rw [Nat.add_sub_cancel] at h3;by_cases hh:a=c
   ·rw [hh];exact h3
   have:=ih a (by omega) (by omega);omega
 have hn:(l.map (·.el)).Nodup:=by
  rw [mK];intro a c hac hc he;rw [zQC] at hc;have:=h1 c a hac hc;rw [zQP,zQP] at he;rw [zQD,zQD,zQR hc,zQR (show a < l.length by omega)] at this;rw [zQR hc,zQR (show a < l.length by omega)] at he;simp only [Option.map_some,Option.some.injEq] at he;simp only [Option.getD_some] at this;omega
 have hsub:l.map (·.el)⊆t.points:=λx hx=>by
  obtain⟨s,hs,rfl⟩:=List.mem_map.1 hx;obtain⟨i,hi⟩:=List.getElem?_of_mem hs;have hil:=(zQQ.1 hi).1;have h2:=h i hil;unfold yB at h2;have h3:=(of_decide_eq_true h2).1;rw [zQD,hi,Option.getD_some,xS] at h3;exact of_decide_eq_true h3
 have:=List.Nodup.length_le_of_subset hn hsub
 rwa [zQC] at this
theorem qUB {l:List Int} (h:qBD t l=true) (hs:t.sections≤24):l.length≤24:=by
 unfold qBD at h;rw [allB_iff] at h
 have hn:(l.map Int.toNat).Nodup:=by
  rw [mK];intro a c hac hcl;rw [zQC] at hcl;have h3:=h c hcl;have h4:=h a (by omega);rw [sF (zQR hcl)] at h3;rw [sF (zQR (show a < l.length by omega))] at h4;unfold inB at h3 h4;simp only [zQA,Bool.not_eq_true',decide_eq_false_iff_not,decide_eq_true_eq] at h3 h4;rw [zQP,zQP,zQR hcl,zQR (show a < l.length by omega)];simp only [Option.map_some];intro he;have he2:=Option.some.inj he;have:l[a]=l[c]:=by omega
  exact h3.2 (by rw [← this];exact List.mem_take_iff_getElem.2 ⟨a,by omega,rfl⟩)
 have hsub:l.map Int.toNat⊆List.range 24:=by
  intro x hx;obtain⟨s,hs2,rfl⟩:=List.mem_map.1 hx;obtain⟨i,hi⟩:=List.getElem?_of_mem hs2;have h3:=h i (zQQ.1 hi).1;rw [sF hi] at h3;unfold inB at h3;simp only [zQA,decide_eq_true_eq] at h3;rw [List.mem_range];omega
 have h5:=List.Nodup.length_le_of_subset hn hsub;simp only [zQC,List.length_range] at h5;exact h5
theorem qBF (h:gM t=0):zS t=true:=by
 obtain⟨h1,h2,h3,h4,h5⟩:=lF h;unfold qCC at h1;have h1:=of_decide_eq_true h1;unfold zS;rw [zQA,zQT];refine⟨λr hr=>?_,decide_eq_true (by omega)⟩;obtain⟨hR,hS⟩:=h3 r hr;unfold jR qQY at hR;unfold nJ at hS;simp only [zQA,decide_eq_true_eq] at hR hS;have e1:=qDI hS.1.1;have e2:=qDI hS.1.2;have e3:=qDI hS.2;have e4:=qUB hR.1.1.2 (by omega);rw [zQL] at e4;apply decide_eq_true;unfold rD;omega
theorem qLC (h:TOk t) (hz:gM t=0):COk t:=by
 obtain⟨hT,h1,h2,h3⟩:=zR (qBF hz);exact⟨h,h1,h2,h3,hz⟩
theorem zCJ (h:TOk t) (ht:t.Wf):gS t=some (if gM t=0 then if 2000 < jE t then (⟨[],0,[]⟩,2) else (prgT t,0) else (⟨[],0,[]⟩,gM t)):=by
 by_cases hz:gM t=0
 ·exact qPS h ht (qBF hz)
 unfold gS iW;rw [qNF t h,aA,if_neg hz,aA,if_neg hz];dsimp only;rw [if_neg hz]
def pC (t:Table) (i:Nat):List Obligation:=rt t (λi r=>[⟨mW qCI spB [(i:Int)],prE t i r⟩]) i
def qAL (t:Table) (i:Nat):List Obligation:=[⟨mW zAT spB [(i:Int)],qQQ t i⟩]
def qII (t:Table) (i:Nat):List Obligation:=[⟨mW qIE spB [(i:Int)],qQL t i⟩]
def qGI (t:Table):List Obligation:=(((qS t++xM t++qHK t)++(List.range t.routes.length).flatMap (pC t))++(List.range t.routes.length).flatMap (qAL t))++(List.range t.routes.length).flatMap (qII t)
theorem xJ (i:Nat):(pC t i).length≤1:=zV (λ_ _ _=>by simp) i
theorem All_eq (h:TOk t) (ht:t.Wf):mJ t=some (if gM t=0 then if 2000 < jE t then ([],2) else (qGI t,0) else ([],gM t)):=by
 unfold mJ;rw [zCJ h ht,aA];by_cases hz:gM t=0
 ·have hC:=qLC h hz;have hlm:=hC.lim;rw [if_pos hz,if_pos hz];by_cases ha:2000 < jE t
  ·rw [if_pos ha,if_pos ha];rfl
  rw [if_neg ha,if_neg ha];dsimp only;have hnl:=qOY hC;rw [if_pos rfl,qSL (sO hC) (by omega),aA];show aB (eL (cl t [])) _=_;rw [zET hC (by simp),aA,List.nil_append];have hPl:=xK hC t.routes.length (by omega);have hOl:=xL hC t.routes.length (by omega);have hLl:=qAQ hC t.routes.length (by omega);show aB (dT (cl t (qS t))) _=_;rw [zEU hC (by unfold qS;omega),aA];have h1:(qS t++xM t).length≤560000:=by unfold qS xM;rw [zQL];omega
  unfold qGI;have hlie:(qS t++xM t++qHK t).length≤570000:=by unfold qHK;rw [zQL];omega
  dsimp only;generalize qS t++xM t=A at h1 hlie;rw [eF (uL t) A t.routes.length (by omega) (λi hi=>?_) (by dsimp only;rw [if_neg (by omega)];rfl),aA]
  ·rw [show (List.range t.routes.length).flatMap (uL t)=qHK t from rfl];generalize A++qHK t=A at hlie;rw [eF (pC t) A t.routes.length (by omega) (λi hi=>?_) (by dsimp only;rw [if_neg (by omega)];rfl),aA]
   ·have hpl:=dN (f:=pC t) (c:=1) xJ t.routes.length;have h2:(A++(List.range t.routes.length).flatMap (pC t)).length≤571000:=by rw [zQL];omega
    generalize A++(List.range t.routes.length).flatMap (pC t)=A2 at h2;rw [eF (qAL t) A2 t.routes.length (by omega) (λi hi=>?_) (by dsimp only;rw [if_neg (by omega)];rfl),aA]
    ·have hpl2 := dN (f := qAL t) (c := 1) (fun _ => by simp [qAL]) t.routes.length;have h3:(A2++(List.range t.routes.length).flatMap (qAL t)).length≤572000:=by rw [zQL];omega
     generalize A2++(List.range t.routes.length).flatMap (qAL t)=A3 at h3;rw [eF (qII t) A3 t.routes.length (by omega) (λi hi=>?_) (by dsimp only;rw [if_neg (by omega)];rfl),aA];have hpl3:=dN (f:=qII t) (c:=1) (λ_=>by simp [qII]) i;have h4:(A3++(List.range i).flatMap (qII t)).length≤573000:=by rw [zQL];omega
     generalize A3++(List.range i).flatMap (qII t)=B at h4;dsimp only;rw [if_pos (by omega)];show aB (eX (cl t B) (i:Int)) _=_;rw [c_rels hC (zQR hi) (by omega),aA,aC (by unfold I64;omega)];rfl
    have hpl3 := dN (f := qAL t) (c := 1) (fun _ => by simp [qAL]) i;have h4:(A2++(List.range i).flatMap (qAL t)).length≤573000:=by rw [zQL];omega
    generalize A2++(List.range i).flatMap (qAL t)=B at h4;dsimp only;rw [if_pos (by omega)];show aB (fI (cl t B) (i:Int)) _=_;rw [c_one hC hi (by omega),aA,aC (by unfold I64;omega)];rfl
   have hpl3:=dN (f:=pC t) (c:=1) xJ i;have h4:(A++(List.range i).flatMap (pC t)).length≤573000:=by rw [zQL];omega
   generalize A++(List.range i).flatMap (pC t)=B at h4;dsimp only;rw [if_pos (by omega)];show aB (eE (cl t B) (i:Int)) _=_;have hr:=zQR hi;rw [zAC hC ht hr (by omega),aA,aC (by unfold I64;omega)];unfold pC;rw [yC hr]
  have hpl3 := qAQ hC i (by omega);have h4:(A++(List.range i).flatMap (uL t)).length≤573000:=by rw [zQL];omega
  generalize A++(List.range i).flatMap (uL t)=B at h4;dsimp only;rw [if_pos (by omega)];show aB (eY (cl t B) (i:Int)) _=_;have hr:=zQR hi;rw [c_lies hC ht hr (by omega),aA,aC (by unfold I64;omega)]
 rw [if_neg hz,if_neg hz];dsimp only;rw [if_neg hz]
end Go.Proofs.YtldaknhjmhlefaaGreatDoor
set_option linter.unusedVariables false
set_option linter.unusedSectionVars false
set_option linter.unusedSimpArgs false
set_option maxHeartbeats 400000
set_option maxRecDepth 100000
namespace Go.Proofs.YtldaknhjmhlefaaGreatDoor
open Go Go.TL
variable {t:Table}
def trim (N:Int) (d s:Nat) (e:Expr):Prop:=qEL N e=true∧dpE e≤d∧szE e≤s
theorem trim.mono {N:Int} {d s d' s':Nat} {e:Expr} (h:trim N d s e) (hd:d≤d') (hs:s≤s'):trim N d' s' e:=⟨h.1,by have:=h.2.1;omega,by have:=h.2.2;omega⟩
theorem qDF {N x:Int} (h0:0≤x) (h1:x < N):trim N 1 1 (vE x):=⟨by simp [qEL,qMV,qBO,h0,h1],by simp [dpE,dpL],by simp [szE,szL]⟩
theorem mV {N:Int} {d s:Nat} {e:Expr} (h:trim N d s e):trim N (d+1) (s+1) (gT e):=by
 obtain⟨a,b,c⟩:=h;refine⟨by simp [qEL,qMV,qBO,a],?_,?_⟩
 ·simp only [dpE,dpL];omega
 simp only [szE,szL];omega
theorem zAY {l:List Expr} {s:Nat} (h:∀ e∈l,szE e≤s):szL l≤l.length * s:=by
 induction l with
 | nil=>simp [szL]
 | cons e r ih=>
  have h1:=h e (by simp);have h2:=ih λx hx=>h x (by simp [hx]);simp only [szL,List.length_cons,Nat.add_mul,Nat.one_mul];omega
theorem tM {N:Int} {d s k:Nat} {op:Int} (hop:op=5∨op=6) {l:List Expr} (h:∀ e∈l,trim N d s e) (hl:l.length≤k):trim N (d+1) (k * s+1) ⟨op,0,l⟩:=by
 have h1:=zAY (s:=s) λe he=>(h e he).2.2;have h2:l.length * s≤k * s:=Nat.mul_le_mul_right _ hl;have h3:dpL l≤d:=dpL_le.2 λe he=>(h e he).2.1;have h4:qBO N l=true:=goodL_iff.2 λe he=>(h e he).1
 have h5:qMV N op 0 l.length=true:=by
  unfold qMV;rw [if_neg (by omega),if_neg (by omega),if_neg (by omega),if_pos hop];simp
 refine⟨by simp only [qEL,h4,h5];rfl,?_,?_⟩
 ·simp only [dpE];omega
 simp only [szE];omega
theorem oQ {N:Int} {d s:Nat} {op:Int} (hop:op=5∨op=6) {x y:Expr} (hx:trim N d s x) (hy:trim N d s y):trim N (d+1) (2 * s+1) ⟨op,0,[x,y]⟩:=
 tM hop (fun e he => by
  simp only [zQB, List.not_mem_nil, or_false] at he;rcases he with rfl | rfl
  ·exact hx
  exact hy) (by simp)
section hc
variable (hC:COk t) {i:Nat}
include hC
theorem oL (hi:i < t.routes.length):dB t i+6+bD t i≤jE t:=by
 have hr:=zQR hi;have hs:=hC.secs (List.getElem_mem hi);have h1:=mO hr;have h2:=qFB (t:=t) (i+1) t.routes.length (by omega);have h3:=(qEJ t).2;have hw:qIB t.routes[i]=5+t.routes[i].sections.length:=rfl;have hln:bD t i=t.routes[i].sections.length - 1:=by unfold bD;rw [hr]
 have he:jM t=dB t t.routes.length:=rfl;omega
theorem zBI (hi:i < t.routes.length) {k:Int} (h0:0≤k) (h1:k≤3):trim (jE t) 1 1 (stE t i k):=qDF (by omega) (by have:=oL hC hi;omega)
theorem qUR (hi:i < t.routes.length) {k:Nat} (h:k < bD t i):trim (jE t) 1 1 (mE t i (k:Int)):=qDF (by omega) (by have:=oL hC hi;omega)
theorem q_free {s : Int} (h0 : 0 ≤ s) (h1 : s < t.sections) : trim (jE t) 1 1 (iE s) := qDF (by omega) (by
 have := qEJ t;have h : inN t = 2 * t.sections.toNat + 2 * t.points.length + 4 * t.routes.length := rfl
 omega)
theorem q_pnt {r:Route} (hr:r∈t.routes) {x:Setting} (hx:x∈iB (eA r)):trim (jE t) 1 1 (qSD t x):=by
 have h1:=hC.set_in hr hx;have h2:=qEJ t;have hlm:=hC.lim;have h:inN t=2 * t.sections.toNat+2 * t.points.length+4 * t.routes.length:=rfl;unfold qSD;have hk:(if x.pos=2 then (1:Int) else 0)=0∨(if x.pos=2 then (1:Int) else 0)=1:=by split<;>simp
 exact qDF (by omega) (by omega)
theorem q_lie {r:Route} (hr:r∈t.routes) {x:Setting} (hx:x∈iB (eA r)):trim (jE t) 2 2 (qJM t x):=by
 have h1:=hC.set_in hr hx;have h2:=qEJ t;have h3:trim (jE t) 1 1 (vE ((inN t:Int)+pF t x.el)):=qDF (by omega) (by omega);unfold qJM;split
 ·exact mV h3
 exact h3.mono (by omega) (by omega)
theorem qDW (hi:i < t.routes.length):trim (jE t) 2 5 (tD t i):=by
 refine tM (k:=4) (d:=1) (s:=1) (.inr rfl) (λe he=>?_) (by simp);simp only [zQB,List.not_mem_nil,or_false] at he;rcases he with rfl|rfl|rfl|rfl<;>exact zBI hC hi (by omega) (by omega)
theorem qIZ (hi:i < t.routes.length) {k:Nat} (hk:k≤bD t i):trim (jE t) 3 11 (kI t i k):=by
 unfold kI;split
 ·exact (qDW hC hi).mono (by omega) (by omega)
 exact oQ (.inl rfl) (qDW hC hi) ((mV (qUR hC hi (by omega))).mono (by omega) (by omega))
theorem vR {r:Route} (hr:t.routes[i]?=some r) {k:Nat} (hk:k < r.sections.length):k≤bD t i:=by
 unfold bD;rw [hr];simp only;omega
theorem zBJ {a c:Nat} {r q:Route} (ha:t.routes[a]?=some r) (hc:t.routes[c]?=some q) {s:Int} {x:Nat} (hx:x < r.sections.length):∀ o∈rJ t a c q s x,trim (jE t) 5 24 o.expr:=λo ho=>by
 unfold rJ at ho
 cases hk:cW q.sections s with
 | none=>rw [hk] at ho;simp at ho
 | some k=>
  obtain⟨_,_,_,hkl⟩:=oE hk;rw [hk] at ho;simp only [List.mem_singleton] at ho;subst ho;exact mV (oQ (.inl rfl) (qIZ hC (zQQ.1 ha).1 (vR hC ha hx)) (qIZ hC (zQQ.1 hc).1 (vR hC hc hkl)))
theorem zBK {a c:Nat} {r q:Route} (ha:t.routes[a]?=some r) (hc:t.routes[c]?=some q) {s:Int}:∀ o∈tB t a c q s,trim (jE t) 5 24 o.expr:=λo ho=>by
 unfold tB at ho
 cases hk:cW q.sections s with
 | none=>rw [hk] at ho;simp at ho
 | some k=>
  obtain⟨_,_,_,hkl⟩:=oE hk;rw [hk] at ho;simp only [List.mem_singleton] at ho;subst ho;exact mV (oQ (.inl rfl) ((qDW hC (zQQ.1 ha).1).mono (by omega) (by omega)) (qIZ hC (zQQ.1 hc).1 (vR hC hc hkl)))
omit hC in
theorem vM {α:Type} {f:Nat→Route→List α} {i:Nat} {x:α} (h:x∈rt t f i):∃ r,t.routes[i]?=some r∧x∈f i r:=by
 unfold rt at h
 cases e:t.routes[i]? with
 | none=>rw [e] at h;simp at h
 | some r=>rw [e] at h;exact⟨r,rfl,h⟩
theorem q_bnd (ht:t.Wf) {r:Route} (hr:t.routes[i]?=some r) {x:Setting}:trim (jE t) 3 11 (qTC t i r x):=by
 have hi:=(zQQ.1 hr).1;unfold qTC;split
 ·exact (qDW hC hi).mono (by omega) (by omega)
 cases hk:cW r.sections (wU t x.el) with
 | none=>exact (qDW hC hi).mono (by omega) (by omega)
 | some k=>
  obtain⟨_,_,_,hkl⟩:=oE hk;exact qIZ hC hi (vR hC hr hkl)
theorem qVD (ht:t.Wf):∀ o∈qGI t,trim (jE t) 12 20000 o.expr:=λo ho=>by
 unfold qGI at ho;simp only [zQN] at ho;rcases ho with ((((ho|ho)|ho)|ho)|ho)|ho
 ·obtain⟨a,ha,ho⟩:=fP ho;obtain⟨j,hj,ho⟩:=fP ho;obtain⟨r,hr,ho⟩:=vM ho;obtain⟨q,hq,ho⟩:=vM ho;obtain⟨x,hx,ho⟩:=fP ho;exact (zBJ hC hr hq hx o ho).mono (by omega) (by omega)
 ·obtain⟨a,ha,ho⟩:=fP ho;obtain⟨c,hc,ho⟩:=fP ho;obtain⟨r,hr,ho⟩:=vM ho;obtain⟨q,hq,ho⟩:=vM ho;split at ho
  ·simp at ho
  obtain⟨x,hx,ho⟩:=fP ho;exact (zBK hC hr hq o ho).mono (by omega) (by omega)
 ·obtain⟨i,hi,ho⟩:=fP ho;obtain⟨r,hr,ho⟩:=vM ho;obtain⟨x,hx,rfl⟩:=List.mem_map.1 ho;exact (oQ (d:=4) (s:=12) (.inr rfl) (mV (q_bnd hC ht hr)) ((q_lie hC (zQM hr) hx).mono (by omega) (by omega))).mono (by omega) (by omega)
 ·obtain⟨i,hi,ho⟩:=fP ho;obtain⟨r,hr,ho⟩:=vM ho;have hm:=zQM hr;simp only [List.mem_singleton] at ho;subst ho;have hsum:=hC.sum r hm;unfold rD at hsum;obtain⟨n1,n2,n3⟩:=qVZ hC hm
  have hp : trim (jE t) 2 401 (qBI t r) := tM (k := 400) (d := 1) (s := 1) (.inl rfl) (fun e he => by
   rcases zQN.1 he with h | h
   ·obtain ⟨s, hs, rfl⟩ := List.mem_map.1 h;have := hC.sec_in hm hs;exact q_free hC this.1 this.2
   obtain ⟨s, hs, rfl⟩ := List.mem_map.1 h
   exact q_pnt hC hm hs) (by simp only [zQL, zQC]; omega)
  exact (oQ (d:=2) (s:=401) (.inr rfl) ((mV (zBI hC hi (by omega) (by omega))).mono (by omega) (by omega)) hp).mono (by omega) (by omega)
 ·obtain⟨i,hi,ho⟩:=fP ho;unfold qAL at ho;simp only [List.mem_singleton] at ho;subst ho
  exact (tM (k := 100) (d := 3) (s := 4) (.inl rfl) (fun e he => by
   obtain ⟨a, ha, he⟩ := fP he;unfold yP at he;obtain ⟨c, hc, rfl⟩ := List.mem_map.1 he;rw [List.mem_range] at hc
   exact mV (oQ (d := 1) (s := 1) (.inl rfl) (zBI hC hi (by omega) (by omega)) (zBI hC hi (by omega) (by omega)))) (qLX t i 4 (by omega))).mono (by omega) (by omega)
 obtain⟨i,hi,ho⟩:=fP ho;unfold qII at ho;simp only [List.mem_singleton] at ho;subst ho;have h24:=hC.last24 i;have hl:=dN (f:=yE t i) (c:=1) (λ_=>by simp [yE]) (bD t i - 1)
 exact (tM (k := 24) (d := 3) (s := 5) (.inl rfl) (fun e he => by
  obtain ⟨j, hj, he⟩ := fP he;unfold yE at he;simp only [List.mem_singleton] at he;subst he
  exact oQ (d := 2) (s := 2) (.inr rfl) (mV (qUR hC hi (by omega))) ((qUR hC hi (by omega)).mono (by omega) (by omega))) (by omega)).mono (by omega) (by omega)
end hc
def bigR (e9:Route):Bool:=(decide ((80:Int) < (e9.path.length:Int)))||((decide ((80:Int) < (e9.points.length:Int)))||((decide ((80:Int) < (e9.sections.length:Int)))||((decide ((80:Int) < (e9.over.length:Int)))||((decide ((80:Int) < (e9.overPoints.length:Int)))||((decide ((80:Int) < (e9.overSections.length:Int)))||((decide ((80:Int) < (e9.flank.length:Int)))||((decide ((80:Int) < (e9.guards.length:Int)))||(decide ((80:Int) < (e9.gaps.length:Int))))))))))
theorem zBB (t:Table) (ht:t.Wf):∃ b,nE t=some b∧(b=true→TOk t∧t.routes.length≤14):=by
 unfold nE vQ;by_cases h80:t.routes.length≤80∧t.points.length≤80∧t.homes.length≤80
 ·rw [if_neg (by simp; omega)];rw [lT t.routes bigR (.inr false) (.inl ()) (by omega) (λi r hr=>?_) (by rw [if_neg (by omega)];rfl)]
  ·split
   ·exact⟨false,rfl,by simp⟩
   rename_i hany;refine⟨decide ((t.routes.length:Int)≤14),rfl,λh=>?_⟩;rw [decide_eq_true_eq] at h;refine⟨⟨by omega,by omega,λr hr=>?_⟩,by omega⟩;have h1:¬ bigR r=true:=λhh=>hany (zQU.2 ⟨r,hr,hh⟩);unfold bigR at h1;simp only [Bool.or_eq_true,decide_eq_true_eq] at h1;exact⟨by omega,by omega,by omega,by omega⟩
  have hi:=(zQQ.1 hr).1;rw [if_pos (by omega),aX hr,aC (by unfold I64;omega)];rfl
 rw [if_pos (by simp; omega)];exact⟨false,rfl,by simp⟩
variable {t:Table}
theorem okE_sz {e:Expr} (hs:szE e≤1000000000):okE e:=by
 suffices h:∀ (k:Nat) (e:Expr),szE e≤k→k≤1000000000→okE e from h _ e hs (zQW _)
 intro k
 induction k with
 | zero=>intro e h;have:=qTV e;omega
 | succ k ih=>
  intro e h hk;rw [qTW] at h;rw [okE_iff];have:=qVL e.args;exact⟨by unfold qJI;omega,λx hx=>ih x (by have:=qVJ hx;omega) (by omega)⟩
theorem ev_v (v:List Bool) {x:Int} (h:0≤x):evE v (vE x)=v.getD x.toNat false:=by
 rw [qER];unfold opB;rw [if_pos rfl,decide_eq_true h,Bool.true_and]
theorem qVR (v:List Bool) (e:Expr):evE v (gT e)=!(evE v e):=by
 rw [qER];rfl
theorem qRD (v:List Bool) (x y:Expr):evE v (iL [x,y])=(evE v x&&evE v y):=by
 rw [qER];simp [opB]
theorem ev_or (v:List Bool) (l:List Expr):evE v (orE l)=l.any (evE v):=by
 rw [qER];simp [opB,List.any_map]
theorem zAE (hC:COk t) {b a:Nat} (hba:b < a) (ha:a < t.routes.length):dB t b+6+bD t b≤dB t a:=by
 have hr:=zQR (show b < t.routes.length by omega);have hs:=hC.secs (List.getElem_mem (show b < t.routes.length by omega));have h1:=mO hr;have h2:=qFB (t:=t) (b+1) a (by omega);have hw:qIB t.routes[b]=5+t.routes[b].sections.length:=rfl;have hln:bD t b=t.routes[b].sections.length - 1:=by unfold bD;rw [hr]
 omega
def qOB (t:Table) (a b:Nat):List Bool:=((List.replicate (jE t) false).set (dB t a) true).set (dB t b) true
theorem qQH (hC:COk t) {a b:Nat} (ha:a < t.routes.length) (hb:b < t.routes.length) (x:Nat):(qOB t a b).getD x false=decide (x=dB t a∨x=dB t b):=by
 have h1:=oL hC ha;have h2:=oL hC hb;unfold qOB;rw [zQD,List.getElem?_set];by_cases hxb:dB t b=x
 ·rw [if_pos hxb, if_pos (by simp; omega), decide_eq_true (.inr hxb.symm)];rfl
 rw [if_neg hxb,List.getElem?_set];by_cases hxa:dB t a=x
 ·rw [if_pos hxa, if_pos (by simp; omega), decide_eq_true (.inl hxa.symm)];rfl
 rw [if_neg hxa, decide_eq_false (by omega), List.getElem?_replicate];split<;>rfl
theorem zCI (hC:COk t) {a b i:Nat} (ha:a < t.routes.length) (hb:b < t.routes.length) (hi:i=a∨i=b):evE (qOB t a b) (tD t i)=true:=by
 unfold tD;rw [ev_or,zQU];refine⟨stE t i 0,by simp,?_⟩;rw [ev_v _ (by omega),qQH hC ha hb,decide_eq_true_eq];rcases hi with rfl|rfl
 ·left;omega
 right;omega
theorem qRC (hC:COk t) {a b i k:Nat} (hba:b < a) (ha:a < t.routes.length) (hi:i=a∨i=b) (hk:k≤bD t i):evE (qOB t a b) (kI t i k)=true:=by
 have hl:=zCI hC ha (show b < t.routes.length by omega) hi;have hg:=zAE hC hba ha;unfold kI;split
 ·exact hl
 rw [qRD, hl, Bool.true_and, qVR, ev_v _ (by omega), qQH hC ha (by omega), decide_eq_false]
 ·rfl
 rcases hi with rfl|rfl<;>omega
theorem finds (hC:COk t) {a b:Nat} {r q:Route} (hba:b < a) (hr:t.routes[b]?=some r) (hq:t.routes[a]?=some q) {s:Int} (h1:s∈q.sections) (h2:s∈r.sections):∃ o∈qGI t,evE (qOB t a b) o.expr=false:=by
 have ha:=(zQQ.1 hq).1;obtain⟨x,hx⟩:=List.getElem?_of_mem h2;have hxl:=(zQQ.1 hx).1;have hsx:sE r x=s:=by unfold sE;rw [zQD,hx];rfl
 obtain⟨k,hk⟩:∃ k,cW q.sections s=some k:=Option.isSome_iff_exists.1 (by rw [xS];exact decide_eq_true h1);obtain⟨_,_,_,hkl⟩:=oE hk;refine⟨⟨mW qQB spB [(b:Int),(a:Int),s],gT (iL [kI t b x,kI t a k])⟩,?_,?_⟩
 ·unfold qGI;simp only [zQN];refine .inl (.inl (.inl (.inl (.inl ?_))));unfold qS;refine List.mem_flatMap.2 ⟨b,List.mem_range.2 (by omega),?_⟩;unfold yO;refine List.mem_flatMap.2 ⟨a - (b+1),List.mem_range.2 (by omega),?_⟩;rw [show b+1+(a - (b+1))=a by omega];unfold uF;rw [yC hr,yC hq];refine List.mem_flatMap.2 ⟨x,List.mem_range.2 hxl,?_⟩;unfold rJ;rw [hsx,hk];simp
 dsimp only;rw [qVR,qRD,qRC hC hba ha (.inr rfl) (vR hC hr hxl),qRC hC hba ha (.inl rfl) (vR hC hq hkl)];rfl
theorem qTB (l m : List Int) (hl : l.length ≤ 1000) (hm : m.length ≤ 1000) (c : Bool) {R : List Route} {b : Nat} {q : Route} (hqr : R[b]? = some q) (hq : q.sections = m) : aQ (ρ := Bool) (fun (common33, x34) =>
            if x34 < (l.length : Int) then
             aB (
              aT l x34 fun e39 =>
              aT R (b : Int) fun e40 =>
              aQ (fun (common43, x44) =>
               if x44 < (e40.sections.length : Int) then
                aT e40.sections x44 fun e47 =>
                if common43 = true then
                 aD (I64 (x44 + (1 : Int))) <|
                 some (.inl (true, (x44 + (1 : Int))))
                else
                 aD (I64 (x44 + (1 : Int))) <|
                 some (.inl (decide (e39 = e47), (x44 + (1 : Int))))
               else
                aI (
                 some common43)) (common33, (0 : Int))) fun common37 =>
             aD (I64 (x34 + (1 : Int))) <|
             some (.inl (common37, (x34 + (1 : Int))))
            else
             aI (
              some common33)) (c, (0 : Int)) = some (c || l.any fun x => decide (x ∈ m)) := by
 rw [kR (s:=(c,(0:Int))) (λi=>(c||(l.take i).any λx=>decide (x∈m),(i:Int))) l.length (o:=c||l.any λx=>decide (x∈m)) (by simp) (by omega) ?_ ?_]
 ·intro i hi;have hx:=zQR hi;dsimp only;rw [if_pos (by omega),aX hx,aX hqr,hq,List.take_add_one,hx];generalize l[i]=x;have hany:(c||((l.take i)++(some x).toList).any λx=>decide (x∈m))=((c||(l.take i).any λx=>decide (x∈m))||decide (x∈m)):=by simp [Bool.or_assoc]
  rw [hany];generalize (c||(l.take i).any λx=>decide (x∈m))=d0
  have hd : ∀ d : Bool, aQ (ρ := Bool) (fun (common43, x44) =>
               if x44 < (m.length : Int) then
                aT m x44 fun e47 =>
                if common43 = true then
                 aD (I64 (x44 + (1 : Int))) <|
                 some (.inl (true, (x44 + (1 : Int))))
                else
                 aD (I64 (x44 + (1 : Int))) <|
                 some (.inl (decide (x = e47), (x44 + (1 : Int))))
               else
                aI (
                 some common43)) (d, (0 : Int)) = some (d || decide (x ∈ m)) := fun d => by
   rw [kR (s:=(d,(0:Int))) (λj=>(d||decide (x∈m.take j),(j:Int))) m.length (o:=d||decide (x∈m)) (by simp) (by omega) ?_ ?_]
   ·intro j hj;have hy:=zQR hj;dsimp only;rw [if_pos (by omega),aX hy,aC (by unfold I64;omega),aC (by unfold I64;omega),List.take_add_one,hy];generalize m[j]=y;by_cases h1:(d||decide (x∈m.take j))=true
    ·rw [if_pos h1]
     have h2:(d||decide (x∈m.take j++(some y).toList))=true:=by
      rw [Bool.or_eq_true,decide_eq_true_eq] at h1 ⊢;rcases h1 with h1|h1
      ·exact .inl h1
      exact .inr (List.mem_append_left _ h1)
     rw [h2];rfl
    rw [if_neg h1];rw [Bool.or_eq_true,decide_eq_true_eq] at h1;have hd0:d=false:=by cases d<;>simp_all
    have h2:decide (x∈m.take j++(some y).toList)=decide (x=y):=by
     rw [decide_eq_decide];simp only [zQN,Option.toList_some,List.mem_singleton];exact⟨λh=>h.resolve_left λhh=>h1 (.inr hh),.inr⟩
    rw [h2,hd0,Bool.false_or];rfl
   dsimp only;rw [if_neg (by omega),List.take_length];rfl
  rw [hd,aA,aC (by unfold I64;omega)];rfl
 dsimp only;rw [if_neg (by omega),List.take_length];rfl
theorem qVE (hC:COk t):(qGI t).length≤1000000:=by
 have hlm:=hC.lim;have hPl:=xK hC t.routes.length (by omega);have hOl:=xL hC t.routes.length (by omega);have hLl:=qAQ hC t.routes.length (by omega);have hpl:=dN (f:=pC t) (c:=1) xJ t.routes.length;have hpl2:=dN (f:=qAL t) (c:=1) (λ_=>by simp [qAL]) t.routes.length;have hpl3:=dN (f:=qII t) (c:=1) (λ_=>by simp [qII]) t.routes.length;unfold qGI qS xM qHK;simp only [zQL];omega
theorem qOX {p0:Table} (ht:p0.Wf) {B:Nat} (hb:B≤1048576):jO p0=some true:=by
 obtain⟨b,h1,h2⟩:=zBB p0 ht;unfold jO;rw [h1,aA,zFG]
 cases b with
 | false=>rfl
 | true=>
  obtain⟨hT,hn⟩:=h2 rfl;rw [Bool.not_true,if_neg Bool.false_ne_true,qPM p0 hT,aA,aA];by_cases hz:gM p0=0
  ·have hC:=qLC hT hz;have hlm:=hC.lim;rw [if_neg (by simp [hz]),All_eq hT ht,if_pos hz];by_cases ha:2000 < jE p0
   ·rw [if_pos ha,aA];rfl
   rw [if_neg ha,aA];dsimp only;rw [if_pos rfl,qSF hC,aA];have htrim:=qVD hC ht;have hol:(qGI p0).length≤1000000:=qVE hC;rw [kA p0.routes.length (λ_=>false) (.inr false) (.inl ()) (by omega) (λa ha2=>?_) (by rw [if_neg (by omega)];rfl),List.any_eq_false.2 (λ_ _=>by simp),if_neg (by simp),oK]
   ·rfl
   have hqa:=zQR ha2;have hqm:=List.getElem_mem ha2;generalize p0.routes[a]=q at hqa hqm;rw [if_pos (by omega),aX hqa,kA (ρ:=Unit ⊕ (Int ⊕ (Unit ⊕ Bool))) a (λ_=>false) (.inr (.inr (.inr false))) (.inl ()) (by omega) (λb hb2=>?_) (by rw [if_neg (by omega)];rfl),List.any_eq_false.2 (λ_ _=>by simp),if_neg (by simp),oK,aC (by unfold I64;omega),if_neg (by simp)];have hbl:b < p0.routes.length:=by omega
   have hrb:=zQR hbl;have hrm:=List.getElem_mem hbl;generalize p0.routes[b]=r at hrb hrm;have e1:=oL hC ha2;have e2:=oL hC hbl;rw [if_pos (by omega),qTB q.sections r.sections (by have:=hC.sec24 hqm;omega) (by have:=hC.sec24 hrm;omega) false hrb rfl,aA];dsimp only;rw [aC (by omega),aX (qAZ ha2),aX (e:=false) (by rw [show ((jE p0:Nat):Int).toNat=jE p0 by omega,List.getElem?_replicate,if_pos (by omega)]),aX (qAZ hbl)];rw [show ((jE p0:Nat):Int).toNat=jE p0 by omega,show ((dB p0 a:Nat):Int).toNat=dB p0 a by omega,show ((dB p0 b:Nat):Int).toNat=dB p0 b by omega,aX (zQR (show dB p0 b < ((List.replicate (jE p0) false).set (dB p0 a) true).length by simp;omega))];rw [show ((List.replicate (jE p0) false).set (dB p0 a) true).set (dB p0 b) true=qOB p0 a b from rfl,Bool.false_or]
   have hin:aB (if (q.sections.any λx=>decide (x∈r.sections))=true then aB (iZ (qGI p0) ⟨qOB p0 a b,[],false⟩) λr62=>some (decide (r62 < 0)) else some false) (λx59=>if x59=true then aI (aI (aI (aI (aI (some false))))) else (some (.inl ()):Option (Unit ⊕ (Int ⊕ (Unit ⊕ (Int ⊕ (Unit ⊕ Bool)))))))=some (.inl ()):=by
    by_cases hc:(q.sections.any λx=>decide (x∈r.sections))=true
    ·rw [if_pos hc, zAL _ (by unfold qJI; omega) (fun o ho => ⟨okE_sz (by have := (htrim o ho).2.2; omega), by have := (htrim o ho).2.2; omega⟩), aA, aA];obtain⟨s,hs1,hs2⟩:=zQU.1 hc;obtain⟨o,ho1,ho2⟩:=finds hC hb2 hrb hqa hs1 (of_decide_eq_true hs2);unfold qPF;rw [if_pos (List.findIdx_lt_length.2 ⟨o,ho1,by simp [ho2]⟩),decide_eq_false (by omega),if_neg (by simp)]
    rw [if_neg hc,aA,if_neg (by simp)]
   rw [hin,oK,aC (by unfold I64;omega),if_neg (by simp)]
  rw [if_pos (by simp [hz])];rfl
end Go.Proofs.YtldaknhjmhlefaaGreatDoor
