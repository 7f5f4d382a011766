/- Texts of this proof, joined, without what it does not use. No condition. -/
import Derived.Lib.ItoaNum
import Derived.Test.YtldaknhjmhlefaaGreatDoorQq

set_option maxHeartbeats 8000000
set_option linter.unusedSimpArgs false
set_option linter.unusedVariables false
set_option maxRecDepth 20000
namespace Go.Proofs.YtldaknhjmhlefaaGreatDoor
open Go Go.TL
def uK:Option Layout:=
 aA (
 aT (λ(x6,b7)=>
 if x6 < (([(⟨#[97]⟩:ByteArray),(⟨#[98]⟩:ByteArray),(⟨#[99]⟩:ByteArray)]:List ByteArray).length:Int) then
 aU ([(⟨#[97]⟩:ByteArray),(⟨#[98]⟩:ByteArray),(⟨#[99]⟩:ByteArray)]:List ByteArray) x6 λe10=>
 aB ((b7++([(⟨e10,(1:Int),(20000:Int),(0:Int),(3000:Int),(0:Int),x6⟩:Element)]:List Element)).length≤1000000000) <|
 aB (I64 (x6+(1:Int))) <|
 some (.inl ((x6+(1:Int)),(b7++([(⟨e10,(1:Int),(20000:Int),(0:Int),(3000:Int),(0:Int),x6⟩:Element)]:List Element))))
 else
 aI (
 some b7)) ((0:Int),([]:List Element))) λb1=>
 some (⟨(⟨#[108,105,110,101]⟩:ByteArray),([(⟨#[120]⟩:ByteArray),(⟨#[121]⟩:ByteArray),(⟨#[122]⟩:ByteArray)]:List ByteArray),b1,([(⟨(⟨(0:Int),(1:Int)⟩:End),(⟨(1:Int),(0:Int)⟩:End)⟩:Joint),(⟨(⟨(1:Int),(1:Int)⟩:End),(⟨(2:Int),(0:Int)⟩:End)⟩:Joint)]:List Joint),([(⟨(⟨#[115,49]⟩:ByteArray),(⟨(0:Int),(1:Int)⟩:End),(0:Int)⟩:Signal),(⟨(⟨#[115,50]⟩:ByteArray),(⟨(1:Int),(1:Int)⟩:End),(0:Int)⟩:Signal)]:List Signal),([]:List Balise)⟩:Layout)
def rO (p0:Layout):Option A3_string:=
 aB ((([]:List ByteArray)++p0.sections).length≤1000000000) <|
 aA (
 aT (λ(x7,b8)=>
 if x7 < (p0.elements.length:Int) then
 aU p0.elements x7 λe11=>
 aB ((b8++([e11.name]:List ByteArray)).length≤1000000000) <|
 aB (I64 (x7+(1:Int))) <|
 some (.inl ((x7+(1:Int)),(b8++([e11.name]:List ByteArray))))
 else
 aI (
 some b8)) ((0:Int),([]:List ByteArray))) λb2=>
 aA (
 aT (λ(x20,b21)=>
 if x20 < (p0.signals.length:Int) then
 aU p0.signals x20 λe24=>
 aB ((b21++([e24.name]:List ByteArray)).length≤1000000000) <|
 aB (I64 (x20+(1:Int))) <|
 some (.inl ((x20+(1:Int)),(b21++([e24.name]:List ByteArray))))
 else
 aI (
 some b21)) ((0:Int),([]:List ByteArray))) λb15=>
 some (⟨(([]:List ByteArray)++p0.sections),b2,b15⟩:A3_string)
def uE (p0:ByteArray):Option Bool:=
 cU (
 aT (λi3=>
 if i3 < (p0.size:Int) then
 aA (
 aU p0.data.toList i3 λe8=>
 if (97:Int)≤(e8.toNat:Int) then
 aU p0.data.toList i3 λe10=>
 some (decide ((e10.toNat:Int)≤(122:Int)))
 else
 some false) λletter6=>
 aA (
 aU p0.data.toList i3 λe13=>
 if (48:Int)≤(e13.toNat:Int) then
 aU p0.data.toList i3 λe16=>
 if (e16.toNat:Int)≤(57:Int) then
 some true
 else
 aU p0.data.toList i3 λe18=>
 some (decide ((e18.toNat:Int)=(95:Int)))
 else
 aU p0.data.toList i3 λe15=>
 some (decide ((e15.toNat:Int)=(95:Int)))) λdigit11=>
 if ((!(letter6))&&((!(digit11))||(decide (i3=(0:Int)))))=true then
 aI (
 aI (
 some false))
 else
 aB (I64 (i3+(1:Int))) <|
 some (.inl (i3+(1:Int)))
 else
 aI (
 some (.inl ()))) (0:Int)) λ_=>
 some ((decide ((1:Int)≤(p0.size:Int)))&&(decide ((p0.size:Int)≤(12:Int))))
def lM (p0:(List ByteArray)):Option Bool:=
 cU (
 aT (λx3=>
 if x3 < (p0.length:Int) then
 cU (
 aT (λx8=>
 if x8 < x3 then
 aU p0 x3 λe11=>
 aU p0 x8 λe12=>
 if e11=e12 then
 aI (
 aI (
 aI (
 aI (
 some true))))
 else
 aB (I64 (x8+(1:Int))) <|
 some (.inl (x8+(1:Int)))
 else
 aI (
 some (.inl ()))) (0:Int)) λ_=>
 aB (I64 (x3+(1:Int))) <|
 some (.inl (x3+(1:Int)))
 else
 aI (
 some (.inl ()))) (0:Int)) λ_=>
 some false
def rP (p0:Layout):Option Int:=
 if ((decide ((p0.elements.length:Int) < (1:Int)))||((decide ((32:Int) < (p0.elements.length:Int)))||((decide ((p0.sections.length:Int) < (1:Int)))||((decide ((24:Int) < (p0.sections.length:Int)))||((decide ((20:Int) < (p0.signals.length:Int)))||(decide ((24:Int) < (p0.balises.length:Int))))))))=true then
 some (2:Int)
 else
 aA (rO p0) λr7=>
 cU (
 aB ((([p0.name]:List ByteArray)++r7.a0).length≤1000000000) <|
 aB (((([p0.name]:List ByteArray)++r7.a0)++r7.a1).length≤1000000000) <|
 aB ((((([p0.name]:List ByteArray)++r7.a0)++r7.a1)++r7.a2).length≤1000000000) <|
 aT (λx13=>
 if x13 < ((((([p0.name]:List ByteArray)++r7.a0)++r7.a1)++r7.a2).length:Int) then
 aU (((([p0.name]:List ByteArray)++r7.a0)++r7.a1)++r7.a2) x13 λe16=>
 aA (uE e16) λr17=>
 if (!(r17))=true then
 aI (
 aI (
 some (3:Int)))
 else
 aB (I64 (x13+(1:Int))) <|
 some (.inl (x13+(1:Int)))
 else
 aI (
 some (.inl ()))) (0:Int)) λ_=>
 aA (
 aA (lM r7.a0) λr25=>
 if r25=true then
 some true
 else
 aA (lM r7.a1) λr27=>
 if r27=true then
 some true
 else
 aA (lM r7.a2) λr29=>
 some r29) λx23=>
 if x23=true then
 some (8:Int)
 else
 some (0:Int)
def rN (p0:Layout) (p1:Element):Option Bool:=
 if ((decide (p1.kind < (1:Int)))||((decide ((3:Int) < p1.kind))||((decide (p1.length < (500:Int)))||((decide ((1000000:Int) < p1.length))||((decide (p1.grade < (-50:Int)))||((decide ((50:Int) < p1.grade))||((decide (p1.speed < (100:Int)))||((decide ((10000:Int) < p1.speed))||((decide (p1.sectionV < (0:Int)))||(decide ((p0.sections.length:Int)≤p1.sectionV)))))))))))=true then
 some false
 else
 if p1.kind=(2:Int) then
 some ((decide ((100:Int)≤p1.slow))&&(decide (p1.slow≤p1.speed)))
 else
 some (decide (p1.slow=(0:Int)))
def oP (p0:Layout) (p1:Int):Option ((List Int)):=
 aA (
 aT (λ(x6,b7)=>
 if x6 < (p0.elements.length:Int) then
 aU p0.elements x6 λe10=>
 if ((decide (e10.sectionV=p1))&&((decide ((0:Int)≤p1))&&(decide (p1 < (p0.sections.length:Int)))))=true then
 aB ((b7++([x6]:List Int)).length≤1000000000) <|
 aB (I64 (x6+(1:Int))) <|
 some (.inl ((x6+(1:Int)),(b7++([x6]:List Int))))
 else
 aB (I64 (x6+(1:Int))) <|
 some (.inl ((x6+(1:Int)),b7))
 else
 aI (
 some b7)) ((0:Int),([]:List Int))) λb1=>
 some b1
def nZ (p0:Int):Option Int:=
 if p0=(1:Int) then
 some (2:Int)
 else
 if p0=(2:Int) then
 some (3:Int)
 else
 if p0=(3:Int) then
 some (4:Int)
 else
 some (0:Int)
def kO (p0:Layout) (p1:End):Option Bool:=
 aA (
 if (0:Int)≤p1.el then
 if p1.el < (p0.elements.length:Int) then
 if (0:Int)≤p1.side then
 aU p0.elements p1.el λe6=>
 aA (nZ e6.kind) λr7=>
 some (decide (p1.side < r7))
 else
 some false
 else
 some false
 else
 some false) λx1=>
 some x1
def qA (p0:(List End)):Option Bool:=
 cU (
 aT (λx3=>
 if x3 < (p0.length:Int) then
 cU (
 aT (λx8=>
 if x8 < x3 then
 aU p0 x3 λe11=>
 aU p0 x8 λe12=>
 aB (End.ok e11∧End.ok e12) <|
 if e11=e12 then
 aI (
 aI (
 aI (
 aI (
 some true))))
 else
 aB (I64 (x8+(1:Int))) <|
 some (.inl (x8+(1:Int)))
 else
 aI (
 some (.inl ()))) (0:Int)) λ_=>
 aB (I64 (x3+(1:Int))) <|
 some (.inl (x3+(1:Int)))
 else
 aI (
 some (.inl ()))) (0:Int)) λ_=>
 some false
def nF (p0:Layout):Option Int:=
 cU (
 aT (λx3=>
 if x3 < (p0.elements.length:Int) then
 aU p0.elements x3 λe6=>
 aA (rN p0 e6) λr7=>
 if (!(r7))=true then
 aI (
 aI (
 some (1:Int)))
 else
 aB (I64 (x3+(1:Int))) <|
 some (.inl (x3+(1:Int)))
 else
 aI (
 some (.inl ()))) (0:Int)) λ_=>
 cU (
 aT (λx15=>
 if x15 < (p0.sections.length:Int) then
 aA (oP p0 x15) λr18=>
 if (r18.length:Int)=(0:Int) then
 aI (
 aI (
 some (1:Int)))
 else
 aB (I64 (x15+(1:Int))) <|
 some (.inl (x15+(1:Int)))
 else
 aI (
 some (.inl ()))) (0:Int)) λ_=>
 cU (
 aT (λ(x29,b30)=>
 if x29 < (p0.joints.length:Int) then
 aU p0.joints x29 λe33=>
 aA (
 aA (kO p0 e33.a) λr36=>
 if (!(r36))=true then
 some true
 else
 aA (kO p0 e33.b) λr38=>
 if (!(r38))=true then
 some true
 else
 aB (End.ok e33.a∧End.ok e33.b) <|
 some (decide (e33.a=e33.b))) λx34=>
 if x34=true then
 aI (
 aI (
 some (1:Int)))
 else
 aB ((b30++([e33.a,e33.b]:List End)).length≤1000000000) <|
 aB (I64 (x29+(1:Int))) <|
 some (.inl ((x29+(1:Int)),(b30++([e33.a,e33.b]:List End))))
 else
 aI (
 some (.inl b30))) ((0:Int),([]:List End))) λb24=>
 aA (qA b24) λr48=>
 if r48=true then
 some (8:Int)
 else
 some (0:Int)
def gC (p0:Layout) (p1:End):Option (End×Bool):=
 cU (
 aT (λx3=>
 if x3 < (p0.joints.length:Int) then
 aU p0.joints x3 λe6=>
 aB (End.ok e6.a∧End.ok p1) <|
 if e6.a=p1 then
 aI (
 aI (
 some (e6.b,true)))
 else
 aB (End.ok e6.b∧End.ok p1) <|
 if e6.b=p1 then
 aI (
 aI (
 some (e6.a,true)))
 else
 aB (I64 (x3+(1:Int))) <|
 some (.inl (x3+(1:Int)))
 else
 aI (
 some (.inl ()))) (0:Int)) λ_=>
 some ((⟨(0:Int),(0:Int)⟩:End),false)
def oM (p0:Layout):Option Int:=
 cU (
 aT (λ(x6,b7)=>
 if x6 < (p0.signals.length:Int) then
 aU p0.signals x6 λe10=>
 aA (
 aA (kO p0 e10.atV) λr13=>
 if (!(r13))=true then
 some true
 else
 if e10.overlap < (0:Int) then
 some true
 else
 some (decide ((1000000:Int) < e10.overlap))) λx11=>
 if x11=true then
 aI (
 aI (
 some (1:Int)))
 else
 aB ((b7++([e10.atV]:List End)).length≤1000000000) <|
 aB (I64 (x6+(1:Int))) <|
 some (.inl ((x6+(1:Int)),(b7++([e10.atV]:List End))))
 else
 aI (
 some (.inl b7))) ((0:Int),([]:List End))) λb1=>
 aA (qA b1) λr22=>
 if r22=true then
 some (8:Int)
 else
 cU (
 aT (λx26=>
 if x26 < (b1.length:Int) then
 aU b1 x26 λe29=>
 aA (gC p0 e29) λ(r31,r32)=>
 aA (
 if (!(r32))=true then
 some true
 else
 aU p0.elements r31.el λe36=>
 aU p0.elements e29.el λe37=>
 some (decide (e36.sectionV=e37.sectionV))) λx33=>
 if x33=true then
 aI (
 aI (
 some (14:Int)))
 else
 aB (I64 (x26+(1:Int))) <|
 some (.inl (x26+(1:Int)))
 else
 aI (
 some (.inl ()))) (0:Int)) λ_=>
 some (0:Int)
def oN (p0:(List Int)):Option Bool:=
 cU (
 aT (λx3=>
 if x3 < (p0.length:Int) then
 cU (
 aT (λx8=>
 if x8 < x3 then
 aU p0 x3 λe11=>
 aU p0 x8 λe12=>
 if e11=e12 then
 aI (
 aI (
 aI (
 aI (
 some true))))
 else
 aB (I64 (x8+(1:Int))) <|
 some (.inl (x8+(1:Int)))
 else
 aI (
 some (.inl ()))) (0:Int)) λ_=>
 aB (I64 (x3+(1:Int))) <|
 some (.inl (x3+(1:Int)))
 else
 aI (
 some (.inl ()))) (0:Int)) λ_=>
 some false
def oO (p0:Layout):Option Int:=
 cU (
 aT (λ(x6,b7)=>
 if x6 < (p0.balises.length:Int) then
 aU p0.balises x6 λe10=>
 aA (
 if e10.id < (1:Int) then
 some true
 else
 if (1073741824:Int) < e10.id then
 some true
 else
 if e10.el < (0:Int) then
 some true
 else
 if (p0.elements.length:Int)≤e10.el then
 some true
 else
 if e10.offset < (0:Int) then
 some true
 else
 aU p0.elements e10.el λe18=>
 some (decide (e18.length < e10.offset))) λx11=>
 if x11=true then
 aI (
 aI (
 some (1:Int)))
 else
 aB ((b7++([e10.id]:List Int)).length≤1000000000) <|
 aB (I64 (x6+(1:Int))) <|
 some (.inl ((x6+(1:Int)),(b7++([e10.id]:List Int))))
 else
 aI (
 some (.inl b7))) ((0:Int),([]:List Int))) λb1=>
 aA (oN b1) λr25=>
 if r25=true then
 some (8:Int)
 else
 some (0:Int)
def rR (p0:Layout):Option Int:=
 aA (rP p0) λr1=>
 if r1=(0:Int) then
 aA (nF p0) λr3=>
 if r3=(0:Int) then
 aA (oM p0) λr5=>
 if r5=(0:Int) then
 aA (oO p0) λr7=>
 some r7
 else
 some r5
 else
 some r3
 else
 some r1
def jA (p0:Layout) (p1:Int):Option Bool:=
 some ((decide ((0:Int)≤p1))&&(decide (p1 < (p0.elements.length:Int))))
def jV (p0:Int) (p1:Int) (p2:Int):Option (Int×Bool):=
 if ((decide (p0=(1:Int)))||(decide (p0=(3:Int))))=true then
 some ((0:Int),(bif decide ((min p1 p2)=(0:Int)) then ((decide ((max p1 p2)=(1:Int)))||((decide (p0=(3:Int)))&&((decide ((min p1 p2)=(2:Int)))&&(decide ((max p1 p2)=(3:Int)))))) else ((decide (p0=(3:Int)))&&((decide ((min p1 p2)=(2:Int)))&&(decide ((max p1 p2)=(3:Int)))))))
 else
 if ((decide (p0=(2:Int)))&&((decide ((min p1 p2)=(0:Int)))&&(decide ((max p1 p2)=(1:Int)))))=true then
 some ((1:Int),true)
 else
 if ((decide (p0=(2:Int)))&&((decide ((min p1 p2)=(0:Int)))&&(decide ((max p1 p2)=(2:Int)))))=true then
 some ((2:Int),true)
 else
 some ((0:Int),false)
def uD (p0:Int) (p1:Int):Option ((List Int)):=
 aA (
 aT (λ(side6,b7)=>
 if side6 < (4:Int) then
 aA (jV p0 p1 side6) λ(r11,r12)=>
 if r12=true then
 aB ((b7++([side6]:List Int)).length≤1000000000) <|
 aB (I64 (side6+(1:Int))) <|
 some (.inl ((side6+(1:Int)),(b7++([side6]:List Int))))
 else
 aB (I64 (side6+(1:Int))) <|
 some (.inl ((side6+(1:Int)),b7))
 else
 aI (
 some b7)) ((0:Int),([]:List Int))) λb1=>
 some b1
def kN (p0:Layout) (p1:End):Option ((List Step)):=
 aA (jA p0 p1.el) λr1=>
 if (!(r1))=true then
 some ([]:List Step)
 else
 aU p0.elements p1.el λe3=>
 aA (uD e3.kind p1.side) λr4=>
 aA (
 aT (λ(i10,b11)=>
 if i10 < (r4.length:Int) then
 aU r4 i10 λe14=>
 aB ((b11++([(⟨p1.el,p1.side,e14⟩:Step)]:List Step)).length≤1000000000) <|
 aB (I64 (i10+(1:Int))) <|
 some (.inl ((i10+(1:Int)),(b11++([(⟨p1.el,p1.side,e14⟩:Step)]:List Step))))
 else
 aI (
 some b11)) ((0:Int),([]:List Step))) λb5=>
 some b5
def nD (p0:Layout) (p1:Step):Option (Int×Bool):=
 aA (jA p0 p1.el) λr1=>
 if (!(r1))=true then
 some ((0:Int),false)
 else
 aU p0.elements p1.el λe3=>
 aA (jV e3.kind p1.inV p1.out) λ(r5,r6)=>
 some (r5,r6)
def jU (p0:Layout) (p1:Step):Option (End×Bool):=
 aA (gC p0 (⟨p1.el,p1.out⟩:End)) λ(r2,r3)=>
 some (r2,r3)
def rL (p0:Layout) (p1:(List Step)):Option Bool:=
 if ((decide ((p1.length:Int)=(0:Int)))||(decide ((64:Int) < (p1.length:Int))))=true then
 some false
 else
 cU (
 aT (λi5=>
 if i5 < (p1.length:Int) then
 cU (
 aU p1 i5 λe9=>
 aA (nD p0 e9) λ(r11,r12)=>
 if (!(r12))=true then
 aI (
 aI (
 aI (
 some false)))
 else
 cU (
 if (0:Int) < i5 then
 aB (I64 (i5 - (1:Int))) <|
 aU p1 (i5 - (1:Int)) λe20=>
 aA (jU p0 e20) λ(r22,r23)=>
 aA (
 if (!(r23))=true then
 some true
 else
 aU p1 i5 λe27=>
 if r22.el=e27.el then
 aU p1 i5 λe29=>
 some (!(decide (r22.side=e29.inV)))
 else
 some true) λx24=>
 if x24=true then
 aI (
 aI (
 aI (
 aI (
 some false))))
 else
 some (.inl ())
 else
 some (.inl ())) λ_=>
 aT (λk36=>
 if k36 < i5 then
 aU p1 k36 λe39=>
 aU p1 i5 λe40=>
 if e39.el=e40.el then
 aI (
 aI (
 aI (
 aI (
 some false))))
 else
 aB (I64 (k36+(1:Int))) <|
 some (.inl (k36+(1:Int)))
 else
 aI (
 some (.inl ()))) (0:Int)) λ_=>
 aB (I64 (i5+(1:Int))) <|
 some (.inl (i5+(1:Int)))
 else
 aI (
 some (.inl ()))) (0:Int)) λ_=>
 some true
def gI (p0:Layout) (p1:Int):Option Int:=
 if ((decide (p1 < (0:Int)))||(decide ((p0.elements.length:Int)≤p1)))=true then
 some (-1:Int)
 else
 aU p0.elements p1 λe3=>
 some e3.sectionV
def wC (p0:(List Int)) (p1:Int):Option Bool:=
 cU (
 aT (λi3=>
 if i3 < (p0.length:Int) then
 aU p0 i3 λe6=>
 if e6=p1 then
 aI (
 aI (
 some true))
 else
 aB (I64 (i3+(1:Int))) <|
 some (.inl (i3+(1:Int)))
 else
 aI (
 some (.inl ()))) (0:Int)) λ_=>
 some false
def iR (p0:Layout) (p1:(List Step)):Option ((List Int)):=
 aA (
 aT (λ(i6,b7)=>
 if i6 < (p1.length:Int) then
 aA (
 aU p1 i6 λe12=>
 aA (jA p0 e12.el) λr13=>
 if r13=true then
 aU p1 i6 λe15=>
 aU p0.elements e15.el λe16=>
 aA (wC b7 e16.sectionV) λr17=>
 some (!(r17))
 else
 some false) λx10=>
 if x10=true then
 aU p1 i6 λe19=>
 aU p0.elements e19.el λe20=>
 aB ((b7++([e20.sectionV]:List Int)).length≤1000000000) <|
 aB (I64 (i6+(1:Int))) <|
 some (.inl ((i6+(1:Int)),(b7++([e20.sectionV]:List Int))))
 else
 aB (I64 (i6+(1:Int))) <|
 some (.inl ((i6+(1:Int)),b7))
 else
 aI (
 some b7)) ((0:Int),([]:List Int))) λb1=>
 some b1
def uC (p0:Layout) (p1:End) (p2:(List Step)):Option Bool:=
 aA (
 if (p2.length:Int)=(0:Int) then
 some true
 else
 if (12:Int) < (p2.length:Int) then
 some true
 else
 aU p2 (0:Int) λe5=>
 if e5.el=p1.el then
 aU p2 (0:Int) λe7=>
 if e7.inV=p1.side then
 aA (rL p0 p2) λr9=>
 some (!(r9))
 else
 some true
 else
 some true) λx1=>
 if x1=true then
 some false
 else
 aA (
 aT (λ(changes15,i16)=>
 if i16 < (p2.length:Int) then
 aU p2 i16 λe19=>
 aA (gI p0 e19.el) λr20=>
 aB (I64 (i16 - (1:Int))) <|
 aU p2 (i16 - (1:Int)) λe22=>
 aA (gI p0 e22.el) λr23=>
 if r20=r23 then
 aB (I64 (i16+(1:Int))) <|
 some (.inl (changes15,(i16+(1:Int))))
 else
 aB (I64 (changes15+(1:Int))) <|
 aB (I64 (i16+(1:Int))) <|
 some (.inl ((changes15+(1:Int)),(i16+(1:Int))))
 else
 aI (
 some changes15)) ((1:Int),(1:Int))) λchanges11=>
 aA (iR p0 p2) λr29=>
 some (decide (changes11=(r29.length:Int)))
def mC (p0:Layout) (p1:End):Option Int:=
 cU (
 aT (λx3=>
 if x3 < (p0.signals.length:Int) then
 aU p0.signals x3 λe6=>
 aB (End.ok e6.atV∧End.ok p1) <|
 if e6.atV=p1 then
 aI (
 aI (
 some x3))
 else
 aB (I64 (x3+(1:Int))) <|
 some (.inl (x3+(1:Int)))
 else
 aI (
 some (.inl ()))) (0:Int)) λ_=>
 some (-1:Int)
def lB (p0:Layout) (p1:Step):Option (Int×Bool):=
 aA (mC p0 (⟨p1.el,p1.out⟩:End)) λr1=>
 aA (jU p0 p1) λ(r3,r4)=>
 some (r1,((decide ((0:Int)≤r1))||(!(r4))))
def nB (p0:Layout) (p1:Int) (p2:Int):Option ByteArray:=
 if p2 < (0:Int) then
 aU p0.signals p1 λe2=>
 aB (e2.name.size+(⟨#[45,101,110,100]⟩:ByteArray).size≤9223372036854775807) <|
 some (e2.name++(⟨#[45,101,110,100]⟩:ByteArray))
 else
 aU p0.signals p1 λe4=>
 aB (e4.name.size+(⟨#[45]⟩:ByteArray).size≤9223372036854775807) <|
 aU p0.signals p2 λe6=>
 aB ((e4.name++(⟨#[45]⟩:ByteArray)).size+e6.name.size≤9223372036854775807) <|
 some ((e4.name++(⟨#[45]⟩:ByteArray))++e6.name)
def pZ (p0:(List Setting)) (p1:Setting):Option ((List Setting)):=
 aA (
 aT (λ(i7,b8)=>
 aA (
 if i7 < (p0.length:Int) then
 aU p0 i7 λe13=>
 if e13.el < p1.el then
 some true
 else
 aU p0 i7 λe15=>
 if e15.el=p1.el then
 aU p0 i7 λe17=>
 some (decide (e17.pos < p1.pos))
 else
 some false
 else
 some false) λx10=>
 if x10=true then
 aU p0 i7 λe19=>
 aB ((b8++([e19]:List Setting)).length≤1000000000) <|
 aB (I64 (i7+(1:Int))) <|
 some (.inl ((i7+(1:Int)),(b8++([e19]:List Setting))))
 else
 aI (
 some (i7,b8))) ((0:Int),([]:List Setting))) λ(i1,b2)=>
 aA (
 aA (
 if i1=(p0.length:Int) then
 some true
 else
 aU p0 i1 λe28=>
 aB (Setting.ok e28∧Setting.ok p1) <|
 some (!(decide (e28=p1)))) λx25=>
 if x25=true then
 aB ((b2++([p1]:List Setting)).length≤1000000000) <|
 some (b2++([p1]:List Setting))
 else
 some b2) λb23=>
 aB (0≤i1∧i1≤(p0.length:Int)∧(p0.length:Int)≤(p0.length:Int)) <|
 aB ((b23++(sub p0 i1 (p0.length:Int))).length≤1000000000) <|
 some (b23++(sub p0 i1 (p0.length:Int)))
def kM (p0:Layout) (p1:(List Step)):Option ((List Setting)):=
 aA (
 aT (λ(out5,i6)=>
 if i6 < (p1.length:Int) then
 aU p1 i6 λe9=>
 aA (nD p0 e9) λ(r11,r12)=>
 if (r12&&(!(decide (r11=(0:Int)))))=true then
 aU p1 i6 λe15=>
 aA (pZ out5 (⟨e15.el,r11⟩:Setting)) λr16=>
 aB (I64 (i6+(1:Int))) <|
 some (.inl (r16,(i6+(1:Int))))
 else
 aB (I64 (i6+(1:Int))) <|
 some (.inl (out5,(i6+(1:Int))))
 else
 aI (
 some out5)) (([]:List Setting),(0:Int))) λout1=>
 some out1
def mB (p0:Layout) (p1:(List Step)):Option Int:=
 aA (
 aT (λ(sum5,i6)=>
 if i6 < (p1.length:Int) then
 aU p1 i6 λe9=>
 aA (jA p0 e9.el) λr10=>
 if r10=true then
 aU p1 i6 λe12=>
 aU p0.elements e12.el λe13=>
 aB (I64 (sum5+e13.length)) <|
 aB (I64 (i6+(1:Int))) <|
 some (.inl ((sum5+e13.length),(i6+(1:Int))))
 else
 aB (I64 (i6+(1:Int))) <|
 some (.inl (sum5,(i6+(1:Int))))
 else
 aI (
 some sum5)) ((0:Int),(0:Int))) λsum1=>
 some sum1
def oK (p0:Int):Option ByteArray:=
 aA (
 aT (λ(n5,s6)=>
 if (0:Int) < n5 then
 aB (¬ (10:Int)=0) <|
 aB (I64 ((48:Int)+(n5.tmod (10:Int)))) <|
 aB ((strOfNums ([(IntKind.u8.wrap ((48:Int)+(n5.tmod (10:Int))))]:List Int)).size+s6.size≤9223372036854775807) <|
 aB (¬ (10:Int)=0) <|
 some (.inl ((IntKind.i64.wrap (n5.tdiv (10:Int))),((strOfNums ([(IntKind.u8.wrap ((48:Int)+(n5.tmod (10:Int))))]:List Int))++s6)))
 else
 aI (
 some s6)) (p0,(⟨#[]⟩:ByteArray))) λs1=>
 some s1
def eZ:Nat→Paths→Layout→End→End→(List Step)→Option Paths
 | 0,_,_,_,_,_=>none
 | fu+1,p0,p1,p2,p3,p4=>
 aA (kN p1 p3) λr1=>
 aT (λ(i5,b6)=>
 if i5 < (r1.length:Int) then
 aB ((([]:List Step)++p4).length≤1000000000) <|
 aU r1 i5 λe10=>
 aB (((([]:List Step)++p4)++([e10]:List Step)).length≤1000000000) <|
 aA (uC p1 p2 ((([]:List Step)++p4)++([e10]:List Step))) λr12=>
 if (!(r12))=true then
 aB (I64 (i5+(1:Int))) <|
 some (.inl ((i5+(1:Int)),b6))
 else
 aU r1 i5 λe15=>
 aA (lB p1 e15) λ(r17,r18)=>
 if r18=true then
 aB ((b6++([((([]:List Step)++p4)++([e10]:List Step))]:List (List Step))).length≤1000000000) <|
 aB (I64 (i5+(1:Int))) <|
 some (.inl ((i5+(1:Int)),(b6++([((([]:List Step)++p4)++([e10]:List Step))]:List (List Step)))))
 else
 aU r1 i5 λe22=>
 aA (jU p1 e22) λ(r24,r25)=>
 aA ((eZ fu) (⟨b6⟩:Paths) p1 p2 r24 ((([]:List Step)++p4)++([e10]:List Step))) λr26=>
 aB (I64 (i5+(1:Int))) <|
 some (.inl ((i5+(1:Int)),r26.l))
 else
 aI (
 some (⟨b6⟩:Paths))) ((0:Int),p0.l)
def nC (p0:Paths) (p1:Layout) (p2:End) (p3:End) (p4:(List Step)):Option Paths:=eZ cA p0 p1 p2 p3 p4
def uB (p0:Layout) (p1:Int):Option ((List Route)):=
 if ((decide (p1 < (0:Int)))||(decide ((p0.signals.length:Int)≤p1)))=true then
 some ([]:List Route)
 else
 aU p0.signals p1 λe3=>
 aA (gC p0 e3.atV) λ(r5,r6)=>
 if (!(r6))=true then
 some ([]:List Route)
 else
 aA (nC (⟨([]:List (List Step))⟩:Paths) p0 r5 r5 []) λr8=>
 aA (
 aT (λ(i14,b15)=>
 if i14 < (r8.l.length:Int) then
 aA (
 aU r8.l i14 λe20=>
 aB (I64 ((e20.length:Int) - (1:Int))) <|
 aU e20 ((e20.length:Int) - (1:Int)) λe22=>
 aA (lB p0 e22) λ(r24,r25)=>
 aA (nB p0 p1 r24) λr26=>
 aA (kM p0 e20) λr27=>
 aA (iR p0 e20) λr28=>
 aA (mB p0 e20) λr29=>
 aU p0.signals p1 λe30=>
 aA (gI p0 e30.atV.el) λr31=>
 aA (
 aT (λ(before36,k37)=>
 if k37 < i14 then
 aU r8.l k37 λe40=>
 aU r8.l k37 λe41=>
 aB (I64 ((e41.length:Int) - (1:Int))) <|
 aU e40 ((e41.length:Int) - (1:Int)) λe43=>
 aA (lB p0 e43) λ(r45,r46)=>
 aA (nB p0 p1 r45) λr47=>
 aA (nB p0 p1 r24) λr48=>
 if r47=r48 then
 aB (I64 (before36+(1:Int))) <|
 aB (I64 (k37+(1:Int))) <|
 some (.inl ((before36+(1:Int)),(k37+(1:Int))))
 else
 aB (I64 (k37+(1:Int))) <|
 some (.inl (before36,(k37+(1:Int))))
 else
 aI (
 some before36)) ((1:Int),(0:Int))) λbefore32=>
 aA (
 if (1:Int) < before32 then
 aB (r26.size+(⟨#[46]⟩:ByteArray).size≤9223372036854775807) <|
 aA (oK before32) λr58=>
 aB ((r26++(⟨#[46]⟩:ByteArray)).size+r58.size≤9223372036854775807) <|
 some ((r26++(⟨#[46]⟩:ByteArray))++r58)
 else
 some r26) λc54=>
 aB ((b15++([(⟨c54,p1,r24,e20,r27,r28,r31,r29,([]:List Step),([]:List Setting),([]:List Int),([]:List Setting),([]:List Int),([]:List End)⟩:Route)]:List Route)).length≤1000000000) <|
 some (b15++([(⟨c54,p1,r24,e20,r27,r28,r31,r29,([]:List Step),([]:List Setting),([]:List Int),([]:List Setting),([]:List Int),([]:List End)⟩:Route)]:List Route))) λb18=>
 aB (I64 (i14+(1:Int))) <|
 some (.inl ((i14+(1:Int)),b18))
 else
 aI (
 some b15)) ((0:Int),([]:List Route))) λb9=>
 some b9
def wB (p0:Layout):Option ((List Route)×Int):=
 aA (rR p0) λr1=>
 if r1=(0:Int) then
 aA (
 aT (λ(i8,b9)=>
 if i8 < (p0.signals.length:Int) then
 aA (uB p0 i8) λr12=>
 aB ((b9++r12).length≤1000000000) <|
 aB (I64 (i8+(1:Int))) <|
 some (.inl ((i8+(1:Int)),(b9++r12)))
 else
 aI (
 some b9)) ((0:Int),([]:List Route))) λb3=>
 if (48:Int) < (b3.length:Int) then
 some (([]:List Route),(2:Int))
 else
 some (b3,(0:Int))
 else
 some (([]:List Route),r1)
def qB (p0:Layout):Option ((List Int)):=
 aA (
 aT (λ(x6,b7)=>
 if x6 < (p0.elements.length:Int) then
 aU p0.elements x6 λe10=>
 if e10.kind=(2:Int) then
 aB ((b7++([x6]:List Int)).length≤1000000000) <|
 aB (I64 (x6+(1:Int))) <|
 some (.inl ((x6+(1:Int)),(b7++([x6]:List Int))))
 else
 aB (I64 (x6+(1:Int))) <|
 some (.inl ((x6+(1:Int)),b7))
 else
 aI (
 some b7)) ((0:Int),([]:List Int))) λb1=>
 some b1
def tZ (p0:Layout) (p1:Route):Option (Signal×Bool):=
 if ((decide (p1.exit < (0:Int)))||(decide ((p0.signals.length:Int)≤p1.exit)))=true then
 some ((⟨(⟨#[]⟩:ByteArray),(⟨(0:Int),(0:Int)⟩:End),(0:Int)⟩:Signal),false)
 else
 aU p0.signals p1.exit λe3=>
 some (e3,true)
def oJ (p0:Layout) (p1:Route) (p2:(List Step)) (p3:Int):Option Bool:=
 cU (
 aT (λx3=>
 if x3 < (p2.length:Int) then
 aU p2 x3 λe6=>
 if e6.el=p3 then
 aI (
 aI (
 some true))
 else
 aB (I64 (x3+(1:Int))) <|
 some (.inl (x3+(1:Int)))
 else
 aI (
 some (.inl ()))) (0:Int)) λ_=>
 cU (
 aT (λx14=>
 if x14 < (p1.sections.length:Int) then
 aU p1.sections x14 λe17=>
 aA (gI p0 p3) λr18=>
 if e17=r18 then
 aI (
 aI (
 some true))
 else
 aB (I64 (x14+(1:Int))) <|
 some (.inl (x14+(1:Int)))
 else
 aI (
 some (.inl ()))) (0:Int)) λ_=>
 some false
def uA (p0:Layout) (p1:Route):Option Route:=
 aA (tZ p0 (⟨p1.name,p1.entry,p1.exit,p1.path,p1.points,p1.sections,p1.approach,p1.length,([]:List Step),([]:List Setting),([]:List Int),p1.flank,p1.guards,p1.gaps⟩:Route)) λ(r2,r3)=>
 if (!(r3))=true then
 some (⟨p1.name,p1.entry,p1.exit,p1.path,p1.points,p1.sections,p1.approach,p1.length,([]:List Step),([]:List Setting),([]:List Int),p1.flank,p1.guards,p1.gaps⟩:Route)
 else
 aA (gC p0 r2.atV) λ(r6,r7)=>
 aA (
 aT (λ(joined17,c18,c19,b20)=>
 aA (
 if joined17=true then
 aA (mB p0 b20) λr25=>
 if r25 < r2.overlap then
 if (b20.length:Int) < (12:Int) then
 aA (oJ p0 (⟨p1.name,p1.entry,p1.exit,p1.path,p1.points,p1.sections,p1.approach,p1.length,b20,([]:List Setting),([]:List Int),p1.flank,p1.guards,p1.gaps⟩:Route) b20 c18) λr28=>
 some (!(r28))
 else
 some false
 else
 some false
 else
 some false) λx22=>
 if x22=true then
 aA (kN p0 (⟨c18,c19⟩:End)) λr30=>
 if (r30.length:Int)=(0:Int) then
 aI (
 some (b20,c18,c19))
 else
 aU r30 (0:Int) λe33=>
 aB ((b20++([e33]:List Step)).length≤1000000000) <|
 aU r30 (0:Int) λe35=>
 aA (jU p0 e35) λ(r37,r38)=>
 some (.inl (r38,r37.el,r37.side,(b20++([e33]:List Step))))
 else
 aI (
 some (b20,c18,c19))) (r7,r6.el,r6.side,([]:List Step))) λ(b8,c9,c10)=>
 aA (kM p0 b8) λr40=>
 aA (iR p0 b8) λr41=>
 some (⟨p1.name,p1.entry,p1.exit,p1.path,p1.points,p1.sections,p1.approach,p1.length,b8,r40,r41,p1.flank,p1.guards,p1.gaps⟩:Route)
def lZ (p0:Layout) (p1:Step):Option ((List End)):=
 if ((decide (p1.el < (0:Int)))||(decide ((p0.elements.length:Int)≤p1.el)))=true then
 some ([]:List End)
 else
 aU p0.elements p1.el λe3=>
 aA (jV e3.kind p1.inV p1.out) λ(r5,r6)=>
 aA (
 aT (λ(side12,b13)=>
 aA (nZ e3.kind) λr15=>
 if side12 < r15 then
 if (r6&&((!(decide (side12=p1.inV)))&&(!(decide (side12=p1.out)))))=true then
 aB ((b13++([(⟨p1.el,side12⟩:End)]:List End)).length≤1000000000) <|
 aB (I64 (side12+(1:Int))) <|
 some (.inl ((side12+(1:Int)),(b13++([(⟨p1.el,side12⟩:End)]:List End))))
 else
 aB (I64 (side12+(1:Int))) <|
 some (.inl ((side12+(1:Int)),b13))
 else
 aI (
 some b13)) ((0:Int),([]:List End))) λb7=>
 some b7
def rI (p0:Layout) (p1:Route):Option ((List End)):=
 aA (
 aT (λ(i6,b7)=>
 if i6 < (p1.path.length:Int) then
 aU p1.path i6 λe10=>
 aA (lZ p0 e10) λr11=>
 aB ((b7++r11).length≤1000000000) <|
 aB (I64 (i6+(1:Int))) <|
 some (.inl ((i6+(1:Int)),(b7++r11)))
 else
 aI (
 some b7)) ((0:Int),([]:List End))) λb1=>
 aA (
 aT (λ(i20,b21)=>
 if i20 < (p1.over.length:Int) then
 aU p1.over i20 λe24=>
 aA (lZ p0 e24) λr25=>
 aB ((b21++r25).length≤1000000000) <|
 aB (I64 (i20+(1:Int))) <|
 some (.inl ((i20+(1:Int)),(b21++r25)))
 else
 aI (
 some b21)) ((0:Int),b1)) λb15=>
 some b15
def pV (p0:(List Step)) (p1:Int):Option Bool:=
 cU (
 aT (λi3=>
 if i3 < (p0.length:Int) then
 aU p0 i3 λe6=>
 if e6.el=p1 then
 aI (
 aI (
 some true))
 else
 aB (I64 (i3+(1:Int))) <|
 some (.inl (i3+(1:Int)))
 else
 aI (
 some (.inl ()))) (0:Int)) λ_=>
 some false
def mL (p0:(List Setting)) (p1:Setting):Option Bool:=
 cU (
 aT (λi3=>
 if i3 < (p0.length:Int) then
 aU p0 i3 λe6=>
 aB (Setting.ok e6∧Setting.ok p1) <|
 if e6=p1 then
 aI (
 aI (
 some true))
 else
 aB (I64 (i3+(1:Int))) <|
 some (.inl (i3+(1:Int)))
 else
 aI (
 some (.inl ()))) (0:Int)) λ_=>
 some false
def rH (p0:Route) (p1:Setting):Option Bool:=
 aA (
 aA (mL p0.points p1) λr3=>
 if r3=true then
 some true
 else
 aA (mL p0.overPoints p1) λr5=>
 if r5=true then
 some true
 else
 aA (mL p0.flank p1) λr7=>
 some r7) λx1=>
 some x1
def sL (p0:Route) (p1:End):Option (Setting×Int×Bool):=
 aA (
 if p1.side=(2:Int) then
 some ((2:Int),(1:Int))
 else
 some ((1:Int),(2:Int))) λ(c1,c2)=>
 aA (rH p0 (⟨p1.el,c1⟩:Setting)) λr5=>
 if r5=true then
 some ((⟨(0:Int),(0:Int)⟩:Setting),(-1:Int),false)
 else
 some ((⟨p1.el,c2⟩:Setting),(-1:Int),true)
def sM (p0:Int) (p1:Int) (p2:Int):Option (Int×Bool):=
 cU (
 aT (λout3=>
 if out3 < (4:Int) then
 aA (jV p0 p1 out3) λ(r7,r8)=>
 if (r8&&((decide (r7=(0:Int)))||(decide (r7=p2))))=true then
 aI (
 aI (
 some (out3,true)))
 else
 aB (I64 (out3+(1:Int))) <|
 some (.inl (out3+(1:Int)))
 else
 aI (
 some (.inl ()))) (0:Int)) λ_=>
 some ((0:Int),false)
def pW (p0:Layout) (p1:Route) (p2:End):Option (Setting×Int×Bool):=
 cU (
 aT (λ(n8,c9,c10)=>
 if n8 < (4:Int) then
 aA (gC p0 (⟨c9,c10⟩:End)) λ(r14,r15)=>
 if (!(r15))=true then
 aI (
 aI (
 some ((⟨(0:Int),(0:Int)⟩:Setting),(-1:Int),true)))
 else
 aA (mC p0 r14) λr19=>
 if (0:Int)≤r19 then
 aI (
 aI (
 some ((⟨(0:Int),(0:Int)⟩:Setting),r19,true)))
 else
 aA (
 aA (pV p1.path r14.el) λr25=>
 if r25=true then
 some true
 else
 aA (pV p1.over r14.el) λr27=>
 some r27) λx23=>
 if x23=true then
 aI (
 aI (
 some ((⟨(0:Int),(0:Int)⟩:Setting),(-1:Int),true)))
 else
 aA (
 if r14.el < (0:Int) then
 some true
 else
 if (p0.elements.length:Int)≤r14.el then
 some true
 else
 aU p0.elements r14.el λe35=>
 if e35.kind=(2:Int) then
 some (decide (r14.side=(0:Int)))
 else
 some false) λx31=>
 if x31=true then
 aI (
 aI (
 some ((⟨(0:Int),(0:Int)⟩:Setting),(-1:Int),false)))
 else
 aU p0.elements r14.el λe40=>
 if e40.kind=(2:Int) then
 aA (sL p1 r14) λ(r43,r44,r45)=>
 aI (
 aI (
 some (r43,r44,r45)))
 else
 aU p0.elements r14.el λe48=>
 aA (sM e48.kind r14.side (0:Int)) λ(r50,r51)=>
 aB (I64 (n8+(1:Int))) <|
 some (.inl ((n8+(1:Int)),r14.el,r50))
 else
 aI (
 some (.inl (c9,c10)))) ((0:Int),p2.el,p2.side)) λ(c1,c2)=>
 some ((⟨(0:Int),(0:Int)⟩:Setting),(-1:Int),false)
def wA (p0:(List Setting)) (p1:Setting):Option ((List Setting)):=
 aA (mL p0 p1) λr1=>
 if r1=true then
 some p0
 else
 aA (
 aT (λ(done11,i12,b13)=>
 if i12 < (p0.length:Int) then
 aA (
 aA (
 if (!(done11))=true then
 aU p0 i12 λe22=>
 some (decide (p1.el < e22.el))
 else
 some false) λx19=>
 if x19=true then
 aB ((b13++([p1]:List Setting)).length≤1000000000) <|
 some (true,(b13++([p1]:List Setting)))
 else
 some (done11,b13)) λ(done16,b17)=>
 aU p0 i12 λe25=>
 aB ((b17++([e25]:List Setting)).length≤1000000000) <|
 aB (I64 (i12+(1:Int))) <|
 some (.inl (done16,(i12+(1:Int)),(b17++([e25]:List Setting))))
 else
 aI (
 some (done11,b13))) (false,(0:Int),([]:List Setting))) λ(done3,b4)=>
 if (!(done3))=true then
 aB ((b4++([p1]:List Setting)).length≤1000000000) <|
 some (b4++([p1]:List Setting))
 else
 some b4
def wE (p0:(List Int)) (p1:Int):Option Bool:=
 cU (
 aT (λi3=>
 if i3 < (p0.length:Int) then
 aU p0 i3 λe6=>
 if e6=p1 then
 aI (
 aI (
 some true))
 else
 aB (I64 (i3+(1:Int))) <|
 some (.inl (i3+(1:Int)))
 else
 aI (
 some (.inl ()))) (0:Int)) λ_=>
 some false
def mE (p0:(List Int)) (p1:Int):Option ((List Int)):=
 aA (wE p0 p1) λr1=>
 if r1=true then
 some p0
 else
 aA (
 aT (λ(done11,i12,b13)=>
 if i12 < (p0.length:Int) then
 aA (
 aA (
 if (!(done11))=true then
 aU p0 i12 λe22=>
 some (decide (p1 < e22))
 else
 some false) λx19=>
 if x19=true then
 aB ((b13++([p1]:List Int)).length≤1000000000) <|
 some (true,(b13++([p1]:List Int)))
 else
 some (done11,b13)) λ(done16,b17)=>
 aU p0 i12 λe25=>
 aB ((b17++([e25]:List Int)).length≤1000000000) <|
 aB (I64 (i12+(1:Int))) <|
 some (.inl (done16,(i12+(1:Int)),(b17++([e25]:List Int))))
 else
 aI (
 some (done11,b13))) (false,(0:Int),([]:List Int))) λ(done3,b4)=>
 if (!(done3))=true then
 aB ((b4++([p1]:List Int)).length≤1000000000) <|
 some (b4++([p1]:List Int))
 else
 some b4
def uF (p0:(List Int)):Option ((List Int)):=
 aA (
 aT (λ(out5,i6)=>
 if i6 < (p0.length:Int) then
 aU p0 i6 λe9=>
 aA (mE out5 e9) λr10=>
 aB (I64 (i6+(1:Int))) <|
 some (.inl (r10,(i6+(1:Int))))
 else
 aI (
 some out5)) (([]:List Int),(0:Int))) λout1=>
 some out1
def rT (p0:(List Int)) (p1:(List Int)):Option ((List Int)):=
 aA (uF p0) λr1=>
 aA (
 aT (λ(out6,i7)=>
 if i7 < (p1.length:Int) then
 aU p1 i7 λe10=>
 aA (mE out6 e10) λr11=>
 aB (I64 (i7+(1:Int))) <|
 some (.inl (r11,(i7+(1:Int))))
 else
 aI (
 some out6)) (r1,(0:Int))) λout2=>
 some out2
def tY (p0:Layout) (p1:Route):Option Route:=
 aA (rI p0 (⟨p1.name,p1.entry,p1.exit,p1.path,p1.points,p1.sections,p1.approach,p1.length,p1.over,p1.overPoints,p1.overSections,([]:List Setting),([]:List Int),([]:List End)⟩:Route)) λr1=>
 aA (
 aT (λ(i11,c12,c13,b14)=>
 if i11 < (r1.length:Int) then
 aU r1 i11 λe17=>
 aA (pW p0 (⟨p1.name,p1.entry,p1.exit,p1.path,p1.points,p1.sections,p1.approach,p1.length,p1.over,p1.overPoints,p1.overSections,c12,c13,b14⟩:Route) e17) λ(r19,r20,r21)=>
 aA (
 if (!(r21))=true then
 aU r1 i11 λe25=>
 aB ((b14++([e25]:List End)).length≤1000000000) <|
 some (b14++([e25]:List End))
 else
 some b14) λb22=>
 aA (
 if r19.pos=(0:Int) then
 some c12
 else
 aA (wA c12 r19) λr30=>
 some r30) λc27=>
 if (0:Int)≤r20 then
 aA (rT c13 ([r20]:List Int)) λr32=>
 aB (I64 (i11+(1:Int))) <|
 some (.inl ((i11+(1:Int)),c27,r32,b22))
 else
 aB (I64 (i11+(1:Int))) <|
 some (.inl ((i11+(1:Int)),c27,c13,b22))
 else
 aI (
 some (c12,c13,b14))) ((0:Int),([]:List Setting),([]:List Int),([]:List End))) λ(c2,c3,b4)=>
 some (⟨p1.name,p1.entry,p1.exit,p1.path,p1.points,p1.sections,p1.approach,p1.length,p1.over,p1.overPoints,p1.overSections,c2,c3,b4⟩:Route)
def rG (p0:Layout):Option (Table×Int):=
 aA (wB p0) λ(r2,r3)=>
 if r3=(0:Int) then
 aA (qB p0) λr5=>
 aA (
 aT (λ(x11,b12)=>
 if x11 < (r2.length:Int) then
 aU r2 x11 λe15=>
 aA (uA p0 e15) λr16=>
 aA (tY p0 r16) λr17=>
 aB ((b12++([r17]:List Route)).length≤1000000000) <|
 aB (I64 (x11+(1:Int))) <|
 some (.inl ((x11+(1:Int)),(b12++([r17]:List Route))))
 else
 aI (
 some b12)) ((0:Int),([]:List Route))) λb6=>
 aA (
 aT (λ(x26,b27)=>
 if x26 < (r5.length:Int) then
 aU r5 x26 λe30=>
 aA (gI p0 e30) λr31=>
 aB ((b27++([r31]:List Int)).length≤1000000000) <|
 aB (I64 (x26+(1:Int))) <|
 some (.inl ((x26+(1:Int)),(b27++([r31]:List Int))))
 else
 aI (
 some b27)) ((0:Int),([]:List Int))) λb21=>
 some ((⟨b6,r5,b21,(p0.sections.length:Int),(p0.signals.length:Int)⟩:Table),(0:Int))
 else
 some ((⟨([]:List Route),([]:List Int),([]:List Int),(0:Int),(0:Int)⟩:Table),r3)
def eS (p0:Int) (p1:Int):Option Bool:=
 some ((decide ((0:Int)≤p0))&&(decide (p0 < p1)))
def kG (p0:Table):Option Bool:=
 if (p0.homes.length:Int)=(p0.points.length:Int) then
 cU (
 aT (λx4=>
 if x4 < (p0.points.length:Int) then
 aU p0.points x4 λe7=>
 aA (
 if e7 < (0:Int) then
 some true
 else
 if (0:Int) < x4 then
 aB (I64 (x4 - (1:Int))) <|
 aU p0.points (x4 - (1:Int)) λe15=>
 if e7≤e15 then
 some true
 else
 aU p0.homes x4 λe17=>
 aA (eS e17 p0.sections) λr18=>
 some (!(r18))
 else
 aU p0.homes x4 λe12=>
 aA (eS e12 p0.sections) λr13=>
 some (!(r13))) λx8=>
 if x8=true then
 aI (
 aI (
 some false))
 else
 aB (I64 (x4+(1:Int))) <|
 some (.inl (x4+(1:Int)))
 else
 aI (
 some (.inl ()))) (0:Int)) λ_=>
 some true
 else
 some false
def fB (p0:List (List Int)):Option (List Int):=
 aB (p0.length≤1000∧p0.flatten.length≤1000000000) <|
 some p0.flatten
def kY (p0:Table) (p1:Route):Option Bool:=
 aA (
 aA (eS p1.entry p0.signals) λr3=>
 if (!(r3))=true then
 some true
 else
 if p1.exit=(-1:Int) then
 some false
 else
 aA (eS p1.exit p0.signals) λr6=>
 some (!(r6))) λx1=>
 if x1=true then
 some false
 else
 if ((decide ((p1.path.length:Int) < (1:Int)))||((decide ((12:Int) < (p1.path.length:Int)))||(decide ((p1.sections.length:Int)=(0:Int)))))=true then
 some false
 else
 cU (
 aA (fB ([p1.sections,p1.overSections]:List (List Int))) λr13=>
 aT (λ(x17,b18)=>
 if x17 < (r13.length:Int) then
 aU r13 x17 λe21=>
 aA (
 aA (eS e21 p0.sections) λr24=>
 if (!(r24))=true then
 some true
 else
 aB (e21 < 24) <|
 aU b18 e21 λe26=>
 some e26) λx22=>
 if x22=true then
 aI (
 aI (
 some false))
 else
 aB (e21 < 24) <|
 aU b18 e21 λe31=>
 aB (I64 (x17+(1:Int))) <|
 some (.inl ((x17+(1:Int)),(b18.set e21.toNat true)))
 else
 aI (
 some (.inl b18))) ((0:Int),(List.replicate 24 false))) λb11=>
 aA (
 aA (eS p1.approach p0.sections) λr37=>
 if r37=true then
 some (decide ((1:Int)≤p1.length))
 else
 some false) λx35=>
 some x35
def dJ (p0:(List Int)) (p1:Int):Option Int:=
 cU (
 aT (λx3=>
 if x3 < (p0.length:Int) then
 aU p0 x3 λe6=>
 if p1=e6 then
 aI (
 aI (
 some x3))
 else
 aB (I64 (x3+(1:Int))) <|
 some (.inl (x3+(1:Int)))
 else
 aI (
 some (.inl ()))) (0:Int)) λ_=>
 some (-1:Int)
def fR (p0:Table) (p1:Int):Option Int:=
 aA (dJ p0.points p1) λr1=>
 some r1
def fG (p0:Table) (p1:(List Setting)):Option Bool:=
 cU (
 aT (λx3=>
 if x3 < (p1.length:Int) then
 aU p1 x3 λe6=>
 aA (
 if (0:Int) < x3 then
 aB (I64 (x3 - (1:Int))) <|
 aU p1 (x3 - (1:Int)) λe12=>
 if e6.el≤e12.el then
 some true
 else
 aA (fR p0 e6.el) λr14=>
 some (decide (r14 < (0:Int)))
 else
 aA (fR p0 e6.el) λr10=>
 some (decide (r10 < (0:Int)))) λx7=>
 if x7=true then
 aI (
 aI (
 some false))
 else
 if ((!(decide (e6.pos=(1:Int))))&&(!(decide (e6.pos=(2:Int)))))=true then
 aI (
 aI (
 some false))
 else
 aB (I64 (x3+(1:Int))) <|
 some (.inl (x3+(1:Int)))
 else
 aI (
 some (.inl ()))) (0:Int)) λ_=>
 some true
def iW (p0:(List Setting)) (p1:(List Setting)):Option Bool:=
 cU (
 aT (λx3=>
 if x3 < (p0.length:Int) then
 cU (
 aU p0 x3 λe7=>
 aT (λx9=>
 if x9 < (p1.length:Int) then
 aU p1 x9 λe12=>
 if ((decide (e7.el=e12.el))&&(!(decide (e7.pos=e12.pos))))=true then
 aI (
 aI (
 aI (
 aI (
 some false))))
 else
 aB (I64 (x9+(1:Int))) <|
 some (.inl (x9+(1:Int)))
 else
 aI (
 some (.inl ()))) (0:Int)) λ_=>
 aB (I64 (x3+(1:Int))) <|
 some (.inl (x3+(1:Int)))
 else
 aI (
 some (.inl ()))) (0:Int)) λ_=>
 some true
def rA (p0:Table):Option Int:=
 aA (
 if (48:Int) < (p0.routes.length:Int) then
 some true
 else
 if (32:Int) < (p0.points.length:Int) then
 some true
 else
 aA (eS p0.sections (25:Int)) λr5=>
 if (!(r5))=true then
 some true
 else
 aA (eS p0.signals (21:Int)) λr7=>
 some (!(r7))) λx1=>
 if x1=true then
 some (2:Int)
 else
 aA (kG p0) λr9=>
 if (!(r9))=true then
 some (1:Int)
 else
 cU (
 aT (λx13=>
 if x13 < (p0.routes.length:Int) then
 aU p0.routes x13 λe16=>
 aA (kY p0 e16) λr17=>
 if (!(r17))=true then
 aI (
 aI (
 some (1:Int)))
 else
 aB (I64 (x13+(1:Int))) <|
 some (.inl (x13+(1:Int)))
 else
 aI (
 some (.inl ()))) (0:Int)) λ_=>
 cU (
 aT (λx25=>
 if x25 < (p0.routes.length:Int) then
 aU p0.routes x25 λe28=>
 aA (
 aA (fG p0 e28.points) λr31=>
 if (!(r31))=true then
 some true
 else
 aA (fG p0 e28.overPoints) λr33=>
 if (!(r33))=true then
 some true
 else
 aA (fG p0 e28.flank) λr35=>
 some (!(r35))) λx29=>
 if x29=true then
 aI (
 aI (
 some (1:Int)))
 else
 aB (I64 (x25+(1:Int))) <|
 some (.inl (x25+(1:Int)))
 else
 aI (
 some (.inl ()))) (0:Int)) λ_=>
 cU (
 aT (λx43=>
 if x43 < (p0.routes.length:Int) then
 aU p0.routes x43 λe46=>
 aA (
 aA (iW e46.points e46.overPoints) λr49=>
 if (!(r49))=true then
 some true
 else
 aA (iW e46.points e46.flank) λr51=>
 if (!(r51))=true then
 some true
 else
 aA (iW e46.overPoints e46.flank) λr53=>
 some (!(r53))) λx47=>
 if x47=true then
 aI (
 aI (
 some (10:Int)))
 else
 aB (I64 (x43+(1:Int))) <|
 some (.inl (x43+(1:Int)))
 else
 aI (
 some (.inl ()))) (0:Int)) λ_=>
 cU (
 aT (λ(x64,b65)=>
 if x64 < (p0.routes.length:Int) then
 aU p0.routes x64 λe68=>
 aB (b65.map (·.1)).Nodup <|
 if (((lF b65 e68.name).getD false))=true then
 aI (
 aI (
 some (8:Int)))
 else
 aB (b65.map (·.1)).Nodup <|
 aB (I64 (x64+(1:Int))) <|
 some (.inl ((x64+(1:Int)),(qMS b65 e68.name true)))
 else
 aI (
 some (.inl b65))) ((0:Int),([]:List (ByteArray×Bool)))) λm59=>
 some (0:Int)
def bS (p0:Numbering) (p1:Int):Option Int:=
 aU p0.t.routes p1 λe1=>
 aB (I64 ((e1.sections.length:Int) - (1:Int))) <|
 some ((e1.sections.length:Int) - (1:Int))
def nL (p0:Table):Option (Numbering×Int):=
 aA (rA p0) λr1=>
 if r1=(0:Int) then
 aB (I64 ((2:Int) * p0.sections)) <|
 aB (I64 ((2:Int) * (p0.points.length:Int))) <|
 aB (I64 (((2:Int) * p0.sections)+((2:Int) * (p0.points.length:Int)))) <|
 aB (I64 ((4:Int) * (p0.routes.length:Int))) <|
 aB (I64 ((((2:Int) * p0.sections)+((2:Int) * (p0.points.length:Int)))+((4:Int) * (p0.routes.length:Int)))) <|
 aB (I64 (((((2:Int) * p0.sections)+((2:Int) * (p0.points.length:Int)))+((4:Int) * (p0.routes.length:Int)))+(p0.points.length:Int))) <|
 aA (
 aT (λ(x16,c17,b18)=>
 if x16 < (p0.routes.length:Int) then
 aB ((b18++([c17]:List Int)).length≤1000000000) <|
 aA (bS (⟨p0,((((2:Int) * p0.sections)+((2:Int) * (p0.points.length:Int)))+((4:Int) * (p0.routes.length:Int))),(b18++([c17]:List Int)),c17,(0:Int)⟩:Numbering) x16) λr22=>
 aB (I64 ((4:Int)+r22)) <|
 aB (I64 (((4:Int)+r22)+(2:Int))) <|
 aB (I64 (c17+(((4:Int)+r22)+(2:Int)))) <|
 aB (I64 (x16+(1:Int))) <|
 some (.inl ((x16+(1:Int)),(c17+(((4:Int)+r22)+(2:Int))),(b18++([c17]:List Int))))
 else
 aI (
 some (c17,b18))) ((0:Int),(((((2:Int) * p0.sections)+((2:Int) * (p0.points.length:Int)))+((4:Int) * (p0.routes.length:Int)))+(p0.points.length:Int)),([]:List Int))) λ(c9,b10)=>
 aB (I64 ((5:Int) * (p0.routes.length:Int))) <|
 aB (I64 (c9+((5:Int) * (p0.routes.length:Int)))) <|
 if (2000:Int) < (c9+((5:Int) * (p0.routes.length:Int))) then
 some ((⟨(⟨([]:List Route),([]:List Int),([]:List Int),(0:Int),(0:Int)⟩:Table),(0:Int),([]:List Int),(0:Int),(0:Int)⟩:Numbering),(2:Int))
 else
 some ((⟨p0,((((2:Int) * p0.sections)+((2:Int) * (p0.points.length:Int)))+((4:Int) * (p0.routes.length:Int))),b10,c9,(c9+((5:Int) * (p0.routes.length:Int)))⟩:Numbering),(0:Int))
 else
 some ((⟨(⟨([]:List Route),([]:List Int),([]:List Int),(0:Int),(0:Int)⟩:Table),(0:Int),([]:List Int),(0:Int),(0:Int)⟩:Numbering),r1)
def cR (p0:Numbering) (p1:Int) (p2:Int):Option Int:=
 aU p0.bases p1 λe1=>
 aB (I64 (e1+p2)) <|
 some (e1+p2)
def eG (p0:Numbering) (p1:Int):Option Int:=
 aA (bS p0 p1) λr1=>
 aB (I64 ((4:Int)+r1)) <|
 aA (cR p0 p1 ((4:Int)+r1)) λr3=>
 some r3
def cE (p0:Int):Option Expr:=
 some (⟨(3:Int),p0,([]:List Expr)⟩:Expr)
def fY (p0:Numbering) (p1:Int) (p2:Int):Option Int:=
 aB (I64 ((2:Int) * p0.t.sections)) <|
 aB (I64 ((2:Int) * (p0.t.points.length:Int))) <|
 aB (I64 (((2:Int) * p0.t.sections)+((2:Int) * (p0.t.points.length:Int)))) <|
 aB (I64 ((4:Int) * p1)) <|
 aB (I64 ((((2:Int) * p0.t.sections)+((2:Int) * (p0.t.points.length:Int)))+((4:Int) * p1))) <|
 aB (I64 (((((2:Int) * p0.t.sections)+((2:Int) * (p0.t.points.length:Int)))+((4:Int) * p1))+p2)) <|
 some (((((2:Int) * p0.t.sections)+((2:Int) * (p0.t.points.length:Int)))+((4:Int) * p1))+p2)
def eO (p0:Numbering) (p1:Int) (p2:Int):Option Int:=
 aB (I64 ((2:Int) * p1)) <|
 aB (I64 (((2:Int) * p1)+p2)) <|
 some (((2:Int) * p1)+p2)
def dF (p0:(List Expr)):Option Expr:=
 some (⟨(6:Int),(0:Int),p0⟩:Expr)
def cL (p0:(List Expr)):Option Expr:=
 some (⟨(5:Int),(0:Int),p0⟩:Expr)
def fC (p0:Numbering) (p1:Int):Option Int:=
 aA (eG p0 p1) λr1=>
 aB (I64 (r1+(1:Int))) <|
 some (r1+(1:Int))
def cT (p0:Expr):Option Expr:=
 some (⟨(4:Int),(0:Int),([p0]:List Expr)⟩:Expr)
def aW (p0:Numbering) (p1:Int) (p2:Int):Option Int:=
 aB (I64 ((5:Int) * p1)) <|
 aB (I64 (p0.extra+((5:Int) * p1))) <|
 aB (I64 ((p0.extra+((5:Int) * p1))+p2)) <|
 some ((p0.extra+((5:Int) * p1))+p2)
def iK (p0:List (List Setting)):Option (List Setting):=
 aB (p0.length≤1000∧p0.flatten.length≤1000000000) <|
 some p0.flatten
def jO (p0:Int):Option Bool:=
 some (!(decide (p0=p0)))
def gA (p0:Int) (p1:Int):Option Int:=
 aA (jO p0) λr1=>
 aA (jO p1) λr2=>
 if r1=true then
 if r2=true then
 some (0:Int)
 else
 some (-1:Int)
 else
 if r2=true then
 some (1:Int)
 else
 if p0 < p1 then
 some (-1:Int)
 else
 if p1 < p0 then
 some (1:Int)
 else
 some (0:Int)
def nN (p0:(List Int)):Option Int:=
 cU (
 aT (λx3=>
 if x3 < (p0.length:Int) then
 aU p0 x3 λe6=>
 if e6=(0:Int) then
 aB (I64 (x3+(1:Int))) <|
 some (.inl (x3+(1:Int)))
 else
 aI (
 aI (
 some e6))
 else
 aI (
 some (.inl ()))) (0:Int)) λ_=>
 some (0:Int)
def cZ (p0:Setting) (p1:Setting):Option Int:=
 aA (gA p0.el p1.el) λr1=>
 aA (gA p0.pos p1.pos) λr2=>
 aA (nN ([r1,r2]:List Int)) λr3=>
 some r3
def eX (p0:Route):Option ((List Setting)):=
 aA (iK ([p0.points,p0.overPoints,p0.flank]:List (List Setting))) λr1=>
 aB (r1.length≤1000000000) <|
 aA (
 aT (λ(x8,b9)=>
 if x8 < ((oY cZ r1).length:Int) then
 aU (oY cZ r1) x8 λe12=>
 aA (
 if x8=(0:Int) then
 some true
 else
 aB (I64 (x8 - (1:Int))) <|
 aU (oY cZ r1) (x8 - (1:Int)) λe17=>
 aB (Setting.ok e12∧Setting.ok e17) <|
 some (!(decide (e12=e17)))) λx13=>
 if x13=true then
 aB ((b9++([e12]:List Setting)).length≤1000000000) <|
 aB (I64 (x8+(1:Int))) <|
 some (.inl ((x8+(1:Int)),(b9++([e12]:List Setting))))
 else
 aB (I64 (x8+(1:Int))) <|
 some (.inl ((x8+(1:Int)),b9))
 else
 aI (
 some b9)) ((0:Int),([]:List Setting))) λb3=>
 some b3
def gM (p0:Numbering) (p1:Int) (p2:Int):Option Int:=
 aB (I64 ((2:Int) * p0.t.sections)) <|
 aB (I64 ((2:Int) * p1)) <|
 aB (I64 (((2:Int) * p0.t.sections)+((2:Int) * p1))) <|
 aB (I64 ((((2:Int) * p0.t.sections)+((2:Int) * p1))+p2)) <|
 some ((((2:Int) * p0.t.sections)+((2:Int) * p1))+p2)
def gU (p0:Route) (p1:Route):Option Bool:=
 some ((decide ((0:Int)≤p0.exit))&&(decide (p1.entry=p0.exit)))
def fH (p0:(List Int)) (p1:Int):Option Bool:=
 aA (dJ p0 p1) λr1=>
 some (decide ((0:Int)≤r1))
def iQ (p0:(List Setting)) (p1:Setting):Option Int:=
 cU (
 aT (λx3=>
 if x3 < (p0.length:Int) then
 aU p0 x3 λe6=>
 aB (Setting.ok p1∧Setting.ok e6) <|
 if p1=e6 then
 aI (
 aI (
 some x3))
 else
 aB (I64 (x3+(1:Int))) <|
 some (.inl (x3+(1:Int)))
 else
 aI (
 some (.inl ()))) (0:Int)) λ_=>
 some (-1:Int)
def dE (p0:(List Setting)) (p1:Setting):Option Bool:=
 aA (iQ p0 p1) λr1=>
 some (decide ((0:Int)≤r1))
def eP (p0:Numbering) (p1:Int):Option Int:=
 aB (I64 (p0.inputs+p1)) <|
 some (p0.inputs+p1)
def itoaB (n:Nat):ByteArray:=⟨(Go.Lib.decDigits n).toArray⟩
def kI (p0:Int):Option ByteArray:=aB (0≤p0∧p0 < 100) <| some (itoaB p0.toNat)
def bW (p0:Int) (p1:(List ByteArray)) (p2:(List ByteArray)):Option ((List ByteArray)):=
 aT (λ(x4,b5)=>
 if x4 < (p1.length:Int) then
 aU p1 x4 λe8=>
 aB (e8.size+(⟨#[46]⟩:ByteArray).size≤9223372036854775807) <|
 aA (kI p0) λr10=>
 aB ((e8++(⟨#[46]⟩:ByteArray)).size+r10.size≤9223372036854775807) <|
 aB ((b5++([((e8++(⟨#[46]⟩:ByteArray))++r10)]:List ByteArray)).length≤1000000000) <|
 aB (I64 (x4+(1:Int))) <|
 some (.inl ((x4+(1:Int)),(b5++([((e8++(⟨#[46]⟩:ByteArray))++r10)]:List ByteArray))))
 else
 aI (
 some b5)) ((0:Int),p2)
def gV (p0:Numbering):Option ((List ByteArray)):=
 aA (
 aT (λ(x6,b7)=>
 if x6 < p0.t.sections then
 aA (bW x6 ([(⟨#[102,114,101,101]⟩:ByteArray),(⟨#[111,112,101,110]⟩:ByteArray)]:List ByteArray) b7) λr10=>
 aB (I64 (x6+(1:Int))) <|
 some (.inl ((x6+(1:Int)),r10))
 else
 aI (
 some b7)) ((0:Int),([]:List ByteArray))) λb1=>
 aA (
 aT (λ(x18,b19)=>
 if x18 < (p0.t.points.length:Int) then
 aA (bW x18 ([(⟨#[110,111,114,109,97,108]⟩:ByteArray),(⟨#[114,101,118,101,114,115,101]⟩:ByteArray)]:List ByteArray) b19) λr22=>
 aB (I64 (x18+(1:Int))) <|
 some (.inl ((x18+(1:Int)),r22))
 else
 aI (
 some b19)) ((0:Int),b1)) λb13=>
 aA (
 aT (λ(x30,b31)=>
 if x30 < (p0.t.routes.length:Int) then
 aA (bW x30 ([(⟨#[117,110,99,108,97,105,109,101,100]⟩:ByteArray),(⟨#[112,97,115,115,101,100]⟩:ByteArray),(⟨#[99,97,108,108]⟩:ByteArray),(⟨#[99,97,110,99,101,108]⟩:ByteArray)]:List ByteArray) b31) λr34=>
 aB (I64 (x30+(1:Int))) <|
 some (.inl ((x30+(1:Int)),r34))
 else
 aI (
 some b31)) ((0:Int),b13)) λb25=>
 aA (
 aT (λ(x42,b43)=>
 if x42 < (p0.t.points.length:Int) then
 aA (bW x42 ([(⟨#[108,105,101]⟩:ByteArray)]:List ByteArray) b43) λr46=>
 aB (I64 (x42+(1:Int))) <|
 some (.inl ((x42+(1:Int)),r46))
 else
 aI (
 some b43)) ((0:Int),b25)) λb37=>
 aA (
 aT (λ(x54,b55)=>
 if x54 < (p0.t.routes.length:Int) then
 aA (
 aA (bW x54 ([(⟨#[115,101,116]⟩:ByteArray),(⟨#[99,108,101,97,114]⟩:ByteArray),(⟨#[117,115,101,100]⟩:ByteArray),(⟨#[104,101,108,100]⟩:ByteArray)]:List ByteArray) b55) λr60=>
 aA (
 aA (bS p0 x54) λr63=>
 aT (λ(x67,b68)=>
 if x67 < r63 then
 aA (kI x54) λr71=>
 aB ((⟨#[114,101,108,46]⟩:ByteArray).size+r71.size≤9223372036854775807) <|
 aA (bW x67 ([((⟨#[114,101,108,46]⟩:ByteArray)++r71)]:List ByteArray) b68) λr73=>
 aB (I64 (x67+(1:Int))) <|
 some (.inl ((x67+(1:Int)),r73))
 else
 aI (
 some b68)) ((0:Int),r60)) λb61=>
 aA (bW x54 ([(⟨#[119,97,105,116]⟩:ByteArray),(⟨#[115,116,97,110,100]⟩:ByteArray)]:List ByteArray) b61) λr76=>
 some r76) λb58=>
 aB (I64 (x54+(1:Int))) <|
 some (.inl ((x54+(1:Int)),b58))
 else
 aI (
 some b55)) ((0:Int),b37)) λb49=>
 aA (
 aT (λ(x84,b85)=>
 if x84 < (p0.t.routes.length:Int) then
 aA (bW x84 ([(⟨#[107,101,101,112]⟩:ByteArray),(⟨#[117,115,101]⟩:ByteArray),(⟨#[104,111,108,100]⟩:ByteArray),(⟨#[97,99,116]⟩:ByteArray),(⟨#[99,97,108,108,101,100]⟩:ByteArray)]:List ByteArray) b85) λr88=>
 aB (I64 (x84+(1:Int))) <|
 some (.inl ((x84+(1:Int)),r88))
 else
 aI (
 some b85)) ((0:Int),b49)) λb79=>
 some b79
def bJ (p0:Builder) (p1:Int) (p2:Int):Option Expr:=
 aA (cR p0.numbering p1 p2) λr1=>
 aA (cE r1) λr2=>
 some r2
def bM (p0:Builder) (p1:Int) (p2:Int):Option Expr:=
 aA (fY p0.numbering p1 p2) λr1=>
 aA (cE r1) λr2=>
 some r2
def dD (p0:Builder) (p1:Int) (p2:Int):Option Expr:=
 aB (I64 ((4:Int)+p2)) <|
 aA (cR p0.numbering p1 ((4:Int)+p2)) λr2=>
 aA (cE r2) λr3=>
 some r3
def bU (p0:Builder) (p1:Int):Option Expr:=
 aA (eO p0.numbering p1 (0:Int)) λr1=>
 aA (cE r1) λr2=>
 some r2
def eD (p0:Builder) (p1:Int):Option Expr:=
 aA (
 aU p0.numbering.t.routes p1 λe3=>
 aT (λ(x7,b8)=>
 if x7 < (e3.sections.length:Int) then
 aU e3.sections x7 λe11=>
 aA (bS p0.numbering p1) λr12=>
 if x7 < r12 then
 aA (dD p0 p1 x7) λr14=>
 aA (bU p0 e11) λr15=>
 aA (dF ([r14,r15]:List Expr)) λr16=>
 aB ((b8++([r16]:List Expr)).length≤1000000000) <|
 aB (I64 (x7+(1:Int))) <|
 some (.inl ((x7+(1:Int)),(b8++([r16]:List Expr))))
 else
 aA (bU p0 e11) λr19=>
 aB ((b8++([r19]:List Expr)).length≤1000000000) <|
 aB (I64 (x7+(1:Int))) <|
 some (.inl ((x7+(1:Int)),(b8++([r19]:List Expr))))
 else
 aI (
 some b8)) ((0:Int),([]:List Expr))) λb1=>
 aA (cL b1) λr23=>
 some r23
def fP (p0:Builder) (p1:Int):Option Expr:=
 aA (bS p0.numbering p1) λr1=>
 if r1=(0:Int) then
 aA (cL []) λr3=>
 some r3
 else
 aA (bS p0.numbering p1) λr4=>
 aB (I64 (r4 - (1:Int))) <|
 aA (dD p0 p1 (r4 - (1:Int))) λr6=>
 some r6
def iB (p0:Builder) (p1:Int):Option Builder:=
 aU p0.numbering.t.routes p1 λe1=>
 aA (eG p0.numbering p1) λr2=>
 aA (bJ p0 p1 (3:Int)) λr3=>
 aA (bM p0 p1 (0:Int)) λr4=>
 aA (eD p0 p1) λr5=>
 aA (cL ([r3,r4,r5]:List Expr)) λr6=>
 aA (fC p0.numbering p1) λr7=>
 aA (bJ p0 p1 (2:Int)) λr8=>
 aA (bM p0 p1 (0:Int)) λr9=>
 aA (fP p0 p1) λr10=>
 aA (bS p0.numbering p1) λr11=>
 aU e1.sections r11 λe12=>
 aA (bU p0 e12) λr13=>
 aA (cT r13) λr14=>
 aA (cL ([r8,r9,r10,r14]:List Expr)) λr15=>
 aB ((p0.rungs++([(⟨(2:Int),r2,(12:Int),r6⟩:Rung),(⟨(2:Int),r7,(4:Int),r15⟩:Rung)]:List Rung)).length≤1000000000) <|
 some (⟨p0.numbering,(p0.rungs++([(⟨(2:Int),r2,(12:Int),r6⟩:Rung),(⟨(2:Int),r7,(4:Int),r15⟩:Rung)]:List Rung))⟩:Builder)
def eH (p0:Builder) (p1:Int):Option Expr:=
 aU p0.numbering.t.routes p1 λe1=>
 aA (
 aA (fB ([e1.sections,e1.overSections]:List (List Int))) λr4=>
 aT (λ(x8,b9)=>
 if x8 < (r4.length:Int) then
 aU r4 x8 λe12=>
 aA (bU p0 e12) λr13=>
 aB ((b9++([r13]:List Expr)).length≤1000000000) <|
 aB (I64 (x8+(1:Int))) <|
 some (.inl ((x8+(1:Int)),(b9++([r13]:List Expr))))
 else
 aI (
 some b9)) ((0:Int),([]:List Expr))) λb2=>
 aA (
 aA (eX e1) λr19=>
 aT (λ(x23,b24)=>
 if x23 < (r19.length:Int) then
 aU r19 x23 λe27=>
 aA (
 if e27.pos=(2:Int) then
 some (1:Int)
 else
 some (0:Int)) λkind28=>
 aA (fR p0.numbering.t e27.el) λr31=>
 aA (gM p0.numbering r31 kind28) λr32=>
 aA (cE r32) λr33=>
 aB ((b24++([r33]:List Expr)).length≤1000000000) <|
 aB (I64 (x23+(1:Int))) <|
 some (.inl ((x23+(1:Int)),(b24++([r33]:List Expr))))
 else
 aI (
 some b24)) ((0:Int),b2)) λb17=>
 aA (cL b17) λr37=>
 some r37
def cG (p0:Builder) (p1:Int) (p2:Expr):Option Builder:=
 aB ((p0.rungs++([(⟨(1:Int),p1,(0:Int),p2⟩:Rung)]:List Rung)).length≤1000000000) <|
 some (⟨p0.numbering,(p0.rungs++([(⟨(1:Int),p1,(0:Int),p2⟩:Rung)]:List Rung))⟩:Builder)
def fD (p0:Builder) (p1:Int):Option Expr:=
 aA (
 aU p0.numbering.t.routes p1 λe3=>
 aT (λ(x7,b8)=>
 if x7 < (e3.sections.length:Int) then
 aU e3.sections x7 λe11=>
 aA (bU p0 e11) λr12=>
 aA (
 if (0:Int) < x7 then
 aB (I64 (x7 - (1:Int))) <|
 aA (dD p0 p1 (x7 - (1:Int))) λr17=>
 aB ((([r12]:List Expr)++([r17]:List Expr)).length≤1000000000) <|
 some (([r12]:List Expr)++([r17]:List Expr))
 else
 some ([r12]:List Expr)) λb13=>
 aA (
 aA (bS p0.numbering p1) λr21=>
 if x7 < r21 then
 aA (dD p0 p1 x7) λr23=>
 aA (cT r23) λr24=>
 aB ((b13++([r24]:List Expr)).length≤1000000000) <|
 some (b13++([r24]:List Expr))
 else
 some b13) λb19=>
 aA (cL b19) λr26=>
 aB ((b8++([r26]:List Expr)).length≤1000000000) <|
 aB (I64 (x7+(1:Int))) <|
 some (.inl ((x7+(1:Int)),(b8++([r26]:List Expr))))
 else
 aI (
 some b8)) ((0:Int),([]:List Expr))) λb1=>
 aA (dF b1) λr30=>
 some r30
def fO (p0:Builder) (p1:Int):Option Expr:=
 aA (bJ p0 p1 (0:Int)) λr1=>
 aA (bJ p0 p1 (1:Int)) λr2=>
 aA (dF ([r1,r2]:List Expr)) λr3=>
 aA (bM p0 p1 (3:Int)) λr4=>
 aA (cT r4) λr5=>
 aA (eH p0 p1) λr6=>
 aA (cL ([r3,r5,r6]:List Expr)) λr7=>
 some r7
def gO (p0:Builder) (p1:Int):Option Builder:=
 aU p0.numbering.t.routes p1 λe1=>
 aU e1.sections (0:Int) λe2=>
 aA (bS p0.numbering p1) λr3=>
 aU e1.sections r3 λe4=>
 aA (aW p0.numbering p1 (0:Int)) λr5=>
 aA (bJ p0 p1 (0:Int)) λr6=>
 aA (bM p0 p1 (3:Int)) λr7=>
 aA (cT r7) λr8=>
 aA (eH p0 p1) λr9=>
 aA (cT r9) λr10=>
 aA (cL ([r6,r8,r10]:List Expr)) λr11=>
 aA (cG p0 r5 r11) λr12=>
 aA (aW p0.numbering p1 (1:Int)) λr13=>
 aA (bJ (⟨p0.numbering,r12.rungs⟩:Builder) p1 (1:Int)) λr14=>
 aA (bU (⟨p0.numbering,r12.rungs⟩:Builder) e2) λr15=>
 aA (cT r15) λr16=>
 aA (cL ([r14,r16]:List Expr)) λr17=>
 aA (bJ (⟨p0.numbering,r12.rungs⟩:Builder) p1 (2:Int)) λr18=>
 aA (bM (⟨p0.numbering,r12.rungs⟩:Builder) p1 (0:Int)) λr19=>
 aA (cT r19) λr20=>
 aA (bM (⟨p0.numbering,r12.rungs⟩:Builder) p1 (3:Int)) λr21=>
 aA (eD (⟨p0.numbering,r12.rungs⟩:Builder) p1) λr22=>
 aA (cL ([r21,r22]:List Expr)) λr23=>
 aA (cT r23) λr24=>
 aA (fP (⟨p0.numbering,r12.rungs⟩:Builder) p1) λr25=>
 aA (bU (⟨p0.numbering,r12.rungs⟩:Builder) e4) λr26=>
 aA (cL ([r25,r26]:List Expr)) λr27=>
 aA (cT r27) λr28=>
 aA (fC p0.numbering p1) λr29=>
 aA (cE r29) λr30=>
 aA (cT r30) λr31=>
 aA (cL ([r24,r28,r31]:List Expr)) λr32=>
 aA (dF ([r20,r32]:List Expr)) λr33=>
 aA (cL ([r18,r33]:List Expr)) λr34=>
 aA (bJ (⟨p0.numbering,r12.rungs⟩:Builder) p1 (3:Int)) λr35=>
 aA (fD (⟨p0.numbering,r12.rungs⟩:Builder) p1) λr36=>
 aA (cT r36) λr37=>
 aA (cL ([r35,r37]:List Expr)) λr38=>
 aA (dF ([r17,r34,r38]:List Expr)) λr39=>
 aA (cG (⟨p0.numbering,r12.rungs⟩:Builder) r13 r39) λr40=>
 aA (aW p0.numbering p1 (2:Int)) λr41=>
 aA (bJ (⟨p0.numbering,r40.rungs⟩:Builder) p1 (1:Int)) λr42=>
 aA (bU (⟨p0.numbering,r40.rungs⟩:Builder) e2) λr43=>
 aA (bM (⟨p0.numbering,r40.rungs⟩:Builder) p1 (3:Int)) λr44=>
 aA (bM (⟨p0.numbering,r40.rungs⟩:Builder) p1 (0:Int)) λr45=>
 aA (bU (⟨p0.numbering,r40.rungs⟩:Builder) e1.approach) λr46=>
 aA (cL ([r44,r45,r46]:List Expr)) λr47=>
 aA (cT r47) λr48=>
 aA (bM (⟨p0.numbering,r40.rungs⟩:Builder) p1 (3:Int)) λr49=>
 aA (eH (⟨p0.numbering,r40.rungs⟩:Builder) p1) λr50=>
 aA (cT r50) λr51=>
 aA (dF ([r49,r51]:List Expr)) λr52=>
 aA (cL ([r42,r43,r48,r52]:List Expr)) λr53=>
 aA (bJ (⟨p0.numbering,r40.rungs⟩:Builder) p1 (2:Int)) λr54=>
 aA (bM (⟨p0.numbering,r40.rungs⟩:Builder) p1 (0:Int)) λr55=>
 aA (bM (⟨p0.numbering,r40.rungs⟩:Builder) p1 (3:Int)) λr56=>
 aA (eD (⟨p0.numbering,r40.rungs⟩:Builder) p1) λr57=>
 aA (cL ([r54,r55,r56,r57]:List Expr)) λr58=>
 aA (bJ (⟨p0.numbering,r40.rungs⟩:Builder) p1 (3:Int)) λr59=>
 aA (fD (⟨p0.numbering,r40.rungs⟩:Builder) p1) λr60=>
 aA (eG p0.numbering p1) λr61=>
 aA (cE r61) λr62=>
 aA (cT r62) λr63=>
 aA (cL ([r59,r60,r63]:List Expr)) λr64=>
 aA (dF ([r53,r58,r64]:List Expr)) λr65=>
 aA (cG (⟨p0.numbering,r40.rungs⟩:Builder) r41 r65) λr66=>
 aA (aW p0.numbering p1 (3:Int)) λr67=>
 aA (aW p0.numbering p1 (0:Int)) λr68=>
 aA (cE r68) λr69=>
 aA (fO (⟨p0.numbering,r66.rungs⟩:Builder) p1) λr70=>
 aA (aW p0.numbering p1 (1:Int)) λr71=>
 aA (cE r71) λr72=>
 aA (aW p0.numbering p1 (2:Int)) λr73=>
 aA (cE r73) λr74=>
 aA (dF ([r69,r70,r72,r74]:List Expr)) λr75=>
 aA (cG (⟨p0.numbering,r66.rungs⟩:Builder) r67 r75) λr76=>
 some (⟨p0.numbering,r76.rungs⟩:Builder)
def iN (p0:Builder) (p1:Int):Option Builder:=
 aU p0.numbering.t.routes p1 λe1=>
 aA (
 aA (bS p0.numbering p1) λr4=>
 aB (I64 (r4 - (1:Int))) <|
 aT (λ(k9,b10)=>
 if (0:Int)≤k9 then
 aA (bJ (⟨p0.numbering,b10⟩:Builder) p1 (2:Int)) λr13=>
 aA (aW p0.numbering p1 (1:Int)) λr14=>
 aA (cE r14) λr15=>
 aA (bM (⟨p0.numbering,b10⟩:Builder) p1 (0:Int)) λr16=>
 aU e1.sections k9 λe17=>
 aA (bU (⟨p0.numbering,b10⟩:Builder) e17) λr18=>
 aB (I64 (k9+(1:Int))) <|
 aU e1.sections (k9+(1:Int)) λe20=>
 aA (bU (⟨p0.numbering,b10⟩:Builder) e20) λr21=>
 aA (cT r21) λr22=>
 aA (bM (⟨p0.numbering,b10⟩:Builder) p1 (1:Int)) λr23=>
 aA (dF ([r22,r23]:List Expr)) λr24=>
 aA (
 if (0:Int) < k9 then
 aB (I64 (k9 - (1:Int))) <|
 aA (dD (⟨p0.numbering,b10⟩:Builder) p1 (k9 - (1:Int))) λr29=>
 aB ((([r13,r15,r16,r18,r24]:List Expr)++([r29]:List Expr)).length≤1000000000) <|
 some (([r13,r15,r16,r18,r24]:List Expr)++([r29]:List Expr))
 else
 some ([r13,r15,r16,r18,r24]:List Expr)) λb25=>
 aB (I64 ((4:Int)+k9)) <|
 aA (cR p0.numbering p1 ((4:Int)+k9)) λr32=>
 aA (aW p0.numbering p1 (1:Int)) λr33=>
 aA (cE r33) λr34=>
 aA (aW p0.numbering p1 (2:Int)) λr35=>
 aA (cE r35) λr36=>
 aA (dF ([r34,r36]:List Expr)) λr37=>
 aA (dD (⟨p0.numbering,b10⟩:Builder) p1 k9) λr38=>
 aA (cL b25) λr39=>
 aA (dF ([r38,r39]:List Expr)) λr40=>
 aA (cL ([r37,r40]:List Expr)) λr41=>
 aA (cG (⟨p0.numbering,b10⟩:Builder) r32 r41) λr42=>
 aB (I64 (k9 - (1:Int))) <|
 some (.inl ((k9 - (1:Int)),r42.rungs))
 else
 aI (
 some b10)) ((r4 - (1:Int)),p0.rungs)) λb2=>
 aA (cR p0.numbering p1 (1:Int)) λr45=>
 aA (fO (⟨p0.numbering,b2⟩:Builder) p1) λr46=>
 aA (cG (⟨p0.numbering,b2⟩:Builder) r45 r46) λr47=>
 aA (cR p0.numbering p1 (2:Int)) λr48=>
 aA (aW p0.numbering p1 (1:Int)) λr49=>
 aA (cE r49) λr50=>
 aA (cG (⟨p0.numbering,r47.rungs⟩:Builder) r48 r50) λr51=>
 aA (cR p0.numbering p1 (3:Int)) λr52=>
 aA (aW p0.numbering p1 (2:Int)) λr53=>
 aA (cE r53) λr54=>
 aA (cG (⟨p0.numbering,r51.rungs⟩:Builder) r52 r54) λr55=>
 some (⟨p0.numbering,r55.rungs⟩:Builder)
def dV (p0:Int) (p1:Builder) (p2:Int) (p3:Bool) (p4:(List Int)):Option (Bool×(List Int)):=
 aA (
 if p0 < (0:Int) then
 some true
 else
 aA (bS p1.numbering p2) λr4=>
 some (decide (p0=r4))) λx1=>
 if x1=true then
 some (true,p4)
 else
 aA (fH p4 p0) λr6=>
 if (!(r6))=true then
 aB ((p4++([p0]:List Int)).length≤1000000000) <|
 some (p3,(p4++([p0]:List Int)))
 else
 some (p3,p4)
def iC (p0:Builder) (p1:Int) (p2:Int):Option (Bool×(List Int)):=
 aU p0.numbering.t.routes p1 λe1=>
 aU p0.numbering.t.routes p2 λe2=>
 aA (gU e2 e1) λr3=>
 aA (gU e1 e2) λr4=>
 aA (
 aT (λ(x12,c13,b14)=>
 if x12 < (e1.sections.length:Int) then
 aU e1.sections x12 λe17=>
 aA (
 aA (dJ e2.sections e17) λr21=>
 if (0:Int)≤r21 then
 aA (dV r21 p0 p2 c13 b14) λ(r24,r25)=>
 some (r24,r25)
 else
 some (c13,b14)) λ(c18,b19)=>
 if c18=true then
 aB (I64 (x12+(1:Int))) <|
 some (.inl ((x12+(1:Int)),true,b19))
 else
 aA (fH e2.overSections e17) λr27=>
 if r27=true then
 aB (I64 (x12+(1:Int))) <|
 some (.inl ((x12+(1:Int)),!(r3),b19))
 else
 aB (I64 (x12+(1:Int))) <|
 some (.inl ((x12+(1:Int)),false,b19))
 else
 aI (
 some (c13,b14))) ((0:Int),false,([]:List Int))) λ(c5,b6)=>
 aA (
 aT (λ(x40,c41,b42)=>
 if x40 < (e1.overSections.length:Int) then
 aU e1.overSections x40 λe45=>
 aA (
 aA (dJ e2.sections e45) λr49=>
 if ((decide ((0:Int)≤r49))&&(!(r4)))=true then
 aA (dV r49 p0 p2 c41 b42) λ(r53,r54)=>
 some (r53,r54)
 else
 some (c41,b42)) λ(c46,b47)=>
 if c46=true then
 aB (I64 (x40+(1:Int))) <|
 some (.inl ((x40+(1:Int)),true,b47))
 else
 aA (fH e2.overSections e45) λr56=>
 if r56=true then
 if (!(r3))=true then
 aB (I64 (x40+(1:Int))) <|
 some (.inl ((x40+(1:Int)),!(r4),b47))
 else
 aB (I64 (x40+(1:Int))) <|
 some (.inl ((x40+(1:Int)),false,b47))
 else
 aB (I64 (x40+(1:Int))) <|
 some (.inl ((x40+(1:Int)),false,b47))
 else
 aI (
 some (c41,b42))) ((0:Int),c5,b6)) λ(c33,b34)=>
 aA (
 aA (eX e1) λr67=>
 aT (λ(x72,c73,b74)=>
 if x72 < (r67.length:Int) then
 aU r67 x72 λe77=>
 aB (I64 ((3:Int) - e77.pos)) <|
 aA (
 aA (dE e2.overPoints (⟨e77.el,((3:Int) - e77.pos)⟩:Setting)) λr81=>
 if r81=true then
 some true
 else
 aA (dE e2.flank (⟨e77.el,((3:Int) - e77.pos)⟩:Setting)) λr83=>
 some r83) λx79=>
 if x79=true then
 aB (I64 (x72+(1:Int))) <|
 some (.inl ((x72+(1:Int)),true,b74))
 else
 aA (dE e2.points (⟨e77.el,((3:Int) - e77.pos)⟩:Setting)) λr86=>
 if r86=true then
 aA (fR p0.numbering.t e77.el) λr88=>
 aU p0.numbering.t.homes r88 λe89=>
 aA (dJ e2.sections e89) λr90=>
 aA (dV r90 p0 p2 c73 b74) λ(r92,r93)=>
 aB (I64 (x72+(1:Int))) <|
 some (.inl ((x72+(1:Int)),r92,r93))
 else
 aB (I64 (x72+(1:Int))) <|
 some (.inl ((x72+(1:Int)),c73,b74))
 else
 aI (
 some (c73,b74))) ((0:Int),c33,b34)) λ(c64,b65)=>
 some (c64,b65)
def iO (p0:Builder) (p1:Int) (p2:Int):Option ((List Expr)):=
 aA (iC p0 p1 p2) λ(r2,r3)=>
 aA (aW p0.numbering p2 (3:Int)) λr4=>
 aA (cE r4) λr5=>
 aA (
 if p2 < p1 then
 aA (aW p0.numbering p2 (4:Int)) λr11=>
 aA (cE r11) λr12=>
 aA (dF ([r5,r12]:List Expr)) λr13=>
 some (r13.op,r13.var,r13.args)
 else
 some (r5.op,r5.var,r5.args)) λ(c6,c7,c8)=>
 if r2=true then
 aA (cT (⟨c6,c7,c8⟩:Expr)) λr15=>
 some ([r15]:List Expr)
 else
 if (r3.length:Int)=(0:Int) then
 some ([]:List Expr)
 else
 aA (cT (⟨c6,c7,c8⟩:Expr)) λr17=>
 aA (
 aT (λ(x23,b24)=>
 if x23 < (r3.length:Int) then
 aU r3 x23 λe27=>
 aA (dD p0 p2 e27) λr28=>
 aB ((b24++([r28]:List Expr)).length≤1000000000) <|
 aB (I64 (x23+(1:Int))) <|
 some (.inl ((x23+(1:Int)),(b24++([r28]:List Expr))))
 else
 aI (
 some b24)) ((0:Int),([]:List Expr))) λb18=>
 aA (cL b18) λr32=>
 aB ((([r17]:List Expr)++([r32]:List Expr)).length≤1000000000) <|
 aA (dF (([r17]:List Expr)++([r32]:List Expr))) λr34=>
 some ([r34]:List Expr)
def iD (p0:Builder) (p1:Int):Option Expr:=
 aU p0.numbering.t.routes p1 λe1=>
 aA (bM p0 p1 (2:Int)) λr2=>
 aA (aW p0.numbering p1 (3:Int)) λr3=>
 aA (cE r3) λr4=>
 aA (cT r4) λr5=>
 aA (
 aA (fB ([e1.sections,e1.overSections]:List (List Int))) λr8=>
 aT (λ(x12,b13)=>
 if x12 < (r8.length:Int) then
 aU r8 x12 λe16=>
 aA (eO p0.numbering e16 (1:Int)) λr17=>
 aA (cE r17) λr18=>
 aB ((b13++([r18]:List Expr)).length≤1000000000) <|
 aB (I64 (x12+(1:Int))) <|
 some (.inl ((x12+(1:Int)),(b13++([r18]:List Expr))))
 else
 aI (
 some b13)) ((0:Int),([r2,r5]:List Expr))) λb6=>
 aA (
 aT (λ(x27,b28)=>
 if x27 < (p0.numbering.t.routes.length:Int) then
 if x27=p1 then
 aB (I64 (x27+(1:Int))) <|
 some (.inl ((x27+(1:Int)),b28))
 else
 aA (iO p0 p1 x27) λr32=>
 aB ((b28++r32).length≤1000000000) <|
 aB (I64 (x27+(1:Int))) <|
 some (.inl ((x27+(1:Int)),(b28++r32)))
 else
 aI (
 some b28)) ((0:Int),b6)) λb22=>
 aA (
 aA (eX e1) λr39=>
 aT (λ(x43,b44)=>
 if x43 < (r39.length:Int) then
 aU r39 x43 λe47=>
 aA (fR p0.numbering.t e47.el) λr48=>
 aA (eP p0.numbering r48) λr49=>
 aA (cE r49) λr50=>
 aA (
 if e47.pos=(1:Int) then
 aA (cT r50) λr56=>
 some (r56.op,r56.var,r56.args)
 else
 some (r50.op,r50.var,r50.args)) λ(c51,c52,c53)=>
 aU p0.numbering.t.homes r48 λe57=>
 aA (bU p0 e57) λr58=>
 aA (dF ([(⟨c51,c52,c53⟩:Expr),r58]:List Expr)) λr59=>
 aB ((b44++([r59]:List Expr)).length≤1000000000) <|
 aB (I64 (x43+(1:Int))) <|
 some (.inl ((x43+(1:Int)),(b44++([r59]:List Expr))))
 else
 aI (
 some b44)) ((0:Int),b22)) λb37=>
 aA (cL b37) λr63=>
 some r63
def iX (p0:Builder) (p1:Int):Option Expr:=
 aA (
 aT (λ(x8,b9,b10)=>
 if x8 < (p0.numbering.t.routes.length:Int) then
 aA (
 aU p0.numbering.t.routes x8 λe16=>
 aA (eX e16) λr17=>
 aT (λ(x22,b23,b24)=>
 if x22 < (r17.length:Int) then
 aU r17 x22 λe27=>
 aU p0.numbering.t.points p1 λe28=>
 if e27.el=e28 then
 if e27.pos=(2:Int) then
 aA (aW p0.numbering x8 (4:Int)) λr32=>
 aA (cE r32) λr33=>
 aB ((b24++([r33]:List Expr)).length≤1000000000) <|
 aB (I64 (x22+(1:Int))) <|
 some (.inl ((x22+(1:Int)),b23,(b24++([r33]:List Expr))))
 else
 aA (aW p0.numbering x8 (4:Int)) λr36=>
 aA (cE r36) λr37=>
 aB ((b23++([r37]:List Expr)).length≤1000000000) <|
 aB (I64 (x22+(1:Int))) <|
 some (.inl ((x22+(1:Int)),(b23++([r37]:List Expr)),b24))
 else
 aB (I64 (x22+(1:Int))) <|
 some (.inl ((x22+(1:Int)),b23,b24))
 else
 aI (
 some (b23,b24))) ((0:Int),b9,b10)) λ(b13,b14)=>
 aB (I64 (x8+(1:Int))) <|
 some (.inl ((x8+(1:Int)),b13,b14))
 else
 aI (
 some (b9,b10))) ((0:Int),([]:List Expr),([]:List Expr))) λ(b1,b2)=>
 aA (dF b2) λr43=>
 aA (eP p0.numbering p1) λr44=>
 aA (cE r44) λr45=>
 aA (dF b1) λr46=>
 aA (cT r46) λr47=>
 aA (cL ([r45,r47]:List Expr)) λr48=>
 aA (dF ([r43,r48]:List Expr)) λr49=>
 some r49
def lT (p0:Table):Option (Program×Int):=
 aA (nL p0) λ(r2,r3)=>
 if r3=(0:Int) then
 aA (
 aT (λ(x10,b11)=>
 if x10 < (p0.routes.length:Int) then
 aA (iB (⟨r2,b11⟩:Builder) x10) λr14=>
 aB (I64 (x10+(1:Int))) <|
 some (.inl ((x10+(1:Int)),r14.rungs))
 else
 aI (
 some b11)) ((0:Int),([]:List Rung))) λb5=>
 aA (
 aT (λ(x22,b23)=>
 if x22 < (p0.routes.length:Int) then
 aA (gO (⟨r2,b23⟩:Builder) x22) λr26=>
 aB (I64 (x22+(1:Int))) <|
 some (.inl ((x22+(1:Int)),r26.rungs))
 else
 aI (
 some b23)) ((0:Int),b5)) λb17=>
 aA (
 aT (λ(x34,b35)=>
 if x34 < (p0.routes.length:Int) then
 aA (iN (⟨r2,b35⟩:Builder) x34) λr38=>
 aB (I64 (x34+(1:Int))) <|
 some (.inl ((x34+(1:Int)),r38.rungs))
 else
 aI (
 some b35)) ((0:Int),b17)) λb29=>
 aA (
 aT (λ(x46,b47)=>
 if x46 < (p0.routes.length:Int) then
 aA (aW r2 x46 (4:Int)) λr50=>
 aA (iD (⟨r2,b47⟩:Builder) x46) λr51=>
 aA (cG (⟨r2,b47⟩:Builder) r50 r51) λr52=>
 aB (I64 (x46+(1:Int))) <|
 some (.inl ((x46+(1:Int)),r52.rungs))
 else
 aI (
 some b47)) ((0:Int),b29)) λb41=>
 aA (
 aT (λ(x60,b61)=>
 if x60 < (p0.points.length:Int) then
 aA (eP r2 x60) λr64=>
 aA (iX (⟨r2,b61⟩:Builder) x60) λr65=>
 aA (cG (⟨r2,b61⟩:Builder) r64 r65) λr66=>
 aB (I64 (x60+(1:Int))) <|
 some (.inl ((x60+(1:Int)),r66.rungs))
 else
 aI (
 some b61)) ((0:Int),b41)) λb55=>
 aA (
 aT (λ(x74,b75)=>
 if x74 < (p0.routes.length:Int) then
 aA (cR r2 x74 (0:Int)) λr78=>
 aA (aW r2 x74 (0:Int)) λr79=>
 aA (cE r79) λr80=>
 aA (aW r2 x74 (4:Int)) λr81=>
 aA (cE r81) λr82=>
 aA (dF ([r80,r82]:List Expr)) λr83=>
 aA (cG (⟨r2,b75⟩:Builder) r78 r83) λr84=>
 aB (I64 (x74+(1:Int))) <|
 some (.inl ((x74+(1:Int)),r84.rungs))
 else
 aI (
 some b75)) ((0:Int),b55)) λb69=>
 aA (gV r2) λr87=>
 some ((⟨r87,r2.inputs,b69⟩:Program),(0:Int))
 else
 some ((⟨([]:List ByteArray),(0:Int),([]:List Rung)⟩:Program),r3)
def mG (p0:ByteArray) (p1:ByteArray) (p2:(List Int)):Option ByteArray:=
 aA (
 aT (λ(word5,x6)=>
 if x6 < (p2.length:Int) then
 aU p2 x6 λe9=>
 aA (kI e9) λr10=>
 aB (p1.size+r10.size≤9223372036854775807) <|
 aB (word5.size+(p1++r10).size≤9223372036854775807) <|
 aB (I64 (x6+(1:Int))) <|
 some (.inl ((word5++(p1++r10)),(x6+(1:Int))))
 else
 aI (
 some word5)) (p0,(0:Int))) λword1=>
 some word1
def mN (p0:(List Expr)):Option Expr:=
 some (⟨(6:Int),(0:Int),p0⟩:Expr)
def gK (p0:Expr):Option Expr:=
 some (⟨(4:Int),(0:Int),([p0]:List Expr)⟩:Expr)
def hU (p0:(List Expr)):Option Expr:=
 some (⟨(5:Int),(0:Int),p0⟩:Expr)
def bN (p0:Collector) (p1:ByteArray) (p2:(List Int)):Option Expr:=
 aA (mG p1 (⟨#[46]⟩:ByteArray) p2) λr1=>
 aB (p0.vars.map (·.1)).Nodup <|
 some (⟨(3:Int),((lF p0.vars r1).getD (0:Int)),([]:List Expr)⟩:Expr)
def dM (p0:Collector) (p1:Int):Option Expr:=
 aA (bN p0 (⟨#[115,101,116]⟩:ByteArray) ([p1]:List Int)) λr1=>
 aA (bN p0 (⟨#[99,108,101,97,114]⟩:ByteArray) ([p1]:List Int)) λr2=>
 aA (bN p0 (⟨#[117,115,101,100]⟩:ByteArray) ([p1]:List Int)) λr3=>
 aA (bN p0 (⟨#[104,101,108,100]⟩:ByteArray) ([p1]:List Int)) λr4=>
 aA (mN ([r1,r2,r3,r4]:List Expr)) λr5=>
 some r5
def dR (p0:Collector) (p1:Int) (p2:Int):Option Expr:=
 aU p0.table.routes p1 λe1=>
 aB (I64 ((e1.sections.length:Int) - (1:Int))) <|
 if p2=((e1.sections.length:Int) - (1:Int)) then
 aA (dM p0 p1) λr4=>
 some r4
 else
 aA (dM p0 p1) λr5=>
 aA (bN p0 (⟨#[114,101,108]⟩:ByteArray) ([p1,p2]:List Int)) λr6=>
 aA (gK r6) λr7=>
 aA (hU ([r5,r7]:List Expr)) λr8=>
 some r8
def dH (p0:Collector) (p1:Expr) (p2:ByteArray) (p3:(List Int)):Option Collector:=
 aA (mG p2 (⟨#[32]⟩:ByteArray) p3) λr1=>
 aB ((p0.list++([(⟨r1,p1⟩:Obligation)]:List Obligation)).length≤1000000000) <|
 some (⟨p0.table,p0.vars,(p0.list++([(⟨r1,p1⟩:Obligation)]:List Obligation))⟩:Collector)
def hO (p0:Collector):Option Collector:=
 aT (λ(x4,b5)=>
 if x4 < (p0.table.routes.length:Int) then
 aA (
 aB (I64 (x4+(1:Int))) <|
 aT (λ(b14,b15)=>
 if b14 < (p0.table.routes.length:Int) then
 aA (
 aU p0.table.routes x4 λe20=>
 aT (λ(x24,b25)=>
 if x24 < (e20.sections.length:Int) then
 aU e20.sections x24 λe28=>
 aU p0.table.routes b14 λe29=>
 aA (dJ e29.sections e28) λr30=>
 if (0:Int)≤r30 then
 aA (dR (⟨p0.table,p0.vars,b25⟩:Collector) x4 x24) λr32=>
 aA (dR (⟨p0.table,p0.vars,b25⟩:Collector) b14 r30) λr33=>
 aA (hU ([r32,r33]:List Expr)) λr34=>
 aA (gK r34) λr35=>
 aA (dH (⟨p0.table,p0.vars,b25⟩:Collector) r35 (⟨#[112,97,116,104]⟩:ByteArray) ([x4,b14,e28]:List Int)) λr36=>
 aB (I64 (x24+(1:Int))) <|
 some (.inl ((x24+(1:Int)),r36.list))
 else
 aB (I64 (x24+(1:Int))) <|
 some (.inl ((x24+(1:Int)),b25))
 else
 aI (
 some b25)) ((0:Int),b15)) λb18=>
 aB (I64 (b14+(1:Int))) <|
 some (.inl ((b14+(1:Int)),b18))
 else
 aI (
 some b15)) ((x4+(1:Int)),b5)) λb8=>
 aB (I64 (x4+(1:Int))) <|
 some (.inl ((x4+(1:Int)),b8))
 else
 aI (
 some (⟨p0.table,p0.vars,b5⟩:Collector))) ((0:Int),p0.list)
def fX (p0:Collector):Option Collector:=
 aT (λ(x4,b5)=>
 if x4 < (p0.table.routes.length:Int) then
 aA (
 aU p0.table.routes x4 λe10=>
 aT (λ(x14,b15)=>
 if x14 < (p0.table.routes.length:Int) then
 aA (
 aU p0.table.routes x14 λe20=>
 aA (
 if x4=x14 then
 some true
 else
 aA (gU e10 e20) λr24=>
 some r24) λx21=>
 if x21=true then
 some b15
 else
 aT (λ(x29,b30)=>
 if x29 < (e10.overSections.length:Int) then
 aU e10.overSections x29 λe33=>
 aA (dJ e20.sections e33) λr34=>
 if (0:Int)≤r34 then
 aA (dM (⟨p0.table,p0.vars,b30⟩:Collector) x4) λr36=>
 aA (dR (⟨p0.table,p0.vars,b30⟩:Collector) x14 r34) λr37=>
 aA (hU ([r36,r37]:List Expr)) λr38=>
 aA (gK r38) λr39=>
 aA (dH (⟨p0.table,p0.vars,b30⟩:Collector) r39 (⟨#[111,118,101,114]⟩:ByteArray) ([x4,x14,e33]:List Int)) λr40=>
 aB (I64 (x29+(1:Int))) <|
 some (.inl ((x29+(1:Int)),r40.list))
 else
 aB (I64 (x29+(1:Int))) <|
 some (.inl ((x29+(1:Int)),b30))
 else
 aI (
 some b30)) ((0:Int),b15)) λb18=>
 aB (I64 (x14+(1:Int))) <|
 some (.inl ((x14+(1:Int)),b18))
 else
 aI (
 some b15)) ((0:Int),b5)) λb8=>
 aB (I64 (x4+(1:Int))) <|
 some (.inl ((x4+(1:Int)),b8))
 else
 aI (
 some (⟨p0.table,p0.vars,b5⟩:Collector))) ((0:Int),p0.list)
def hP (p0:Collector) (p1:Int) (p2:Setting):Option Expr:=
 aU p0.table.routes p1 λe1=>
 aA (fR p0.table p2.el) λr2=>
 aU p0.table.homes r2 λe3=>
 aA (dJ e1.sections e3) λr4=>
 aA (
 if r4 < (0:Int) then
 some true
 else
 aA (dE e1.overPoints p2) λr8=>
 if r8=true then
 some true
 else
 aA (dE e1.flank p2) λr10=>
 some r10) λx5=>
 if x5=true then
 aA (dM p0 p1) λr12=>
 some r12
 else
 aA (dR p0 p1 r4) λr13=>
 some r13
def iM (p0:Collector) (p1:Int):Option Collector:=
 aU p0.table.routes p1 λe1=>
 aA (eX e1) λr2=>
 aT (λ(x6,b7)=>
 if x6 < (r2.length:Int) then
 aU r2 x6 λe10=>
 aA (fR p0.table e10.el) λr11=>
 aA (bN (⟨p0.table,p0.vars,b7⟩:Collector) (⟨#[108,105,101]⟩:ByteArray) ([r11]:List Int)) λr12=>
 aA (
 if e10.pos=(1:Int) then
 aA (gK r12) λr18=>
 some (r18.op,r18.var,r18.args)
 else
 some (r12.op,r12.var,r12.args)) λ(c13,c14,c15)=>
 aA (hP (⟨p0.table,p0.vars,b7⟩:Collector) p1 e10) λr19=>
 aA (gK r19) λr20=>
 aA (mN ([r20,(⟨c13,c14,c15⟩:Expr)]:List Expr)) λr21=>
 aA (dH (⟨p0.table,p0.vars,b7⟩:Collector) r21 (⟨#[108,105,101]⟩:ByteArray) ([p1,r11]:List Int)) λr22=>
 aB (I64 (x6+(1:Int))) <|
 some (.inl ((x6+(1:Int)),r22.list))
 else
 aI (
 some (⟨p0.table,p0.vars,b7⟩:Collector))) ((0:Int),p0.list)
def gQ (p0:Collector) (p1:Int):Option Collector:=
 aU p0.table.routes p1 λe1=>
 aA (
 aA (fB ([e1.sections,e1.overSections]:List (List Int))) λr4=>
 aT (λ(x8,b9)=>
 if x8 < (r4.length:Int) then
 aU r4 x8 λe12=>
 aA (bN p0 (⟨#[102,114,101,101]⟩:ByteArray) ([e12]:List Int)) λr13=>
 aB ((b9++([r13]:List Expr)).length≤1000000000) <|
 aB (I64 (x8+(1:Int))) <|
 some (.inl ((x8+(1:Int)),(b9++([r13]:List Expr))))
 else
 aI (
 some b9)) ((0:Int),([]:List Expr))) λb2=>
 aA (
 aA (eX e1) λr19=>
 aT (λ(x23,b24)=>
 if x23 < (r19.length:Int) then
 aU r19 x23 λe27=>
 aA (
 if e27.pos=(2:Int) then
 some (⟨#[114,101,118,101,114,115,101]⟩:ByteArray)
 else
 some (⟨#[110,111,114,109,97,108]⟩:ByteArray)) λword28=>
 aA (fR p0.table e27.el) λr31=>
 aA (bN p0 word28 ([r31]:List Int)) λr32=>
 aB ((b24++([r32]:List Expr)).length≤1000000000) <|
 aB (I64 (x23+(1:Int))) <|
 some (.inl ((x23+(1:Int)),(b24++([r32]:List Expr))))
 else
 aI (
 some b24)) ((0:Int),b2)) λb17=>
 aA (bN p0 (⟨#[99,108,101,97,114]⟩:ByteArray) ([p1]:List Int)) λr36=>
 aA (gK r36) λr37=>
 aA (hU b17) λr38=>
 aA (mN ([r37,r38]:List Expr)) λr39=>
 aA (dH p0 r39 (⟨#[112,114,111,118,101,100]⟩:ByteArray) ([p1]:List Int)) λr40=>
 some (⟨p0.table,p0.vars,r40.list⟩:Collector)
def iT (p0:Collector) (p1:Int):Option Collector:=
 aA (
 aT (λ(x6,b7)=>
 if x6 < (4:Int) then
 aA (
 aU ([(⟨#[115,101,116]⟩:ByteArray),(⟨#[99,108,101,97,114]⟩:ByteArray),(⟨#[117,115,101,100]⟩:ByteArray),(⟨#[104,101,108,100]⟩:ByteArray)]:List ByteArray) x6 λe12=>
 aB (0≤(0:Int)∧(0:Int)≤x6∧x6≤4) <|
 aT (λ(x17,b18)=>
 if x17 < ((sub ([(⟨#[115,101,116]⟩:ByteArray),(⟨#[99,108,101,97,114]⟩:ByteArray),(⟨#[117,115,101,100]⟩:ByteArray),(⟨#[104,101,108,100]⟩:ByteArray)]:List ByteArray) (0:Int) x6).length:Int) then
 aU (sub ([(⟨#[115,101,116]⟩:ByteArray),(⟨#[99,108,101,97,114]⟩:ByteArray),(⟨#[117,115,101,100]⟩:ByteArray),(⟨#[104,101,108,100]⟩:ByteArray)]:List ByteArray) (0:Int) x6) x17 λe21=>
 aA (bN p0 e12 ([p1]:List Int)) λr22=>
 aA (bN p0 e21 ([p1]:List Int)) λr23=>
 aA (hU ([r22,r23]:List Expr)) λr24=>
 aA (gK r24) λr25=>
 aB ((b18++([r25]:List Expr)).length≤1000000000) <|
 aB (I64 (x17+(1:Int))) <|
 some (.inl ((x17+(1:Int)),(b18++([r25]:List Expr))))
 else
 aI (
 some b18)) ((0:Int),b7)) λb10=>
 aB (I64 (x6+(1:Int))) <|
 some (.inl ((x6+(1:Int)),b10))
 else
 aI (
 some b7)) ((0:Int),([]:List Expr))) λb1=>
 aA (hU b1) λr31=>
 aA (dH p0 r31 (⟨#[111,110,101]⟩:ByteArray) ([p1]:List Int)) λr32=>
 some (⟨p0.table,p0.vars,r32.list⟩:Collector)
def iL (p0:Collector) (p1:Int):Option Collector:=
 aA (
 aT (λ(k6,b7)=>
 aU p0.table.routes p1 λe9=>
 aB (I64 ((e9.sections.length:Int) - (1:Int))) <|
 if k6 < ((e9.sections.length:Int) - (1:Int)) then
 aA (bN p0 (⟨#[114,101,108]⟩:ByteArray) ([p1,k6]:List Int)) λr12=>
 aA (gK r12) λr13=>
 aB (I64 (k6 - (1:Int))) <|
 aA (bN p0 (⟨#[114,101,108]⟩:ByteArray) ([p1,(k6 - (1:Int))]:List Int)) λr15=>
 aA (mN ([r13,r15]:List Expr)) λr16=>
 aB ((b7++([r16]:List Expr)).length≤1000000000) <|
 aB (I64 (k6+(1:Int))) <|
 some (.inl ((k6+(1:Int)),(b7++([r16]:List Expr))))
 else
 aI (
 some b7)) ((1:Int),([]:List Expr))) λb1=>
 aA (hU b1) λr20=>
 aA (dH p0 r20 (⟨#[114,101,108]⟩:ByteArray) ([p1]:List Int)) λr21=>
 some (⟨p0.table,p0.vars,r21.list⟩:Collector)
def uI (p0:Table):Option ((List Obligation)×Int):=
 aA (lT p0) λ(r2,r3)=>
 if r3=(0:Int) then
 aA (
 aT (λ(x10,b11)=>
 if x10 < (r2.names.length:Int) then
 aU r2.names x10 λe14=>
 aB (b11.map (·.1)).Nodup <|
 aB (I64 (x10+(1:Int))) <|
 some (.inl ((x10+(1:Int)),(qMS b11 e14 x10)))
 else
 aI (
 some b11)) ((0:Int),([]:List (ByteArray×Int)))) λm5=>
 aA (hO (⟨p0,m5,([]:List Obligation)⟩:Collector)) λr18=>
 aA (fX (⟨p0,m5,r18.list⟩:Collector)) λr19=>
 aA (
 aT (λ(x25,b26)=>
 if x25 < (p0.routes.length:Int) then
 aA (iM (⟨p0,m5,b26⟩:Collector) x25) λr29=>
 aB (I64 (x25+(1:Int))) <|
 some (.inl ((x25+(1:Int)),r29.list))
 else
 aI (
 some b26)) ((0:Int),r19.list)) λb20=>
 aA (
 aT (λ(x37,b38)=>
 if x37 < (p0.routes.length:Int) then
 aA (gQ (⟨p0,m5,b38⟩:Collector) x37) λr41=>
 aB (I64 (x37+(1:Int))) <|
 some (.inl ((x37+(1:Int)),r41.list))
 else
 aI (
 some b38)) ((0:Int),b20)) λb32=>
 aA (
 aT (λ(x49,b50)=>
 if x49 < (p0.routes.length:Int) then
 aA (iT (⟨p0,m5,b50⟩:Collector) x49) λr53=>
 aB (I64 (x49+(1:Int))) <|
 some (.inl ((x49+(1:Int)),r53.list))
 else
 aI (
 some b50)) ((0:Int),b32)) λb44=>
 aA (
 aT (λ(x61,b62)=>
 if x61 < (p0.routes.length:Int) then
 aA (iL (⟨p0,m5,b62⟩:Collector) x61) λr65=>
 aB (I64 (x61+(1:Int))) <|
 some (.inl ((x61+(1:Int)),r65.list))
 else
 aI (
 some b62)) ((0:Int),b44)) λb56=>
 some (b56,(0:Int))
 else
 some (([]:List Obligation),r3)
def qI (p0:Int):Option Expr:=
 some (⟨(3:Int),p0,([]:List Expr)⟩:Expr)
def fM:Nat→Expr→Int→Int→Int→Option (Bool×Int)
 | 0,_,_,_,_=>none
 | fu+1,p0,p1,p2,p3=>
 if ((decide ((12:Int) < p2))||(decide (p3=(0:Int))))=true then
 some (false,p3)
 else
 aB (I64 (p3 - (1:Int))) <|
 cU (
 aA (
 if p0.op=(1:Int) then
 some (decide (p0.op=(1:Int)))
 else
 some (decide (p0.op=(2:Int)))) λx5=>
 if x5=true then
 aI (
 some (((decide (p0.var=(0:Int)))&&(decide ((p0.args.length:Int)=(0:Int)))),(p3 - (1:Int))))
 else
 if p0.op=(3:Int) then
 aI (
 some (((decide ((0:Int)≤p0.var))&&((decide (p0.var < p1))&&(decide ((p0.args.length:Int)=(0:Int))))),(p3 - (1:Int))))
 else
 if p0.op=(4:Int) then
 if (p0.args.length:Int)=(1:Int) then
 some (.inl ())
 else
 aI (
 some (false,(p3 - (1:Int))))
 else
 if p0.op=(5:Int) then
 some (.inl ())
 else
 if p0.op=(6:Int) then
 some (.inl ())
 else
 aI (
 some (false,(p3 - (1:Int))))) λ_=>
 if p0.var=(0:Int) then
 cU (
 aT (λ(x27,c28)=>
 if x27 < (p0.args.length:Int) then
 aU p0.args x27 λe31=>
 aB (I64 (p2+(1:Int))) <|
 aA ((fM fu) e31 p1 (p2+(1:Int)) c28) λ(r34,r35)=>
 if (!(r34))=true then
 aI (
 aI (
 some (false,r35)))
 else
 aB (I64 (x27+(1:Int))) <|
 some (.inl ((x27+(1:Int)),r35))
 else
 aI (
 some (.inl c28))) ((0:Int),(p3 - (1:Int)))) λc22=>
 some (true,c22)
 else
 some (false,(p3 - (1:Int)))
def uM (p0:Expr) (p1:Int) (p2:Int) (p3:Int):Option (Bool×Int):=fM cA p0 p1 p2 p3
def fW (p0:Expr) (p1:Int):Option Bool:=
 aA (uM p0 p1 (1:Int) (20000:Int)) λ(r2,r3)=>
 some r2
def jI (p0:Program) (p1:Rung):Option Bool:=
 cU (
 if p1.kind=(1:Int) then
 if p1.preset=(0:Int) then
 some (.inl ())
 else
 aI (
 some false)
 else
 if p1.kind=(2:Int) then
 if ((decide (p1.preset < (1:Int)))||(decide ((1073741824:Int) < p1.preset)))=true then
 aI (
 some false)
 else
 some (.inl ())
 else
 aI (
 some false)) λ_=>
 aA (
 if p0.inputs≤p1.var then
 if p1.var < (p0.names.length:Int) then
 aA (fW p1.expr (p0.names.length:Int)) λr14=>
 some r14
 else
 some false
 else
 some false) λx10=>
 some x10
def mM (p0:Program):Option Int:=
 if (2000:Int) < (p0.names.length:Int) then
 some (2:Int)
 else
 if ((decide (p0.inputs < (0:Int)))||(decide ((p0.names.length:Int) < p0.inputs)))=true then
 some (1:Int)
 else
 cU (
 aT (λx6=>
 if x6 < (p0.rungs.length:Int) then
 aU p0.rungs x6 λe9=>
 aA (jI p0 e9) λr10=>
 if (!(r10))=true then
 aI (
 aI (
 some (1:Int)))
 else
 aB (I64 (x6+(1:Int))) <|
 some (.inl (x6+(1:Int)))
 else
 aI (
 some (.inl ()))) (0:Int)) λ_=>
 aB (0≤(p0.names.length:Int)∧(p0.names.length:Int)≤1000000000) <|
 cU (
 aT (λ(x22,b23)=>
 if x22 < (p0.rungs.length:Int) then
 aU p0.rungs x22 λe26=>
 aU b23 e26.var λe27=>
 if e27=true then
 aI (
 aI (
 some (8:Int)))
 else
 aU b23 e26.var λe31=>
 aB (I64 (x22+(1:Int))) <|
 some (.inl ((x22+(1:Int)),(b23.set e26.var.toNat true)))
 else
 aI (
 some (.inl b23))) ((0:Int),(List.replicate (p0.names.length:Int).toNat false))) λb17=>
 some (0:Int)
def gF:Nat→Expr→Option Expr
 | 0,_=>none
 | fu+1,p0=>
 aA (
 aT (λ(x6,b7)=>
 if x6 < (p0.args.length:Int) then
 aU p0.args x6 λe10=>
 aA ((gF fu) e10) λr11=>
 aB ((b7++([r11]:List Expr)).length≤1000000000) <|
 aB (I64 (x6+(1:Int))) <|
 some (.inl ((x6+(1:Int)),(b7++([r11]:List Expr))))
 else
 aI (
 some b7)) ((0:Int),([]:List Expr))) λb1=>
 some (⟨p0.op,p0.var,b1⟩:Expr)
def nJ (p0:Expr):Option Expr:=gF cA p0
def iV:Nat→Expr→Option Expr
 | 0,_=>none
 | fu+1,p0=>
 aA (
 aT (λ(x6,b7)=>
 if x6 < (p0.args.length:Int) then
 aU p0.args x6 λe10=>
 aA (nJ e10) λr11=>
 aB ((b7++([r11]:List Expr)).length≤1000000000) <|
 aB (I64 (x6+(1:Int))) <|
 some (.inl ((x6+(1:Int)),(b7++([r11]:List Expr))))
 else
 aI (
 some b7)) ((0:Int),([]:List Expr))) λb1=>
 some (⟨p0.op,p0.var,b1⟩:Expr)
def mJ (p0:Expr):Option Expr:=iV cA p0
def fA:Nat→Expr→Int→Expr→Option Expr
 | 0,_,_,_=>none
 | fu+1,p0,p1,p2=>
 if ((decide (p0.op=(3:Int)))&&(decide (p0.var=p1)))=true then
 aA (mJ p2) λr3=>
 some r3
 else
 aA (
 aT (λ(x9,b10)=>
 if x9 < (p0.args.length:Int) then
 aU p0.args x9 λe13=>
 aA ((fA fu) e13 p1 p2) λr14=>
 aB ((b10++([r14]:List Expr)).length≤1000000000) <|
 aB (I64 (x9+(1:Int))) <|
 some (.inl ((x9+(1:Int)),(b10++([r14]:List Expr))))
 else
 aI (
 some b10)) ((0:Int),([]:List Expr))) λb4=>
 some (⟨p0.op,p0.var,b4⟩:Expr)
def gG (p0:Expr) (p1:Int) (p2:Expr):Option Expr:=fA cA p0 p1 p2
def gZ:Nat→Expr→Option Int
 | 0,_=>none
 | fu+1,p0=>
 aA (
 aT (λ(n5,x6)=>
 if x6 < (p0.args.length:Int) then
 aU p0.args x6 λe9=>
 aA ((gZ fu) e9) λr10=>
 aB (I64 (n5+r10)) <|
 aB (I64 (x6+(1:Int))) <|
 some (.inl ((n5+r10),(x6+(1:Int))))
 else
 aI (
 some n5)) ((1:Int),(0:Int))) λn1=>
 some n1
def jB (p0:Expr):Option Int:=gZ cA p0
def eJ:Nat→Expr→Int→Option Int
 | 0,_,_=>none
 | fu+1,p0,p1=>
 aA (
 if ((decide (p0.op=(3:Int)))&&(decide (p0.var=p1)))=true then
 some (1:Int)
 else
 some (0:Int)) λn1=>
 aA (
 aT (λ(n9,x10)=>
 if x10 < (p0.args.length:Int) then
 aU p0.args x10 λe13=>
 aA ((eJ fu) e13 p1) λr14=>
 aB (I64 (n9+r14)) <|
 aB (I64 (x10+(1:Int))) <|
 some (.inl ((n9+r14),(x10+(1:Int))))
 else
 aI (
 some n9)) (n1,(0:Int))) λn5=>
 some n5
def iG (p0:Expr) (p1:Int):Option Int:=eJ cA p0 p1
def jJ (p0:Program) (p1:Expr):Option (Expr×Int):=
 aA (
 aA (mM p0) λr3=>
 if r3=(0:Int) then
 aA (fW p1 (p0.names.length:Int)) λr5=>
 some (!(r5))
 else
 some true) λx1=>
 if x1=true then
 some ((⟨(0:Int),(0:Int),([]:List Expr)⟩:Expr),(1:Int))
 else
 aB (I64 ((p0.names.length:Int)+(p0.rungs.length:Int))) <|
 aA (gG p1 (-1:Int) (⟨(0:Int),(0:Int),([]:List Expr)⟩:Expr)) λr8=>
 cU (
 aB (I64 ((p0.rungs.length:Int) - (1:Int))) <|
 aT (λ(i19,c20,c21,c22)=>
 if (0:Int)≤i19 then
 aU p0.rungs i19 λe25=>
 aA (
 if e25.kind=(2:Int) then
 aB (I64 ((p0.names.length:Int)+i19)) <|
 some ((3:Int),((p0.names.length:Int)+i19),([]:List Expr))
 else
 some (e25.expr.op,e25.expr.var,e25.expr.args)) λ(c26,c27,c28)=>
 aA (jB (⟨c20,c21,c22⟩:Expr)) λr32=>
 aA (iG (⟨c20,c21,c22⟩:Expr) e25.var) λr33=>
 aA (jB (⟨c26,c27,c28⟩:Expr)) λr34=>
 aB (I64 (r34 - (1:Int))) <|
 aB (I64 (r33 * (r34 - (1:Int)))) <|
 aB (I64 (r32+(r33 * (r34 - (1:Int))))) <|
 if (20000:Int) < (r32+(r33 * (r34 - (1:Int)))) then
 aI (
 aI (
 some ((⟨(0:Int),(0:Int),([]:List Expr)⟩:Expr),(2:Int))))
 else
 aA (gG (⟨c20,c21,c22⟩:Expr) e25.var (⟨c26,c27,c28⟩:Expr)) λr41=>
 aA (fW r41 ((p0.names.length:Int)+(p0.rungs.length:Int))) λr42=>
 if (!(r42))=true then
 aI (
 aI (
 some ((⟨(0:Int),(0:Int),([]:List Expr)⟩:Expr),(2:Int))))
 else
 aB (I64 (i19 - (1:Int))) <|
 some (.inl ((i19 - (1:Int)),r41.op,r41.var,r41.args))
 else
 aI (
 some (.inl (c20,c21,c22)))) (((p0.rungs.length:Int) - (1:Int)),r8.op,r8.var,r8.args)) λ(c9,c10,c11)=>
 some ((⟨c9,c10,c11⟩:Expr),(0:Int))
def kK:Nat→Expr→Expr→Option Bool
 | 0,_,_=>none
 | fu+1,p0,p1=>
 if ((!(decide (p0.op=p1.op)))||((!(decide (p0.var=p1.var)))||(!(decide ((p0.args.length:Int)=(p1.args.length:Int))))))=true then
 some false
 else
 cU (
 aT (λi6=>
 if i6 < (p0.args.length:Int) then
 aU p0.args i6 λe9=>
 aU p1.args i6 λe10=>
 aA ((kK fu) e9 e10) λr11=>
 if (!(r11))=true then
 aI (
 aI (
 some false))
 else
 aB (I64 (i6+(1:Int))) <|
 some (.inl (i6+(1:Int)))
 else
 aI (
 some (.inl ()))) (0:Int)) λ_=>
 some true
def tX (p0:Expr) (p1:Expr):Option Bool:=kK cA p0 p1
def sB (p0:Expr):Option If_node:=
 if p0.op=(3:Int) then
 some (⟨200,p0⟩:If_node)
 else
 if p0.op=(4:Int) then
 if (0:Int) < (p0.args.length:Int) then
 some (⟨201,p0⟩:If_node)
 else
 some (⟨232,p0⟩:If_node)
 else
 if p0.op=(5:Int) then
 some (⟨202,p0⟩:If_node)
 else
 if p0.op=(6:Int) then
 some (⟨203,p0⟩:If_node)
 else
 some (⟨232,p0⟩:If_node)
def iU:Nat→Expr→(List Bool)→Option Bool
 | 0,_,_=>none
 | fu+1,p0,p1=>
 cU (
 aA (sB p0) λr2=>
 if r2.tid=200 then
 aA (
 if (0:Int)≤r2.e.var then
 if r2.e.var < (p1.length:Int) then
 aU p1 r2.e.var λe8=>
 some e8
 else
 some false
 else
 some false) λx4=>
 aI (
 some x4)
 else
 if r2.tid=201 then
 aU r2.e.args (0:Int) λe11=>
 aA ((iU fu) e11 p1) λr12=>
 aI (
 some (!(r12)))
 else
 if r2.tid=202 then
 cU (
 aT (λx17=>
 if x17 < (r2.e.args.length:Int) then
 aU r2.e.args x17 λe20=>
 aA ((iU fu) e20 p1) λr21=>
 if (!(r21))=true then
 aI (
 aI (
 aI (
 some false)))
 else
 aB (I64 (x17+(1:Int))) <|
 some (.inl (x17+(1:Int)))
 else
 aI (
 some (.inl ()))) (0:Int)) λ_=>
 aI (
 some true)
 else
 if r2.tid=203 then
 cU (
 aT (λx32=>
 if x32 < (r2.e.args.length:Int) then
 aU r2.e.args x32 λe35=>
 aA ((iU fu) e35 p1) λr36=>
 if r36=true then
 aI (
 aI (
 aI (
 some true)))
 else
 aB (I64 (x32+(1:Int))) <|
 some (.inl (x32+(1:Int)))
 else
 aI (
 some (.inl ()))) (0:Int)) λ_=>
 aI (
 some false)
 else
 some (.inl ())) λ_=>
 some (decide (p0.op=(2:Int)))
def qCC (p0:Expr) (p1:(List Bool)):Option Bool:=iU cA p0 p1
def wS (p0:Expr) (p1:(List Bool)):Option Bool:=
 aA (qCC p0 p1) λr1=>
 some r1
def lQ (p0:Obligation) (p1:Machine):Option Bool:=
 aA (wS p0.expr p1.vars) λr1=>
 some (!(r1))
def fK (p0:(List Obligation)) (p1:Obligation→Option Bool):Option Int:=
 cU (
 aT (λx3=>
 if x3 < (p0.length:Int) then
 aU p0 x3 λe6=>
 aA (p1 e6) λr7=>
 if r7=true then
 aI (
 aI (
 some x3))
 else
 aB (I64 (x3+(1:Int))) <|
 some (.inl (x3+(1:Int)))
 else
 aI (
 some (.inl ()))) (0:Int)) λ_=>
 some (-1:Int)
def qD (p0:(List Obligation)) (p1:Machine):Option Int:=
 aA (fK p0 (λa0=>lQ a0 p1)) λr1=>
 some r1
def jR (p0:Program) (p1:Expr):Option (Expr×Int):=
 aA (
 aA (mM p0) λr3=>
 if r3=(0:Int) then
 aA (fW p1 (p0.names.length:Int)) λr5=>
 some (!(r5))
 else
 some true) λx1=>
 if x1=true then
 some ((⟨(0:Int),(0:Int),([]:List Expr)⟩:Expr),(1:Int))
 else
 aB (I64 ((p0.names.length:Int)+(p0.rungs.length:Int))) <|
 aA (gG p1 (-1:Int) (⟨(0:Int),(0:Int),([]:List Expr)⟩:Expr)) λr8=>
 cU (
 aB (I64 ((p0.rungs.length:Int) - (1:Int))) <|
 aT (λ(i19,c20,c21,c22)=>
 if (0:Int)≤i19 then
 aU p0.rungs i19 λe25=>
 aA (
 if e25.kind=(2:Int) then
 aB (I64 ((p0.names.length:Int)+i19)) <|
 some ((3:Int),((p0.names.length:Int)+i19),([]:List Expr))
 else
 some (e25.expr.op,e25.expr.var,e25.expr.args)) λ(c26,c27,c28)=>
 aA (jB (⟨c20,c21,c22⟩:Expr)) λr32=>
 aA (iG (⟨c20,c21,c22⟩:Expr) e25.var) λr33=>
 aA (jB (⟨c26,c27,c28⟩:Expr)) λr34=>
 aB (I64 (r34 - (1:Int))) <|
 aB (I64 (r33 * (r34 - (1:Int)))) <|
 aB (I64 (r32+(r33 * (r34 - (1:Int))))) <|
 if (20000:Int) < (r32+(r33 * (r34 - (1:Int)))) then
 aI (
 aI (
 some ((⟨(0:Int),(0:Int),([]:List Expr)⟩:Expr),(2:Int))))
 else
 aA (gG (⟨c20,c21,c22⟩:Expr) e25.var (⟨c26,c27,c28⟩:Expr)) λr41=>
 aA (fW r41 ((p0.names.length:Int)+(p0.rungs.length:Int))) λr42=>
 if (!(r42))=true then
 aI (
 aI (
 some ((⟨(0:Int),(0:Int),([]:List Expr)⟩:Expr),(2:Int))))
 else
 aB (I64 (i19 - (1:Int))) <|
 some (.inl ((i19 - (1:Int)),r41.op,r41.var,r41.args))
 else
 aI (
 some (.inl (c20,c21,c22)))) (((p0.rungs.length:Int) - (1:Int)),r8.op,r8.var,r8.args)) λ(c9,c10,c11)=>
 some ((⟨c9,c10,c11⟩:Expr),(0:Int))
def gY:Option Bool:=
 aA (uK) λr1=>
 aA (rG r1) λ(r3,r4)=>
 aA (uI r3) λ(r6,r7)=>
 aA (qI (0:Int)) λr8=>
 aA (qI (1:Int)) λr9=>
 aA (jR (⟨([(⟨#[97]⟩:ByteArray),(⟨#[98]⟩:ByteArray)]:List ByteArray),(1:Int),([(⟨(1:Int),(1:Int),(0:Int),r8⟩:Rung)]:List Rung)⟩:Program) r9) λ(r11,r12)=>
 aU ([(⟨(1:Int),(1:Int),(0:Int),r8⟩:Rung)]:List Rung) (0:Int) λe13=>
 aU (([(⟨(1:Int),(1:Int),(0:Int),r8⟩:Rung)]:List Rung).set (0:Int).toNat (⟨(2:Int),e13.var,e13.preset,e13.expr⟩:Rung)) (0:Int) λe14=>
 aA (qI (1:Int)) λr15=>
 aA (jR (⟨([(⟨#[97]⟩:ByteArray),(⟨#[98]⟩:ByteArray)]:List ByteArray),(1:Int),((([(⟨(1:Int),(1:Int),(0:Int),r8⟩:Rung)]:List Rung).set (0:Int).toNat (⟨(2:Int),e13.var,e13.preset,e13.expr⟩:Rung)).set (0:Int).toNat (⟨e14.kind,e14.var,(2:Int),e14.expr⟩:Rung))⟩:Program) r15) λ(r17,r18)=>
 aA (
 if r7=(0:Int) then
 if (r6.length:Int)=(6:Int) then
 aU r6 (0:Int) λe23=>
 if e23.name=(⟨#[112,114,111,118,101,100,32,48]⟩:ByteArray) then
 aU r6 (5:Int) λe25=>
 if e25.name=(⟨#[114,101,108,32,49]⟩:ByteArray) then
 if r12=(0:Int) then
 aA (qI (0:Int)) λr28=>
 aA (tX r11 r28) λr29=>
 if r29=true then
 if r18=(0:Int) then
 aA (qI (2:Int)) λr32=>
 aA (tX r17 r32) λr33=>
 if r33=true then
 aA (qD r6 (⟨([]:List Bool),([]:List Int),false⟩:Machine)) λr35=>
 some (decide (r35=(-1:Int)))
 else
 some false
 else
 some false
 else
 some false
 else
 some false
 else
 some false
 else
 some false
 else
 some false
 else
 some false) λx19=>
 some x19
def hJ:Nat→Expr→Option Int
 | 0,_=>none
 | fu+1,p0=>
 aA (
 aT (λ(n5,i6)=>
 if i6 < (p0.args.length:Int) then
 aU p0.args i6 λe9=>
 aA ((hJ fu) e9) λr10=>
 aB (I64 (n5+r10)) <|
 aB (I64 (i6+(1:Int))) <|
 some (.inl ((n5+r10),(i6+(1:Int))))
 else
 aI (
 some n5)) ((1:Int),(0:Int))) λn1=>
 some n1
def jT (p0:Expr):Option Int:=hJ cA p0
def gH:Nat→Expr→Option Int
 | 0,_=>none
 | fu+1,p0=>
 aA (
 aT (λ(d5,i6)=>
 if i6 < (p0.args.length:Int) then
 aU p0.args i6 λe9=>
 aA ((gH fu) e9) λr10=>
 aB (I64 (i6+(1:Int))) <|
 some (.inl ((max d5 r10),(i6+(1:Int))))
 else
 aI (
 some d5)) ((0:Int),(0:Int))) λd1=>
 aB (I64 (d1+(1:Int))) <|
 some (d1+(1:Int))
def nX (p0:Expr):Option Int:=gH cA p0
def gB:Nat→Expr→Int→Option Bool
 | 0,_,_=>none
 | fu+1,p0,p1=>
 cU (
 aA (
 if p0.op=(1:Int) then
 some (decide (p0.op=(1:Int)))
 else
 some (decide (p0.op=(2:Int)))) λx2=>
 if x2=true then
 aI (
 some ((decide (p0.var=(0:Int)))&&(decide ((p0.args.length:Int)=(0:Int)))))
 else
 if p0.op=(3:Int) then
 aI (
 some ((decide ((0:Int)≤p0.var))&&((decide (p0.var < p1))&&(decide ((p0.args.length:Int)=(0:Int))))))
 else
 if p0.op=(4:Int) then
 if (p0.args.length:Int)=(1:Int) then
 some (.inl ())
 else
 aI (
 some false)
 else
 if p0.op=(5:Int) then
 some (.inl ())
 else
 if p0.op=(6:Int) then
 some (.inl ())
 else
 aI (
 some false)) λ_=>
 cU (
 aT (λi20=>
 if i20 < (p0.args.length:Int) then
 aU p0.args i20 λe23=>
 aA ((gB fu) e23 p1) λr24=>
 if (!(r24))=true then
 aI (
 aI (
 some false))
 else
 aB (I64 (i20+(1:Int))) <|
 some (.inl (i20+(1:Int)))
 else
 aI (
 some (.inl ()))) (0:Int)) λ_=>
 some (decide (p0.var=(0:Int)))
def pS (p0:Expr) (p1:Int):Option Bool:=gB cA p0 p1
def kA (p0:Expr) (p1:Int):Option Bool:=
 aA (
 aA (jT p0) λr3=>
 if r3≤(20000:Int) then
 aA (nX p0) λr5=>
 if r5≤(12:Int) then
 aA (pS p0 p1) λr7=>
 some r7
 else
 some false
 else
 some false) λx1=>
 some x1
def fL:Nat→Expr→(List Bool)→Option Bool
 | 0,_,_=>none
 | fu+1,p0,p1=>
 cU (
 if p0.op=(2:Int) then
 aI (
 some true)
 else
 if p0.op=(3:Int) then
 aA (
 if (0:Int)≤p0.var then
 if p0.var < (p1.length:Int) then
 aU p1 p0.var λe9=>
 some e9
 else
 some false
 else
 some false) λx5=>
 aI (
 some x5)
 else
 if p0.op=(4:Int) then
 aA (
 if (0:Int) < (p0.args.length:Int) then
 aU p0.args (0:Int) λe15=>
 aA ((fL fu) e15 p1) λr16=>
 some (!(r16))
 else
 some false) λx12=>
 aI (
 some x12)
 else
 aA (
 if p0.op=(5:Int) then
 some (decide (p0.op=(5:Int)))
 else
 some (decide (p0.op=(6:Int)))) λx18=>
 if x18=true then
 cU (
 aT (λi24=>
 if i24 < (p0.args.length:Int) then
 aU p0.args i24 λe27=>
 aA ((fL fu) e27 p1) λr28=>
 if ((r28 == (decide (p0.op=(6:Int)))))=true then
 aI (
 aI (
 aI (
 some (decide (p0.op=(6:Int))))))
 else
 aB (I64 (i24+(1:Int))) <|
 some (.inl (i24+(1:Int)))
 else
 aI (
 some (.inl ()))) (0:Int)) λ_=>
 aI (
 some (decide (p0.op=(5:Int))))
 else
 some (.inl ())) λ_=>
 some false
def lA (p0:Expr) (p1:(List Bool)):Option Bool:=fL cA p0 p1
def lN (p0:Program) (p1:Expr):Option Bool:=
 aA (jT p1) λr1=>
 aA (
 aT (λ(n6,x7)=>
 if x7 < (p0.rungs.length:Int) then
 aU p0.rungs x7 λe10=>
 aA (jT e10.expr) λr11=>
 aB (I64 (n6+r11)) <|
 aB (I64 (x7+(1:Int))) <|
 some (.inl ((n6+r11),(x7+(1:Int))))
 else
 aI (
 some n6)) (r1,(0:Int))) λn2=>
 some ((decide ((p0.names.length:Int)≤(2100:Int)))&&((decide ((p0.rungs.length:Int)≤(60:Int)))&&(decide (n2≤(2000:Int)))))
def mZ (p0:Program) (p1:Rung):Option Bool:=
 if (bif !(decide (p1.kind=(1:Int))) then ((!(decide (p1.kind=(2:Int))))||((decide (p1.var < p0.inputs))||(decide ((p0.names.length:Int)≤p1.var)))) else ((decide (p1.var < p0.inputs))||(decide ((p0.names.length:Int)≤p1.var))))=true then
 some false
 else
 if (bif decide (p1.kind=(1:Int)) then ((!(decide (p1.preset=(0:Int))))||((decide (p1.kind=(2:Int)))&&((decide (p1.preset < (1:Int)))||(decide ((1073741824:Int) < p1.preset))))) else ((decide (p1.kind=(2:Int)))&&((decide (p1.preset < (1:Int)))||(decide ((1073741824:Int) < p1.preset)))))=true then
 some false
 else
 aA (kA p1.expr (p0.names.length:Int)) λr13=>
 some r13
def jZ (p0:Program):Option Int:=
 if (2000:Int) < (p0.names.length:Int) then
 some (2:Int)
 else
 if ((decide (p0.inputs < (0:Int)))||(decide ((p0.names.length:Int) < p0.inputs)))=true then
 some (1:Int)
 else
 cU (
 aT (λi6=>
 if i6 < (p0.rungs.length:Int) then
 aU p0.rungs i6 λe9=>
 aA (mZ p0 e9) λr10=>
 if (!(r10))=true then
 aI (
 aI (
 some (1:Int)))
 else
 aB (I64 (i6+(1:Int))) <|
 some (.inl (i6+(1:Int)))
 else
 aI (
 some (.inl ()))) (0:Int)) λ_=>
 cU (
 aT (λi18=>
 if i18 < (p0.rungs.length:Int) then
 cU (
 aT (λk23=>
 if k23 < i18 then
 aU p0.rungs k23 λe26=>
 aU p0.rungs i18 λe27=>
 if e26.var=e27.var then
 aI (
 aI (
 aI (
 aI (
 some (8:Int)))))
 else
 aB (I64 (k23+(1:Int))) <|
 some (.inl (k23+(1:Int)))
 else
 aI (
 some (.inl ()))) (0:Int)) λ_=>
 aB (I64 (i18+(1:Int))) <|
 some (.inl (i18+(1:Int)))
 else
 aI (
 some (.inl ()))) (0:Int)) λ_=>
 some (0:Int)
def kZ (p0:Program) (p1:Machine):Option Bool:=
 aA (
 aA (jZ p0) λr3=>
 if r3=(0:Int) then
 if (p1.vars.length:Int)=(p0.names.length:Int) then
 some (!(decide ((p1.counts.length:Int)=(p0.rungs.length:Int))))
 else
 some true
 else
 some true) λx1=>
 if x1=true then
 some false
 else
 cU (
 aT (λi9=>
 if i9 < (p1.counts.length:Int) then
 aA (
 aU p1.counts i9 λe14=>
 if e14 < (0:Int) then
 some true
 else
 aU p1.counts i9 λe16=>
 aU p0.rungs i9 λe17=>
 some (decide (e17.preset < e16))) λx12=>
 if x12=true then
 aI (
 aI (
 some false))
 else
 aB (I64 (i9+(1:Int))) <|
 some (.inl (i9+(1:Int)))
 else
 aI (
 some (.inl ()))) (0:Int)) λ_=>
 some true
def rF (p0:Program):Option Machine:=
 aA (jZ p0) λr1=>
 if r1=(0:Int) then
 aB (0≤(p0.names.length:Int)∧(p0.names.length:Int)≤1000000000) <|
 aB (0≤(p0.rungs.length:Int)∧(p0.rungs.length:Int)≤1000000000) <|
 some (⟨(List.replicate (p0.names.length:Int).toNat false),(List.replicate (p0.rungs.length:Int).toNat (0:Int)),false⟩:Machine)
 else
 some (⟨([]:List Bool),([]:List Int),true⟩:Machine)
def tW (p0:Program):Option Machine:=
 aA (rF p0) λr1=>
 some (⟨r1.vars,r1.counts,true⟩:Machine)
def nA (p0:Program) (p1:Machine) (p2:(List Bool)):Option Machine:=
 aA (
 aA (kZ p0 p1) λr3=>
 if (!(r3))=true then
 some true
 else
 some p1.halted) λx1=>
 if x1=true then
 aA (tW p0) λr6=>
 some r6
 else
 aB ((([]:List Bool)++p1.vars).length≤1000000000) <|
 aB ((([]:List Int)++p1.counts).length≤1000000000) <|
 aA (
 aT (λ(i14,b15)=>
 if i14 < p0.inputs then
 if i14 < (p2.length:Int) then
 aU p2 i14 λe21=>
 aU b15 i14 λe22=>
 aB (I64 (i14+(1:Int))) <|
 some (.inl ((i14+(1:Int)),(b15.set i14.toNat e21)))
 else
 aU b15 i14 λe19=>
 aB (I64 (i14+(1:Int))) <|
 some (.inl ((i14+(1:Int)),(b15.set i14.toNat false)))
 else
 aI (
 some b15)) ((0:Int),(([]:List Bool)++p1.vars))) λb9=>
 aA (
 aT (λ(i32,b33,b34)=>
 if i32 < (p0.rungs.length:Int) then
 aU p0.rungs i32 λe37=>
 aA (lA e37.expr b33) λr38=>
 aA (
 if e37.kind=(2:Int) then
 aA (
 if r38=true then
 aU b34 i32 λe46=>
 aB (I64 (e46+(1:Int))) <|
 some (min (e46+(1:Int)) e37.preset)
 else
 some (0:Int)) λn43=>
 aU b34 i32 λe48=>
 some (decide (n43=e37.preset),(b34.set i32.toNat n43))
 else
 some (r38,b34)) λ(value39,b40)=>
 aU b33 e37.var λe49=>
 aB (I64 (i32+(1:Int))) <|
 some (.inl ((i32+(1:Int)),(b33.set e37.var.toNat value39),b40))
 else
 aI (
 some (b33,b34))) ((0:Int),b9,(([]:List Int)++p1.counts))) λ(b25,b26)=>
 some (⟨b25,b26,false⟩:Machine)
def gE (p0:Program) (p1:Expr) (p2:Moment):Option Bool:=
 aA (
 aA (lN p0 p1) λr3=>
 if (!(r3))=true then
 some true
 else
 if (3000:Int) < (p2.inputs.length:Int) then
 some true
 else
 if (p2.machine.halted)=true then
 some true
 else
 aA (kZ p0 p2.machine) λr7=>
 some (!(r7))) λx1=>
 if x1=true then
 aA (gY) λr9=>
 some r9
 else
 aA (jJ p0 p1) λ(r11,r12)=>
 if r12=(0:Int) then
 aA (nA p0 p2.machine p2.inputs) λr21=>
 aB ((([]:List Bool)++p2.machine.vars).length≤1000000000) <|
 aA (
 aT (λ(i28,b29)=>
 if i28 < p0.inputs then
 if i28 < (p2.inputs.length:Int) then
 aU p2.inputs i28 λe35=>
 aU b29 i28 λe36=>
 aB (I64 (i28+(1:Int))) <|
 some (.inl ((i28+(1:Int)),(b29.set i28.toNat e35)))
 else
 aU b29 i28 λe33=>
 aB (I64 (i28+(1:Int))) <|
 some (.inl ((i28+(1:Int)),(b29.set i28.toNat false)))
 else
 aI (
 some b29)) ((0:Int),(([]:List Bool)++p2.machine.vars))) λb23=>
 aA (
 aT (λ(x44,b45)=>
 if x44 < (p0.rungs.length:Int) then
 aU p0.rungs x44 λe48=>
 if e48.kind=(2:Int) then
 aU r21.counts x44 λe52=>
 aB ((b45++([decide (e52=e48.preset)]:List Bool)).length≤1000000000) <|
 aB (I64 (x44+(1:Int))) <|
 some (.inl ((x44+(1:Int)),(b45++([decide (e52=e48.preset)]:List Bool))))
 else
 aB ((b45++([false]:List Bool)).length≤1000000000) <|
 aB (I64 (x44+(1:Int))) <|
 some (.inl ((x44+(1:Int)),(b45++([false]:List Bool))))
 else
 aI (
 some b45)) ((0:Int),b23)) λb39=>
 aA (
 aA (lA r11 b39) λr58=>
 aA (lA p1 r21.vars) λr59=>
 if ((r58 == r59))=true then
 aA (gY) λr61=>
 some r61
 else
 some false) λx56=>
 some x56
 else
 aA (
 if r12=(2:Int) then
 aA (gY) λr20=>
 some r20
 else
 aA (kA p1 (p0.names.length:Int)) λr17=>
 if (!(r17))=true then
 aA (gY) λr19=>
 some r19
 else
 some false) λx14=>
 some x14
@[simp] theorem aZ {α:Type} {p:Prop} [Decidable p] {k:Option α} (h:p):aB p k=k:=if_pos h
@[simp] theorem aG {α β:Type} (a:α) (k:α→Option β):aA (some a) k=k a:=rfl
@[simp] theorem eI {α β:Type} (a:α) (k:α→Option β):cU (some (.inl a)) k=k a:=rfl
@[simp] theorem dB {α β:Type} (b:β) (k:α→Option β):cU (some (.inr b)) k=some b:=rfl
@[simp] theorem dT {α β:Type} (b:β):(aI (some b):Option (α ⊕ β))=some (.inr b):=rfl
theorem eC {α β:Type} {l:List α} {i:Nat} {e:α} {k:α→Option β} (h:l[i]?=some e):aU l (i:Int) k=k e:=by simp [aU,h]
theorem nI {α β:Type} {l:List α} {i:Int} {e:α} {k:α→Option β} (h0:0≤i) (h:l[i.toNat]?=some e):aU l i k=k e:=by simp [aU,h0,h]
@[simp] theorem ite_bindM {α β:Type} {p:Prop} [Decidable p] (a b:α) (k:α→Option β):aA (if p then some a else some b) k=k (if p then a else b):=by split<;>rfl
variable {σ ρ:Type}
theorem qFZ {f:σ→Option (σ ⊕ ρ)} (B:Nat→σ) {o:ρ}:∀ (n k:Nat),(∀ i,k≤i→i < k+n→f (B i)=some (.inl (B (i+1))))→f (B (k+n))=some (.inr o)→kW f (n+1) (B k)=some o
 | 0,k,_,he=>by simp only [Nat.add_zero] at he;simp [kW,he]
 | n+1,k,hf,he=>by
  simp only [kW];rw [hf k (zQW _) (by omega)];exact qFZ B n (k+1) (λi h1 h2=>hf i (by omega) (by omega)) (by rw [show k+1+n=k+(n+1) by omega];exact he)
theorem qG {f:σ→Option (σ ⊕ ρ)} (B:Nat→σ) (n:Nat) {o:ρ} {s:σ} (hs:s=B 0) (hn:n≤9223372036854775807) (hf:∀ i,i < n→f (B i)=some (.inl (B (i+1)))) (he:f (B n)=some (.inr o)):aT f s=some o:=by
 subst hs;exact rY (qFZ B n 0 (λi _ h=>hf i (by omega)) (by rw [Nat.zero_add];exact he)) (by unfold cA;omega)
theorem qFT {f : Int → Option (Int ⊕ ρ)} (n : Nat) (c : Nat → Option ρ) (o : ρ) (hn : n ≤ 9223372036854775807) (hf : ∀ i, i < n → f (i : Int) = match c i with
  | some r => some (.inr r)
  | none => some (.inl ((i : Int) + 1))) (he : f (n : Int) = some (.inr o)) : aT f 0 = some (((List.range n).findSome? c).getD o) := by
 cases h:(List.range n).findSome? c with
 | none=>
  rw [List.findSome?_eq_none_iff] at h;refine qG (λi=>(i:Int)) n rfl hn (λi hi=>?_) he;rw [hf i hi,h i (List.mem_range.2 hi)];rfl
 | some r=>
  rw [List.findSome?_eq_some_iff] at h;obtain⟨l1,a,l2,h1,h2,h3⟩:=h
  have ha:l1.length=a∧a < n:=by
   have hlen:l1.length < (List.range n).length:=by rw [h1];simp
   have:(List.range n)[l1.length]?=some a:=by rw [h1];simp
   simp only [List.length_range] at hlen;simp [hlen] at this;exact⟨this,by omega⟩
  obtain⟨ha1,ha2⟩:=ha;refine qG (λi=>(i:Int)) a rfl (by omega) (λi hi=>?_) ?_
  ·have hm:i∈l1:=by
    have:(List.range n)[i]?=some i:=List.getElem?_range (by omega);rw [h1,List.getElem?_append_left (by omega)] at this;exact zQM this
   rw [hf i (by omega),h3 i hm];rfl
  rw [hf a ha2,h2];rfl
theorem zS {α β:Type} (l:List α) (c:Nat→Option β) (d:α→Option β) (h:∀ (i:Nat) (e:α),l[i]?=some e→c i=d e):(List.range l.length).findSome? c=l.findSome? d:=by
 induction l generalizing c with
 | nil=>rfl
 | cons x r ih=>
  rw [List.length_cons,List.range_succ_eq_map,List.findSome?_cons,List.findSome?_map,List.findSome?_cons,h 0 x rfl]
  cases d x with
  | some b=>rfl
  | none=>exact ih (c ∘ Nat.succ) λi e he=>h (i+1) e (by simpa using he)
theorem qKU {α : Type} {f : Int → Option (Int ⊕ ρ)} (l : List α) (d : α → Option ρ) (o : ρ) (hn : l.length ≤ 9223372036854775807) (hf : ∀ (i : Nat) (e : α), l[i]? = some e → f (i : Int) = match d e with
  | some r => some (.inr r)
  | none => some (.inl ((i : Int) + 1))) (he : f (l.length : Int) = some (.inr o)) : aT f 0 = some ((l.findSome? d).getD o) := by
 rw [qFT l.length (λi=>(l[i]?).bind d) o hn (λi hi=>?_) he,zS l _ d (λi e he=>by simp [he])];rw [hf i l[i] (by simp),zQR hi];rfl
theorem vK {α β:Type} (l:List α) (c:α→Bool) (v:β):l.findSome? (λe=>if c e=true then some v else none)=if l.any c=true then some v else none:=by
 induction l with
 | nil=>rfl
 | cons x r ih=>
  rw [List.findSome?_cons,List.any_cons,ih];cases c x<;>simp
theorem pF {α:Type} {f:Int→Option (Int ⊕ ρ)} (l:List α) (c:α→Bool) (v o:ρ) (hn:l.length≤9223372036854775807) (hf:∀ (i:Nat) (e:α),l[i]?=some e→f (i:Int)=if c e=true then some (.inr v) else some (.inl ((i:Int)+1))) (he:f (l.length:Int)=some (.inr o)):aT f 0=some (if l.any c=true then v else o):=by
 rw [qKU l (λe=>if c e=true then some v else none) o hn (λi e h=>by rw [hf i e h];cases c e<;>simp) he,vK];split<;>rfl
theorem qKV {f:Int→Option (Int ⊕ ρ)} (n:Nat) (c:Nat→Bool) (v o:ρ) (hn:n≤9223372036854775807) (hf:∀ i,i < n→f (i:Int)=if c i=true then some (.inr v) else some (.inl ((i:Int)+1))) (he:f (n:Int)=some (.inr o)):aT f 0=some (if (List.range n).any c=true then v else o):=by
 rw [qFT n (λe=>if c e=true then some v else none) o hn (λi h=>by rw [hf i h];cases c i<;>simp) he,vK];split<;>rfl
theorem rX {β:Type} {f:Int×β→Option ((Int×β) ⊕ ρ)} (n:Nat) (B:Nat→β) {o:ρ} {b:β} (hb:b=B 0) (hn:n≤9223372036854775807) (hf:∀ i,i < n→f ((i:Int),B i)=some (.inl ((i:Int)+1,B (i+1)))) (he:f ((n:Int),B n)=some (.inr o)):aT f (0,b)=some o:=
 qG (λi=>((i:Int),B i)) n (by rw [hb];rfl) hn (λi hi=>by rw [hf i hi];rfl) he
theorem qKW {β:Type} {f:Int×β→Option ((Int×β) ⊕ ρ)} (n:Nat) (B:Nat→β) (c:Nat→Bool) (v o:ρ) {b:β} (hb:b=B 0) (hn:n≤9223372036854775807) (hf:∀ i,i < n→(∀ j,j < i→c j=false)→f ((i:Int),B i)=if c i=true then some (.inr v) else some (.inl ((i:Int)+1,B (i+1)))) (he:(∀ j,j < n→c j=false)→f ((n:Int),B n)=some (.inr o)):aT f (0,b)=some (if (List.range n).any c=true then v else o):=by
 cases h:(List.range n).findIdx? c with
 | none=>
  rw [List.findIdx?_eq_none_iff] at h;have hall:∀ j,j < n→c j=false:=λj hj=>by simpa using h j (List.mem_range.2 hj)
  have hno:¬ (List.range n).any c=true:=by
   rw [zQU];rintro⟨j,hj,hc⟩;rw [hall j (List.mem_range.1 hj)] at hc;cases hc
  rw [if_neg hno];exact rX n B hb hn (λi hi=>by rw [hf i hi (λj hj=>hall j (by omega)),hall i hi];rfl) (he hall)
 | some k=>
  rw [List.findIdx?_eq_some_iff_getElem] at h;obtain⟨hk,h1,h2⟩:=h;simp only [List.length_range] at hk;simp only [List.getElem_range] at h1;have hb':∀ j,j < k→c j=false:=λj hj=>by have:=h2 j hj;simpa using this
  have hyes:(List.range n).any c=true:=zQU.2 ⟨k,List.mem_range.2 hk,h1⟩;rw [if_pos hyes];exact rX k B hb (by omega) (λi hi=>by rw [hf i (by omega) (λj hj=>hb' j (by omega)),hb' i hi];rfl) (by rw [hf k hk hb',h1];rfl)
theorem oE {i n:Nat} (h:i < n) (hn:n≤9223372036854775807):I64 ((i:Int)+1):=by unfold I64;omega
def sgn (x y:Int):Int:=if x < y then -1 else if y < x then 1 else 0
theorem qHY (x y:Int):gA x y=some (sgn x y):=by
 simp only [gA,jO,decide_true,Bool.not_true,aG,Bool.false_eq_true,if_false,sgn];split
 ·rfl
 split<;>rfl
theorem or_eq (x y:Int):nN [x,y]=some (if x=0 then y else x):=by
 unfold nN;by_cases hx:x=0
 ·by_cases hy:y=0
  ·rw [rY (n := 3) (r := (.inl () : Unit ⊕ Int)) (by simp [kW, aU, aB, I64, hx, hy, aI]) (by decide)];simp [cU,hx,hy]
  rw [rY (n := 3) (r := (.inr y : Unit ⊕ Int)) (by simp [kW, aU, aB, I64, hx, hy, aI]) (by decide)];simp [cU,hx]
 rw [rY (n := 3) (r := (.inr x : Unit ⊕ Int)) (by simp [kW, aU, aB, I64, hx, aI]) (by decide)];simp [cU,hx]
theorem rB (x y:Setting):cZ x y=some (if sgn x.el y.el=0 then sgn x.pos y.pos else sgn x.el y.el):=by
 simp only [cZ,qHY,aG,or_eq]
theorem pP:SortOk cZ:=by
 have hl:∀ x y,ltM cZ x y=decide (x.el < y.el∨x.el=y.el∧x.pos < y.pos):=by
  intro x y;simp only [ltM,rB,Option.getD_some,sgn];rw [decide_eq_decide];split<;>split<;>(try split)<;>(try split)<;>omega
 refine⟨λx y=>⟨_,rB x y⟩,λx=>?_,λx y z h1 h2=>?_,λx y z h1 h2=>?_,λx y h1 h2=>?_⟩
 ·rw [hl];simp
 ·rw [hl,decide_eq_true_eq] at *; omega
 ·rw [hl,decide_eq_false_iff_not] at *; omega
 rw [hl,decide_eq_false_iff_not] at *;obtain⟨a,b⟩:=x;obtain⟨c,d⟩:=y;simp only at h1 h2;have h3:a=c:=by omega
 have h4:b=d:=by omega
 rw [h3,h4]
end Go.Proofs.YtldaknhjmhlefaaGreatDoor
