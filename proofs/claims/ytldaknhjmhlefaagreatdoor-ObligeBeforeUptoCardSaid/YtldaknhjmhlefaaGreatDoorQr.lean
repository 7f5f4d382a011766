/- Texts of this proof, joined, without what it does not use. No condition. -/
import Derived.Lib.ItoaNum
import Derived.Test.YtldaknhjmhlefaaGreatDoorQq

set_option maxHeartbeats 8000000
set_option linter.unusedSimpArgs false
set_option linter.unusedVariables false
set_option maxRecDepth 20000
namespace Go.Proofs.YtldaknhjmhlefaaGreatDoor
open Go Go.TL
def uD:Option Layout:=
 aA (
 aT (λ(x6,b7)=>
 if x6 < (([(⟨#[97]⟩:ByteArray),(⟨#[98]⟩:ByteArray),(⟨#[99]⟩:ByteArray)]:List ByteArray).length:Int) then
 aU ([(⟨#[97]⟩:ByteArray),(⟨#[98]⟩:ByteArray),(⟨#[99]⟩:ByteArray)]:List ByteArray) x6 λe10=>
 aB ((b7++([(⟨e10,(1:Int),(20000:Int),(0:Int),(3000:Int),(0:Int),x6⟩:Element)]:List Element)).length≤1000000000) <|
 aB (I64 (x6+(1:Int))) <|
 some (.inl ((x6+(1:Int)),(b7++([(⟨e10,(1:Int),(20000:Int),(0:Int),(3000:Int),(0:Int),x6⟩:Element)]:List Element))))
 else
 aJ (
 some b7)) ((0:Int),([]:List Element))) λb1=>
 some (⟨(⟨#[108,105,110,101]⟩:ByteArray),([(⟨#[120]⟩:ByteArray),(⟨#[121]⟩:ByteArray),(⟨#[122]⟩:ByteArray)]:List ByteArray),b1,([(⟨(⟨(0:Int),(1:Int)⟩:End),(⟨(1:Int),(0:Int)⟩:End)⟩:Joint),(⟨(⟨(1:Int),(1:Int)⟩:End),(⟨(2:Int),(0:Int)⟩:End)⟩:Joint)]:List Joint),([(⟨(⟨#[115,49]⟩:ByteArray),(⟨(0:Int),(1:Int)⟩:End),(0:Int)⟩:Signal),(⟨(⟨#[115,50]⟩:ByteArray),(⟨(1:Int),(1:Int)⟩:End),(0:Int)⟩:Signal)]:List Signal),([]:List Balise)⟩:Layout)
def rH (p0:Layout):Option A3_string:=
 aB ((([]:List ByteArray)++p0.sections).length≤1000000000) <|
 aA (
 aT (λ(x7,b8)=>
 if x7 < (p0.elements.length:Int) then
 aU p0.elements x7 λe11=>
 aB ((b8++([e11.name]:List ByteArray)).length≤1000000000) <|
 aB (I64 (x7+(1:Int))) <|
 some (.inl ((x7+(1:Int)),(b8++([e11.name]:List ByteArray))))
 else
 aJ (
 some b8)) ((0:Int),([]:List ByteArray))) λb2=>
 aA (
 aT (λ(x20,b21)=>
 if x20 < (p0.signals.length:Int) then
 aU p0.signals x20 λe24=>
 aB ((b21++([e24.name]:List ByteArray)).length≤1000000000) <|
 aB (I64 (x20+(1:Int))) <|
 some (.inl ((x20+(1:Int)),(b21++([e24.name]:List ByteArray))))
 else
 aJ (
 some b21)) ((0:Int),([]:List ByteArray))) λb15=>
 some (⟨(([]:List ByteArray)++p0.sections),b2,b15⟩:A3_string)
def tX (p0:ByteArray):Option Bool:=
 cU (
 aT (λi3=>
 if i3 < (p0.size:Int) then
 aA (
 aU p0.data.toList i3 λe8=>
 if (97:Int)≤(e8.toNat:Int) then
 aU p0.data.toList i3 λe10=>
 some (decide ((e10.toNat:Int)≤(122:Int)))
 else
 some false) λletter6=>
 aA (
 aU p0.data.toList i3 λe13=>
 if (48:Int)≤(e13.toNat:Int) then
 aU p0.data.toList i3 λe16=>
 if (e16.toNat:Int)≤(57:Int) then
 some true
 else
 aU p0.data.toList i3 λe18=>
 some (decide ((e18.toNat:Int)=(95:Int)))
 else
 aU p0.data.toList i3 λe15=>
 some (decide ((e15.toNat:Int)=(95:Int)))) λdigit11=>
 if ((!(letter6))&&((!(digit11))||(decide (i3=(0:Int)))))=true then
 aJ (
 aJ (
 some false))
 else
 aB (I64 (i3+(1:Int))) <|
 some (.inl (i3+(1:Int)))
 else
 aJ (
 some (.inl ()))) (0:Int)) λ_=>
 some ((decide ((1:Int)≤(p0.size:Int)))&&(decide ((p0.size:Int)≤(12:Int))))
def lM (p0:(List ByteArray)):Option Bool:=
 cU (
 aT (λx3=>
 if x3 < (p0.length:Int) then
 cU (
 aT (λx8=>
 if x8 < x3 then
 aU p0 x3 λe11=>
 aU p0 x8 λe12=>
 if e11=e12 then
 aJ (
 aJ (
 aJ (
 aJ (
 some true))))
 else
 aB (I64 (x8+(1:Int))) <|
 some (.inl (x8+(1:Int)))
 else
 aJ (
 some (.inl ()))) (0:Int)) λ_=>
 aB (I64 (x3+(1:Int))) <|
 some (.inl (x3+(1:Int)))
 else
 aJ (
 some (.inl ()))) (0:Int)) λ_=>
 some false
def rI (p0:Layout):Option Int:=
 if ((decide ((p0.elements.length:Int) < (1:Int)))||((decide ((32:Int) < (p0.elements.length:Int)))||((decide ((p0.sections.length:Int) < (1:Int)))||((decide ((24:Int) < (p0.sections.length:Int)))||((decide ((20:Int) < (p0.signals.length:Int)))||(decide ((24:Int) < (p0.balises.length:Int))))))))=true then
 some (2:Int)
 else
 aA (rH p0) λr7=>
 cU (
 aB ((([p0.name]:List ByteArray)++r7.a0).length≤1000000000) <|
 aB (((([p0.name]:List ByteArray)++r7.a0)++r7.a1).length≤1000000000) <|
 aB ((((([p0.name]:List ByteArray)++r7.a0)++r7.a1)++r7.a2).length≤1000000000) <|
 aT (λx13=>
 if x13 < ((((([p0.name]:List ByteArray)++r7.a0)++r7.a1)++r7.a2).length:Int) then
 aU (((([p0.name]:List ByteArray)++r7.a0)++r7.a1)++r7.a2) x13 λe16=>
 aA (tX e16) λr17=>
 if (!(r17))=true then
 aJ (
 aJ (
 some (3:Int)))
 else
 aB (I64 (x13+(1:Int))) <|
 some (.inl (x13+(1:Int)))
 else
 aJ (
 some (.inl ()))) (0:Int)) λ_=>
 aA (
 aA (lM r7.a0) λr25=>
 if r25=true then
 some true
 else
 aA (lM r7.a1) λr27=>
 if r27=true then
 some true
 else
 aA (lM r7.a2) λr29=>
 some r29) λx23=>
 if x23=true then
 some (8:Int)
 else
 some (0:Int)
def rG (p0:Layout) (p1:Element):Option Bool:=
 if ((decide (p1.kind < (1:Int)))||((decide ((3:Int) < p1.kind))||((decide (p1.length < (500:Int)))||((decide ((1000000:Int) < p1.length))||((decide (p1.grade < (-50:Int)))||((decide ((50:Int) < p1.grade))||((decide (p1.speed < (100:Int)))||((decide ((10000:Int) < p1.speed))||((decide (p1.sectionV < (0:Int)))||(decide ((p0.sections.length:Int)≤p1.sectionV)))))))))))=true then
 some false
 else
 if p1.kind=(2:Int) then
 some ((decide ((100:Int)≤p1.slow))&&(decide (p1.slow≤p1.speed)))
 else
 some (decide (p1.slow=(0:Int)))
def oO (p0:Layout) (p1:Int):Option ((List Int)):=
 aA (
 aT (λ(x6,b7)=>
 if x6 < (p0.elements.length:Int) then
 aU p0.elements x6 λe10=>
 if ((decide (e10.sectionV=p1))&&((decide ((0:Int)≤p1))&&(decide (p1 < (p0.sections.length:Int)))))=true then
 aB ((b7++([x6]:List Int)).length≤1000000000) <|
 aB (I64 (x6+(1:Int))) <|
 some (.inl ((x6+(1:Int)),(b7++([x6]:List Int))))
 else
 aB (I64 (x6+(1:Int))) <|
 some (.inl ((x6+(1:Int)),b7))
 else
 aJ (
 some b7)) ((0:Int),([]:List Int))) λb1=>
 some b1
def nZ (p0:Int):Option Int:=
 if p0=(1:Int) then
 some (2:Int)
 else
 if p0=(2:Int) then
 some (3:Int)
 else
 if p0=(3:Int) then
 some (4:Int)
 else
 some (0:Int)
def kN (p0:Layout) (p1:End):Option Bool:=
 aA (
 if (0:Int)≤p1.el then
 if p1.el < (p0.elements.length:Int) then
 if (0:Int)≤p1.side then
 aU p0.elements p1.el λe6=>
 aA (nZ e6.kind) λr7=>
 some (decide (p1.side < r7))
 else
 some false
 else
 some false
 else
 some false) λx1=>
 some x1
def pW (p0:(List End)):Option Bool:=
 cU (
 aT (λx3=>
 if x3 < (p0.length:Int) then
 cU (
 aT (λx8=>
 if x8 < x3 then
 aU p0 x3 λe11=>
 aU p0 x8 λe12=>
 aB (End.ok e11∧End.ok e12) <|
 if e11=e12 then
 aJ (
 aJ (
 aJ (
 aJ (
 some true))))
 else
 aB (I64 (x8+(1:Int))) <|
 some (.inl (x8+(1:Int)))
 else
 aJ (
 some (.inl ()))) (0:Int)) λ_=>
 aB (I64 (x3+(1:Int))) <|
 some (.inl (x3+(1:Int)))
 else
 aJ (
 some (.inl ()))) (0:Int)) λ_=>
 some false
def nF (p0:Layout):Option Int:=
 cU (
 aT (λx3=>
 if x3 < (p0.elements.length:Int) then
 aU p0.elements x3 λe6=>
 aA (rG p0 e6) λr7=>
 if (!(r7))=true then
 aJ (
 aJ (
 some (1:Int)))
 else
 aB (I64 (x3+(1:Int))) <|
 some (.inl (x3+(1:Int)))
 else
 aJ (
 some (.inl ()))) (0:Int)) λ_=>
 cU (
 aT (λx15=>
 if x15 < (p0.sections.length:Int) then
 aA (oO p0 x15) λr18=>
 if (r18.length:Int)=(0:Int) then
 aJ (
 aJ (
 some (1:Int)))
 else
 aB (I64 (x15+(1:Int))) <|
 some (.inl (x15+(1:Int)))
 else
 aJ (
 some (.inl ()))) (0:Int)) λ_=>
 cU (
 aT (λ(x29,b30)=>
 if x29 < (p0.joints.length:Int) then
 aU p0.joints x29 λe33=>
 aA (
 aA (kN p0 e33.a) λr36=>
 if (!(r36))=true then
 some true
 else
 aA (kN p0 e33.b) λr38=>
 if (!(r38))=true then
 some true
 else
 aB (End.ok e33.a∧End.ok e33.b) <|
 some (decide (e33.a=e33.b))) λx34=>
 if x34=true then
 aJ (
 aJ (
 some (1:Int)))
 else
 aB ((b30++([e33.a,e33.b]:List End)).length≤1000000000) <|
 aB (I64 (x29+(1:Int))) <|
 some (.inl ((x29+(1:Int)),(b30++([e33.a,e33.b]:List End))))
 else
 aJ (
 some (.inl b30))) ((0:Int),([]:List End))) λb24=>
 aA (pW b24) λr48=>
 if r48=true then
 some (8:Int)
 else
 some (0:Int)
def gF (p0:Layout) (p1:End):Option (End×Bool):=
 cU (
 aT (λx3=>
 if x3 < (p0.joints.length:Int) then
 aU p0.joints x3 λe6=>
 aB (End.ok e6.a∧End.ok p1) <|
 if e6.a=p1 then
 aJ (
 aJ (
 some (e6.b,true)))
 else
 aB (End.ok e6.b∧End.ok p1) <|
 if e6.b=p1 then
 aJ (
 aJ (
 some (e6.a,true)))
 else
 aB (I64 (x3+(1:Int))) <|
 some (.inl (x3+(1:Int)))
 else
 aJ (
 some (.inl ()))) (0:Int)) λ_=>
 some ((⟨(0:Int),(0:Int)⟩:End),false)
def oL (p0:Layout):Option Int:=
 cU (
 aT (λ(x6,b7)=>
 if x6 < (p0.signals.length:Int) then
 aU p0.signals x6 λe10=>
 aA (
 aA (kN p0 e10.atV) λr13=>
 if (!(r13))=true then
 some true
 else
 if e10.overlap < (0:Int) then
 some true
 else
 some (decide ((1000000:Int) < e10.overlap))) λx11=>
 if x11=true then
 aJ (
 aJ (
 some (1:Int)))
 else
 aB ((b7++([e10.atV]:List End)).length≤1000000000) <|
 aB (I64 (x6+(1:Int))) <|
 some (.inl ((x6+(1:Int)),(b7++([e10.atV]:List End))))
 else
 aJ (
 some (.inl b7))) ((0:Int),([]:List End))) λb1=>
 aA (pW b1) λr22=>
 if r22=true then
 some (8:Int)
 else
 cU (
 aT (λx26=>
 if x26 < (b1.length:Int) then
 aU b1 x26 λe29=>
 aA (gF p0 e29) λ(r31,r32)=>
 aA (
 if (!(r32))=true then
 some true
 else
 aU p0.elements r31.el λe36=>
 aU p0.elements e29.el λe37=>
 some (decide (e36.sectionV=e37.sectionV))) λx33=>
 if x33=true then
 aJ (
 aJ (
 some (14:Int)))
 else
 aB (I64 (x26+(1:Int))) <|
 some (.inl (x26+(1:Int)))
 else
 aJ (
 some (.inl ()))) (0:Int)) λ_=>
 some (0:Int)
def oM (p0:(List Int)):Option Bool:=
 cU (
 aT (λx3=>
 if x3 < (p0.length:Int) then
 cU (
 aT (λx8=>
 if x8 < x3 then
 aU p0 x3 λe11=>
 aU p0 x8 λe12=>
 if e11=e12 then
 aJ (
 aJ (
 aJ (
 aJ (
 some true))))
 else
 aB (I64 (x8+(1:Int))) <|
 some (.inl (x8+(1:Int)))
 else
 aJ (
 some (.inl ()))) (0:Int)) λ_=>
 aB (I64 (x3+(1:Int))) <|
 some (.inl (x3+(1:Int)))
 else
 aJ (
 some (.inl ()))) (0:Int)) λ_=>
 some false
def oN (p0:Layout):Option Int:=
 cU (
 aT (λ(x6,b7)=>
 if x6 < (p0.balises.length:Int) then
 aU p0.balises x6 λe10=>
 aA (
 if e10.id < (1:Int) then
 some true
 else
 if (1073741824:Int) < e10.id then
 some true
 else
 if e10.el < (0:Int) then
 some true
 else
 if (p0.elements.length:Int)≤e10.el then
 some true
 else
 if e10.offset < (0:Int) then
 some true
 else
 aU p0.elements e10.el λe18=>
 some (decide (e18.length < e10.offset))) λx11=>
 if x11=true then
 aJ (
 aJ (
 some (1:Int)))
 else
 aB ((b7++([e10.id]:List Int)).length≤1000000000) <|
 aB (I64 (x6+(1:Int))) <|
 some (.inl ((x6+(1:Int)),(b7++([e10.id]:List Int))))
 else
 aJ (
 some (.inl b7))) ((0:Int),([]:List Int))) λb1=>
 aA (oM b1) λr25=>
 if r25=true then
 some (8:Int)
 else
 some (0:Int)
def rK (p0:Layout):Option Int:=
 aA (rI p0) λr1=>
 if r1=(0:Int) then
 aA (nF p0) λr3=>
 if r3=(0:Int) then
 aA (oL p0) λr5=>
 if r5=(0:Int) then
 aA (oN p0) λr7=>
 some r7
 else
 some r5
 else
 some r3
 else
 some r1
def jB (p0:Layout) (p1:Int):Option Bool:=
 some ((decide ((0:Int)≤p1))&&(decide (p1 < (p0.elements.length:Int))))
def jX (p0:Int) (p1:Int) (p2:Int):Option (Int×Bool):=
 if ((decide (p0=(1:Int)))||(decide (p0=(3:Int))))=true then
 some ((0:Int),(bif decide ((min p1 p2)=(0:Int)) then ((decide ((max p1 p2)=(1:Int)))||((decide (p0=(3:Int)))&&((decide ((min p1 p2)=(2:Int)))&&(decide ((max p1 p2)=(3:Int)))))) else ((decide (p0=(3:Int)))&&((decide ((min p1 p2)=(2:Int)))&&(decide ((max p1 p2)=(3:Int)))))))
 else
 if ((decide (p0=(2:Int)))&&((decide ((min p1 p2)=(0:Int)))&&(decide ((max p1 p2)=(1:Int)))))=true then
 some ((1:Int),true)
 else
 if ((decide (p0=(2:Int)))&&((decide ((min p1 p2)=(0:Int)))&&(decide ((max p1 p2)=(2:Int)))))=true then
 some ((2:Int),true)
 else
 some ((0:Int),false)
def tW (p0:Int) (p1:Int):Option ((List Int)):=
 aA (
 aT (λ(side6,b7)=>
 if side6 < (4:Int) then
 aA (jX p0 p1 side6) λ(r11,r12)=>
 if r12=true then
 aB ((b7++([side6]:List Int)).length≤1000000000) <|
 aB (I64 (side6+(1:Int))) <|
 some (.inl ((side6+(1:Int)),(b7++([side6]:List Int))))
 else
 aB (I64 (side6+(1:Int))) <|
 some (.inl ((side6+(1:Int)),b7))
 else
 aJ (
 some b7)) ((0:Int),([]:List Int))) λb1=>
 some b1
def kM (p0:Layout) (p1:End):Option ((List Step)):=
 aA (jB p0 p1.el) λr1=>
 if (!(r1))=true then
 some ([]:List Step)
 else
 aU p0.elements p1.el λe3=>
 aA (tW e3.kind p1.side) λr4=>
 aA (
 aT (λ(i10,b11)=>
 if i10 < (r4.length:Int) then
 aU r4 i10 λe14=>
 aB ((b11++([(⟨p1.el,p1.side,e14⟩:Step)]:List Step)).length≤1000000000) <|
 aB (I64 (i10+(1:Int))) <|
 some (.inl ((i10+(1:Int)),(b11++([(⟨p1.el,p1.side,e14⟩:Step)]:List Step))))
 else
 aJ (
 some b11)) ((0:Int),([]:List Step))) λb5=>
 some b5
def nD (p0:Layout) (p1:Step):Option (Int×Bool):=
 aA (jB p0 p1.el) λr1=>
 if (!(r1))=true then
 some ((0:Int),false)
 else
 aU p0.elements p1.el λe3=>
 aA (jX e3.kind p1.inV p1.out) λ(r5,r6)=>
 some (r5,r6)
def jW (p0:Layout) (p1:Step):Option (End×Bool):=
 aA (gF p0 (⟨p1.el,p1.out⟩:End)) λ(r2,r3)=>
 some (r2,r3)
def rE (p0:Layout) (p1:(List Step)):Option Bool:=
 if ((decide ((p1.length:Int)=(0:Int)))||(decide ((64:Int) < (p1.length:Int))))=true then
 some false
 else
 cU (
 aT (λi5=>
 if i5 < (p1.length:Int) then
 cU (
 aU p1 i5 λe9=>
 aA (nD p0 e9) λ(r11,r12)=>
 if (!(r12))=true then
 aJ (
 aJ (
 aJ (
 some false)))
 else
 cU (
 if (0:Int) < i5 then
 aB (I64 (i5 - (1:Int))) <|
 aU p1 (i5 - (1:Int)) λe20=>
 aA (jW p0 e20) λ(r22,r23)=>
 aA (
 if (!(r23))=true then
 some true
 else
 aU p1 i5 λe27=>
 if r22.el=e27.el then
 aU p1 i5 λe29=>
 some (!(decide (r22.side=e29.inV)))
 else
 some true) λx24=>
 if x24=true then
 aJ (
 aJ (
 aJ (
 aJ (
 some false))))
 else
 some (.inl ())
 else
 some (.inl ())) λ_=>
 aT (λk36=>
 if k36 < i5 then
 aU p1 k36 λe39=>
 aU p1 i5 λe40=>
 if e39.el=e40.el then
 aJ (
 aJ (
 aJ (
 aJ (
 some false))))
 else
 aB (I64 (k36+(1:Int))) <|
 some (.inl (k36+(1:Int)))
 else
 aJ (
 some (.inl ()))) (0:Int)) λ_=>
 aB (I64 (i5+(1:Int))) <|
 some (.inl (i5+(1:Int)))
 else
 aJ (
 some (.inl ()))) (0:Int)) λ_=>
 some true
def gK (p0:Layout) (p1:Int):Option Int:=
 if ((decide (p1 < (0:Int)))||(decide ((p0.elements.length:Int)≤p1)))=true then
 some (-1:Int)
 else
 aU p0.elements p1 λe3=>
 some e3.sectionV
def vT (p0:(List Int)) (p1:Int):Option Bool:=
 cU (
 aT (λi3=>
 if i3 < (p0.length:Int) then
 aU p0 i3 λe6=>
 if e6=p1 then
 aJ (
 aJ (
 some true))
 else
 aB (I64 (i3+(1:Int))) <|
 some (.inl (i3+(1:Int)))
 else
 aJ (
 some (.inl ()))) (0:Int)) λ_=>
 some false
def iU (p0:Layout) (p1:(List Step)):Option ((List Int)):=
 aA (
 aT (λ(i6,b7)=>
 if i6 < (p1.length:Int) then
 aA (
 aU p1 i6 λe12=>
 aA (jB p0 e12.el) λr13=>
 if r13=true then
 aU p1 i6 λe15=>
 aU p0.elements e15.el λe16=>
 aA (vT b7 e16.sectionV) λr17=>
 some (!(r17))
 else
 some false) λx10=>
 if x10=true then
 aU p1 i6 λe19=>
 aU p0.elements e19.el λe20=>
 aB ((b7++([e20.sectionV]:List Int)).length≤1000000000) <|
 aB (I64 (i6+(1:Int))) <|
 some (.inl ((i6+(1:Int)),(b7++([e20.sectionV]:List Int))))
 else
 aB (I64 (i6+(1:Int))) <|
 some (.inl ((i6+(1:Int)),b7))
 else
 aJ (
 some b7)) ((0:Int),([]:List Int))) λb1=>
 some b1
def tV (p0:Layout) (p1:End) (p2:(List Step)):Option Bool:=
 aA (
 if (p2.length:Int)=(0:Int) then
 some true
 else
 if (12:Int) < (p2.length:Int) then
 some true
 else
 aU p2 (0:Int) λe5=>
 if e5.el=p1.el then
 aU p2 (0:Int) λe7=>
 if e7.inV=p1.side then
 aA (rE p0 p2) λr9=>
 some (!(r9))
 else
 some true
 else
 some true) λx1=>
 if x1=true then
 some false
 else
 aA (
 aT (λ(changes15,i16)=>
 if i16 < (p2.length:Int) then
 aU p2 i16 λe19=>
 aA (gK p0 e19.el) λr20=>
 aB (I64 (i16 - (1:Int))) <|
 aU p2 (i16 - (1:Int)) λe22=>
 aA (gK p0 e22.el) λr23=>
 if r20=r23 then
 aB (I64 (i16+(1:Int))) <|
 some (.inl (changes15,(i16+(1:Int))))
 else
 aB (I64 (changes15+(1:Int))) <|
 aB (I64 (i16+(1:Int))) <|
 some (.inl ((changes15+(1:Int)),(i16+(1:Int))))
 else
 aJ (
 some changes15)) ((1:Int),(1:Int))) λchanges11=>
 aA (iU p0 p2) λr29=>
 some (decide (changes11=(r29.length:Int)))
def mC (p0:Layout) (p1:End):Option Int:=
 cU (
 aT (λx3=>
 if x3 < (p0.signals.length:Int) then
 aU p0.signals x3 λe6=>
 aB (End.ok e6.atV∧End.ok p1) <|
 if e6.atV=p1 then
 aJ (
 aJ (
 some x3))
 else
 aB (I64 (x3+(1:Int))) <|
 some (.inl (x3+(1:Int)))
 else
 aJ (
 some (.inl ()))) (0:Int)) λ_=>
 some (-1:Int)
def kX (p0:Layout) (p1:Step):Option (Int×Bool):=
 aA (mC p0 (⟨p1.el,p1.out⟩:End)) λr1=>
 aA (jW p0 p1) λ(r3,r4)=>
 some (r1,((decide ((0:Int)≤r1))||(!(r4))))
def nB (p0:Layout) (p1:Int) (p2:Int):Option ByteArray:=
 if p2 < (0:Int) then
 aU p0.signals p1 λe2=>
 aB (e2.name.size+(⟨#[45,101,110,100]⟩:ByteArray).size≤9223372036854775807) <|
 some (e2.name++(⟨#[45,101,110,100]⟩:ByteArray))
 else
 aU p0.signals p1 λe4=>
 aB (e4.name.size+(⟨#[45]⟩:ByteArray).size≤9223372036854775807) <|
 aU p0.signals p2 λe6=>
 aB ((e4.name++(⟨#[45]⟩:ByteArray)).size+e6.name.size≤9223372036854775807) <|
 some ((e4.name++(⟨#[45]⟩:ByteArray))++e6.name)
def pV (p0:(List Setting)) (p1:Setting):Option ((List Setting)):=
 aA (
 aT (λ(i7,b8)=>
 aA (
 if i7 < (p0.length:Int) then
 aU p0 i7 λe13=>
 if e13.el < p1.el then
 some true
 else
 aU p0 i7 λe15=>
 if e15.el=p1.el then
 aU p0 i7 λe17=>
 some (decide (e17.pos < p1.pos))
 else
 some false
 else
 some false) λx10=>
 if x10=true then
 aU p0 i7 λe19=>
 aB ((b8++([e19]:List Setting)).length≤1000000000) <|
 aB (I64 (i7+(1:Int))) <|
 some (.inl ((i7+(1:Int)),(b8++([e19]:List Setting))))
 else
 aJ (
 some (i7,b8))) ((0:Int),([]:List Setting))) λ(i1,b2)=>
 aA (
 aA (
 if i1=(p0.length:Int) then
 some true
 else
 aU p0 i1 λe28=>
 aB (Setting.ok e28∧Setting.ok p1) <|
 some (!(decide (e28=p1)))) λx25=>
 if x25=true then
 aB ((b2++([p1]:List Setting)).length≤1000000000) <|
 some (b2++([p1]:List Setting))
 else
 some b2) λb23=>
 aB (0≤i1∧i1≤(p0.length:Int)∧(p0.length:Int)≤(p0.length:Int)) <|
 aB ((b23++(sub p0 i1 (p0.length:Int))).length≤1000000000) <|
 some (b23++(sub p0 i1 (p0.length:Int)))
def kL (p0:Layout) (p1:(List Step)):Option ((List Setting)):=
 aA (
 aT (λ(out5,i6)=>
 if i6 < (p1.length:Int) then
 aU p1 i6 λe9=>
 aA (nD p0 e9) λ(r11,r12)=>
 if (r12&&(!(decide (r11=(0:Int)))))=true then
 aU p1 i6 λe15=>
 aA (pV out5 (⟨e15.el,r11⟩:Setting)) λr16=>
 aB (I64 (i6+(1:Int))) <|
 some (.inl (r16,(i6+(1:Int))))
 else
 aB (I64 (i6+(1:Int))) <|
 some (.inl (out5,(i6+(1:Int))))
 else
 aJ (
 some out5)) (([]:List Setting),(0:Int))) λout1=>
 some out1
def mB (p0:Layout) (p1:(List Step)):Option Int:=
 aA (
 aT (λ(sum5,i6)=>
 if i6 < (p1.length:Int) then
 aU p1 i6 λe9=>
 aA (jB p0 e9.el) λr10=>
 if r10=true then
 aU p1 i6 λe12=>
 aU p0.elements e12.el λe13=>
 aB (I64 (sum5+e13.length)) <|
 aB (I64 (i6+(1:Int))) <|
 some (.inl ((sum5+e13.length),(i6+(1:Int))))
 else
 aB (I64 (i6+(1:Int))) <|
 some (.inl (sum5,(i6+(1:Int))))
 else
 aJ (
 some sum5)) ((0:Int),(0:Int))) λsum1=>
 some sum1
def oJ (p0:Int):Option ByteArray:=
 aA (
 aT (λ(n5,s6)=>
 if (0:Int) < n5 then
 aB (¬ (10:Int)=0) <|
 aB (I64 ((48:Int)+(n5.tmod (10:Int)))) <|
 aB ((strOfNums ([(IntKind.u8.wrap ((48:Int)+(n5.tmod (10:Int))))]:List Int)).size+s6.size≤9223372036854775807) <|
 aB (¬ (10:Int)=0) <|
 some (.inl ((IntKind.i64.wrap (n5.tdiv (10:Int))),((strOfNums ([(IntKind.u8.wrap ((48:Int)+(n5.tmod (10:Int))))]:List Int))++s6)))
 else
 aJ (
 some s6)) (p0,(⟨#[]⟩:ByteArray))) λs1=>
 some s1
def eW:Nat→Paths→Layout→End→End→(List Step)→Option Paths
 | 0,_,_,_,_,_=>none
 | fu+1,p0,p1,p2,p3,p4=>
 aA (kM p1 p3) λr1=>
 aT (λ(i5,b6)=>
 if i5 < (r1.length:Int) then
 aB ((([]:List Step)++p4).length≤1000000000) <|
 aU r1 i5 λe10=>
 aB (((([]:List Step)++p4)++([e10]:List Step)).length≤1000000000) <|
 aA (tV p1 p2 ((([]:List Step)++p4)++([e10]:List Step))) λr12=>
 if (!(r12))=true then
 aB (I64 (i5+(1:Int))) <|
 some (.inl ((i5+(1:Int)),b6))
 else
 aU r1 i5 λe15=>
 aA (kX p1 e15) λ(r17,r18)=>
 if r18=true then
 aB ((b6++([((([]:List Step)++p4)++([e10]:List Step))]:List (List Step))).length≤1000000000) <|
 aB (I64 (i5+(1:Int))) <|
 some (.inl ((i5+(1:Int)),(b6++([((([]:List Step)++p4)++([e10]:List Step))]:List (List Step)))))
 else
 aU r1 i5 λe22=>
 aA (jW p1 e22) λ(r24,r25)=>
 aA ((eW fu) (⟨b6⟩:Paths) p1 p2 r24 ((([]:List Step)++p4)++([e10]:List Step))) λr26=>
 aB (I64 (i5+(1:Int))) <|
 some (.inl ((i5+(1:Int)),r26.l))
 else
 aJ (
 some (⟨b6⟩:Paths))) ((0:Int),p0.l)
def nC (p0:Paths) (p1:Layout) (p2:End) (p3:End) (p4:(List Step)):Option Paths:=eW bJ p0 p1 p2 p3 p4
def tU (p0:Layout) (p1:Int):Option ((List Route)):=
 if ((decide (p1 < (0:Int)))||(decide ((p0.signals.length:Int)≤p1)))=true then
 some ([]:List Route)
 else
 aU p0.signals p1 λe3=>
 aA (gF p0 e3.atV) λ(r5,r6)=>
 if (!(r6))=true then
 some ([]:List Route)
 else
 aA (nC (⟨([]:List (List Step))⟩:Paths) p0 r5 r5 []) λr8=>
 aA (
 aT (λ(i14,b15)=>
 if i14 < (r8.l.length:Int) then
 aA (
 aU r8.l i14 λe20=>
 aB (I64 ((e20.length:Int) - (1:Int))) <|
 aU e20 ((e20.length:Int) - (1:Int)) λe22=>
 aA (kX p0 e22) λ(r24,r25)=>
 aA (nB p0 p1 r24) λr26=>
 aA (kL p0 e20) λr27=>
 aA (iU p0 e20) λr28=>
 aA (mB p0 e20) λr29=>
 aU p0.signals p1 λe30=>
 aA (gK p0 e30.atV.el) λr31=>
 aA (
 aT (λ(before36,k37)=>
 if k37 < i14 then
 aU r8.l k37 λe40=>
 aU r8.l k37 λe41=>
 aB (I64 ((e41.length:Int) - (1:Int))) <|
 aU e40 ((e41.length:Int) - (1:Int)) λe43=>
 aA (kX p0 e43) λ(r45,r46)=>
 aA (nB p0 p1 r45) λr47=>
 aA (nB p0 p1 r24) λr48=>
 if r47=r48 then
 aB (I64 (before36+(1:Int))) <|
 aB (I64 (k37+(1:Int))) <|
 some (.inl ((before36+(1:Int)),(k37+(1:Int))))
 else
 aB (I64 (k37+(1:Int))) <|
 some (.inl (before36,(k37+(1:Int))))
 else
 aJ (
 some before36)) ((1:Int),(0:Int))) λbefore32=>
 aA (
 if (1:Int) < before32 then
 aB (r26.size+(⟨#[46]⟩:ByteArray).size≤9223372036854775807) <|
 aA (oJ before32) λr58=>
 aB ((r26++(⟨#[46]⟩:ByteArray)).size+r58.size≤9223372036854775807) <|
 some ((r26++(⟨#[46]⟩:ByteArray))++r58)
 else
 some r26) λc54=>
 aB ((b15++([(⟨c54,p1,r24,e20,r27,r28,r31,r29,([]:List Step),([]:List Setting),([]:List Int),([]:List Setting),([]:List Int),([]:List End)⟩:Route)]:List Route)).length≤1000000000) <|
 some (b15++([(⟨c54,p1,r24,e20,r27,r28,r31,r29,([]:List Step),([]:List Setting),([]:List Int),([]:List Setting),([]:List Int),([]:List End)⟩:Route)]:List Route))) λb18=>
 aB (I64 (i14+(1:Int))) <|
 some (.inl ((i14+(1:Int)),b18))
 else
 aJ (
 some b15)) ((0:Int),([]:List Route))) λb9=>
 some b9
def vS (p0:Layout):Option ((List Route)×Int):=
 aA (rK p0) λr1=>
 if r1=(0:Int) then
 aA (
 aT (λ(i8,b9)=>
 if i8 < (p0.signals.length:Int) then
 aA (tU p0 i8) λr12=>
 aB ((b9++r12).length≤1000000000) <|
 aB (I64 (i8+(1:Int))) <|
 some (.inl ((i8+(1:Int)),(b9++r12)))
 else
 aJ (
 some b9)) ((0:Int),([]:List Route))) λb3=>
 if (48:Int) < (b3.length:Int) then
 some (([]:List Route),(2:Int))
 else
 some (b3,(0:Int))
 else
 some (([]:List Route),r1)
def pX (p0:Layout):Option ((List Int)):=
 aA (
 aT (λ(x6,b7)=>
 if x6 < (p0.elements.length:Int) then
 aU p0.elements x6 λe10=>
 if e10.kind=(2:Int) then
 aB ((b7++([x6]:List Int)).length≤1000000000) <|
 aB (I64 (x6+(1:Int))) <|
 some (.inl ((x6+(1:Int)),(b7++([x6]:List Int))))
 else
 aB (I64 (x6+(1:Int))) <|
 some (.inl ((x6+(1:Int)),b7))
 else
 aJ (
 some b7)) ((0:Int),([]:List Int))) λb1=>
 some b1
def tS (p0:Layout) (p1:Route):Option (Signal×Bool):=
 if ((decide (p1.exit < (0:Int)))||(decide ((p0.signals.length:Int)≤p1.exit)))=true then
 some ((⟨(⟨#[]⟩:ByteArray),(⟨(0:Int),(0:Int)⟩:End),(0:Int)⟩:Signal),false)
 else
 aU p0.signals p1.exit λe3=>
 some (e3,true)
def oI (p0:Layout) (p1:Route) (p2:(List Step)) (p3:Int):Option Bool:=
 cU (
 aT (λx3=>
 if x3 < (p2.length:Int) then
 aU p2 x3 λe6=>
 if e6.el=p3 then
 aJ (
 aJ (
 some true))
 else
 aB (I64 (x3+(1:Int))) <|
 some (.inl (x3+(1:Int)))
 else
 aJ (
 some (.inl ()))) (0:Int)) λ_=>
 cU (
 aT (λx14=>
 if x14 < (p1.sections.length:Int) then
 aU p1.sections x14 λe17=>
 aA (gK p0 p3) λr18=>
 if e17=r18 then
 aJ (
 aJ (
 some true))
 else
 aB (I64 (x14+(1:Int))) <|
 some (.inl (x14+(1:Int)))
 else
 aJ (
 some (.inl ()))) (0:Int)) λ_=>
 some false
def tT (p0:Layout) (p1:Route):Option Route:=
 aA (tS p0 (⟨p1.name,p1.entry,p1.exit,p1.path,p1.points,p1.sections,p1.approach,p1.length,([]:List Step),([]:List Setting),([]:List Int),p1.flank,p1.guards,p1.gaps⟩:Route)) λ(r2,r3)=>
 if (!(r3))=true then
 some (⟨p1.name,p1.entry,p1.exit,p1.path,p1.points,p1.sections,p1.approach,p1.length,([]:List Step),([]:List Setting),([]:List Int),p1.flank,p1.guards,p1.gaps⟩:Route)
 else
 aA (gF p0 r2.atV) λ(r6,r7)=>
 aA (
 aT (λ(joined17,c18,c19,b20)=>
 aA (
 if joined17=true then
 aA (mB p0 b20) λr25=>
 if r25 < r2.overlap then
 if (b20.length:Int) < (12:Int) then
 aA (oI p0 (⟨p1.name,p1.entry,p1.exit,p1.path,p1.points,p1.sections,p1.approach,p1.length,b20,([]:List Setting),([]:List Int),p1.flank,p1.guards,p1.gaps⟩:Route) b20 c18) λr28=>
 some (!(r28))
 else
 some false
 else
 some false
 else
 some false) λx22=>
 if x22=true then
 aA (kM p0 (⟨c18,c19⟩:End)) λr30=>
 if (r30.length:Int)=(0:Int) then
 aJ (
 some (b20,c18,c19))
 else
 aU r30 (0:Int) λe33=>
 aB ((b20++([e33]:List Step)).length≤1000000000) <|
 aU r30 (0:Int) λe35=>
 aA (jW p0 e35) λ(r37,r38)=>
 some (.inl (r38,r37.el,r37.side,(b20++([e33]:List Step))))
 else
 aJ (
 some (b20,c18,c19))) (r7,r6.el,r6.side,([]:List Step))) λ(b8,c9,c10)=>
 aA (kL p0 b8) λr40=>
 aA (iU p0 b8) λr41=>
 some (⟨p1.name,p1.entry,p1.exit,p1.path,p1.points,p1.sections,p1.approach,p1.length,b8,r40,r41,p1.flank,p1.guards,p1.gaps⟩:Route)
def lZ (p0:Layout) (p1:Step):Option ((List End)):=
 if ((decide (p1.el < (0:Int)))||(decide ((p0.elements.length:Int)≤p1.el)))=true then
 some ([]:List End)
 else
 aU p0.elements p1.el λe3=>
 aA (jX e3.kind p1.inV p1.out) λ(r5,r6)=>
 aA (
 aT (λ(side12,b13)=>
 aA (nZ e3.kind) λr15=>
 if side12 < r15 then
 if (r6&&((!(decide (side12=p1.inV)))&&(!(decide (side12=p1.out)))))=true then
 aB ((b13++([(⟨p1.el,side12⟩:End)]:List End)).length≤1000000000) <|
 aB (I64 (side12+(1:Int))) <|
 some (.inl ((side12+(1:Int)),(b13++([(⟨p1.el,side12⟩:End)]:List End))))
 else
 aB (I64 (side12+(1:Int))) <|
 some (.inl ((side12+(1:Int)),b13))
 else
 aJ (
 some b13)) ((0:Int),([]:List End))) λb7=>
 some b7
def rB (p0:Layout) (p1:Route):Option ((List End)):=
 aA (
 aT (λ(i6,b7)=>
 if i6 < (p1.path.length:Int) then
 aU p1.path i6 λe10=>
 aA (lZ p0 e10) λr11=>
 aB ((b7++r11).length≤1000000000) <|
 aB (I64 (i6+(1:Int))) <|
 some (.inl ((i6+(1:Int)),(b7++r11)))
 else
 aJ (
 some b7)) ((0:Int),([]:List End))) λb1=>
 aA (
 aT (λ(i20,b21)=>
 if i20 < (p1.over.length:Int) then
 aU p1.over i20 λe24=>
 aA (lZ p0 e24) λr25=>
 aB ((b21++r25).length≤1000000000) <|
 aB (I64 (i20+(1:Int))) <|
 some (.inl ((i20+(1:Int)),(b21++r25)))
 else
 aJ (
 some b21)) ((0:Int),b1)) λb15=>
 some b15
def pR (p0:(List Step)) (p1:Int):Option Bool:=
 cU (
 aT (λi3=>
 if i3 < (p0.length:Int) then
 aU p0 i3 λe6=>
 if e6.el=p1 then
 aJ (
 aJ (
 some true))
 else
 aB (I64 (i3+(1:Int))) <|
 some (.inl (i3+(1:Int)))
 else
 aJ (
 some (.inl ()))) (0:Int)) λ_=>
 some false
def mL (p0:(List Setting)) (p1:Setting):Option Bool:=
 cU (
 aT (λi3=>
 if i3 < (p0.length:Int) then
 aU p0 i3 λe6=>
 aB (Setting.ok e6∧Setting.ok p1) <|
 if e6=p1 then
 aJ (
 aJ (
 some true))
 else
 aB (I64 (i3+(1:Int))) <|
 some (.inl (i3+(1:Int)))
 else
 aJ (
 some (.inl ()))) (0:Int)) λ_=>
 some false
def rA (p0:Route) (p1:Setting):Option Bool:=
 aA (
 aA (mL p0.points p1) λr3=>
 if r3=true then
 some true
 else
 aA (mL p0.overPoints p1) λr5=>
 if r5=true then
 some true
 else
 aA (mL p0.flank p1) λr7=>
 some r7) λx1=>
 some x1
def sG (p0:Route) (p1:End):Option (Setting×Int×Bool):=
 aA (
 if p1.side=(2:Int) then
 some ((2:Int),(1:Int))
 else
 some ((1:Int),(2:Int))) λ(c1,c2)=>
 aA (rA p0 (⟨p1.el,c1⟩:Setting)) λr5=>
 if r5=true then
 some ((⟨(0:Int),(0:Int)⟩:Setting),(-1:Int),false)
 else
 some ((⟨p1.el,c2⟩:Setting),(-1:Int),true)
def sH (p0:Int) (p1:Int) (p2:Int):Option (Int×Bool):=
 cU (
 aT (λout3=>
 if out3 < (4:Int) then
 aA (jX p0 p1 out3) λ(r7,r8)=>
 if (r8&&((decide (r7=(0:Int)))||(decide (r7=p2))))=true then
 aJ (
 aJ (
 some (out3,true)))
 else
 aB (I64 (out3+(1:Int))) <|
 some (.inl (out3+(1:Int)))
 else
 aJ (
 some (.inl ()))) (0:Int)) λ_=>
 some ((0:Int),false)
def pS (p0:Layout) (p1:Route) (p2:End):Option (Setting×Int×Bool):=
 cU (
 aT (λ(n8,c9,c10)=>
 if n8 < (4:Int) then
 aA (gF p0 (⟨c9,c10⟩:End)) λ(r14,r15)=>
 if (!(r15))=true then
 aJ (
 aJ (
 some ((⟨(0:Int),(0:Int)⟩:Setting),(-1:Int),true)))
 else
 aA (mC p0 r14) λr19=>
 if (0:Int)≤r19 then
 aJ (
 aJ (
 some ((⟨(0:Int),(0:Int)⟩:Setting),r19,true)))
 else
 aA (
 aA (pR p1.path r14.el) λr25=>
 if r25=true then
 some true
 else
 aA (pR p1.over r14.el) λr27=>
 some r27) λx23=>
 if x23=true then
 aJ (
 aJ (
 some ((⟨(0:Int),(0:Int)⟩:Setting),(-1:Int),true)))
 else
 aA (
 if r14.el < (0:Int) then
 some true
 else
 if (p0.elements.length:Int)≤r14.el then
 some true
 else
 aU p0.elements r14.el λe35=>
 if e35.kind=(2:Int) then
 some (decide (r14.side=(0:Int)))
 else
 some false) λx31=>
 if x31=true then
 aJ (
 aJ (
 some ((⟨(0:Int),(0:Int)⟩:Setting),(-1:Int),false)))
 else
 aU p0.elements r14.el λe40=>
 if e40.kind=(2:Int) then
 aA (sG p1 r14) λ(r43,r44,r45)=>
 aJ (
 aJ (
 some (r43,r44,r45)))
 else
 aU p0.elements r14.el λe48=>
 aA (sH e48.kind r14.side (0:Int)) λ(r50,r51)=>
 aB (I64 (n8+(1:Int))) <|
 some (.inl ((n8+(1:Int)),r14.el,r50))
 else
 aJ (
 some (.inl (c9,c10)))) ((0:Int),p2.el,p2.side)) λ(c1,c2)=>
 some ((⟨(0:Int),(0:Int)⟩:Setting),(-1:Int),false)
def vR (p0:(List Setting)) (p1:Setting):Option ((List Setting)):=
 aA (mL p0 p1) λr1=>
 if r1=true then
 some p0
 else
 aA (
 aT (λ(done11,i12,b13)=>
 if i12 < (p0.length:Int) then
 aA (
 aA (
 if (!(done11))=true then
 aU p0 i12 λe22=>
 some (decide (p1.el < e22.el))
 else
 some false) λx19=>
 if x19=true then
 aB ((b13++([p1]:List Setting)).length≤1000000000) <|
 some (true,(b13++([p1]:List Setting)))
 else
 some (done11,b13)) λ(done16,b17)=>
 aU p0 i12 λe25=>
 aB ((b17++([e25]:List Setting)).length≤1000000000) <|
 aB (I64 (i12+(1:Int))) <|
 some (.inl (done16,(i12+(1:Int)),(b17++([e25]:List Setting))))
 else
 aJ (
 some (done11,b13))) (false,(0:Int),([]:List Setting))) λ(done3,b4)=>
 if (!(done3))=true then
 aB ((b4++([p1]:List Setting)).length≤1000000000) <|
 some (b4++([p1]:List Setting))
 else
 some b4
def vV (p0:(List Int)) (p1:Int):Option Bool:=
 cU (
 aT (λi3=>
 if i3 < (p0.length:Int) then
 aU p0 i3 λe6=>
 if e6=p1 then
 aJ (
 aJ (
 some true))
 else
 aB (I64 (i3+(1:Int))) <|
 some (.inl (i3+(1:Int)))
 else
 aJ (
 some (.inl ()))) (0:Int)) λ_=>
 some false
def mE (p0:(List Int)) (p1:Int):Option ((List Int)):=
 aA (vV p0 p1) λr1=>
 if r1=true then
 some p0
 else
 aA (
 aT (λ(done11,i12,b13)=>
 if i12 < (p0.length:Int) then
 aA (
 aA (
 if (!(done11))=true then
 aU p0 i12 λe22=>
 some (decide (p1 < e22))
 else
 some false) λx19=>
 if x19=true then
 aB ((b13++([p1]:List Int)).length≤1000000000) <|
 some (true,(b13++([p1]:List Int)))
 else
 some (done11,b13)) λ(done16,b17)=>
 aU p0 i12 λe25=>
 aB ((b17++([e25]:List Int)).length≤1000000000) <|
 aB (I64 (i12+(1:Int))) <|
 some (.inl (done16,(i12+(1:Int)),(b17++([e25]:List Int))))
 else
 aJ (
 some (done11,b13))) (false,(0:Int),([]:List Int))) λ(done3,b4)=>
 if (!(done3))=true then
 aB ((b4++([p1]:List Int)).length≤1000000000) <|
 some (b4++([p1]:List Int))
 else
 some b4
def tY (p0:(List Int)):Option ((List Int)):=
 aA (
 aT (λ(out5,i6)=>
 if i6 < (p0.length:Int) then
 aU p0 i6 λe9=>
 aA (mE out5 e9) λr10=>
 aB (I64 (i6+(1:Int))) <|
 some (.inl (r10,(i6+(1:Int))))
 else
 aJ (
 some out5)) (([]:List Int),(0:Int))) λout1=>
 some out1
def rM (p0:(List Int)) (p1:(List Int)):Option ((List Int)):=
 aA (tY p0) λr1=>
 aA (
 aT (λ(out6,i7)=>
 if i7 < (p1.length:Int) then
 aU p1 i7 λe10=>
 aA (mE out6 e10) λr11=>
 aB (I64 (i7+(1:Int))) <|
 some (.inl (r11,(i7+(1:Int))))
 else
 aJ (
 some out6)) (r1,(0:Int))) λout2=>
 some out2
def tR (p0:Layout) (p1:Route):Option Route:=
 aA (rB p0 (⟨p1.name,p1.entry,p1.exit,p1.path,p1.points,p1.sections,p1.approach,p1.length,p1.over,p1.overPoints,p1.overSections,([]:List Setting),([]:List Int),([]:List End)⟩:Route)) λr1=>
 aA (
 aT (λ(i11,c12,c13,b14)=>
 if i11 < (r1.length:Int) then
 aU r1 i11 λe17=>
 aA (pS p0 (⟨p1.name,p1.entry,p1.exit,p1.path,p1.points,p1.sections,p1.approach,p1.length,p1.over,p1.overPoints,p1.overSections,c12,c13,b14⟩:Route) e17) λ(r19,r20,r21)=>
 aA (
 if (!(r21))=true then
 aU r1 i11 λe25=>
 aB ((b14++([e25]:List End)).length≤1000000000) <|
 some (b14++([e25]:List End))
 else
 some b14) λb22=>
 aA (
 if r19.pos=(0:Int) then
 some c12
 else
 aA (vR c12 r19) λr30=>
 some r30) λc27=>
 if (0:Int)≤r20 then
 aA (rM c13 ([r20]:List Int)) λr32=>
 aB (I64 (i11+(1:Int))) <|
 some (.inl ((i11+(1:Int)),c27,r32,b22))
 else
 aB (I64 (i11+(1:Int))) <|
 some (.inl ((i11+(1:Int)),c27,c13,b22))
 else
 aJ (
 some (c12,c13,b14))) ((0:Int),([]:List Setting),([]:List Int),([]:List End))) λ(c2,c3,b4)=>
 some (⟨p1.name,p1.entry,p1.exit,p1.path,p1.points,p1.sections,p1.approach,p1.length,p1.over,p1.overPoints,p1.overSections,c2,c3,b4⟩:Route)
def qZ (p0:Layout):Option (Table×Int):=
 aA (vS p0) λ(r2,r3)=>
 if r3=(0:Int) then
 aA (pX p0) λr5=>
 aA (
 aT (λ(x11,b12)=>
 if x11 < (r2.length:Int) then
 aU r2 x11 λe15=>
 aA (tT p0 e15) λr16=>
 aA (tR p0 r16) λr17=>
 aB ((b12++([r17]:List Route)).length≤1000000000) <|
 aB (I64 (x11+(1:Int))) <|
 some (.inl ((x11+(1:Int)),(b12++([r17]:List Route))))
 else
 aJ (
 some b12)) ((0:Int),([]:List Route))) λb6=>
 aA (
 aT (λ(x26,b27)=>
 if x26 < (r5.length:Int) then
 aU r5 x26 λe30=>
 aA (gK p0 e30) λr31=>
 aB ((b27++([r31]:List Int)).length≤1000000000) <|
 aB (I64 (x26+(1:Int))) <|
 some (.inl ((x26+(1:Int)),(b27++([r31]:List Int))))
 else
 aJ (
 some b27)) ((0:Int),([]:List Int))) λb21=>
 some ((⟨b6,r5,b21,(p0.sections.length:Int),(p0.signals.length:Int)⟩:Table),(0:Int))
 else
 some ((⟨([]:List Route),([]:List Int),([]:List Int),(0:Int),(0:Int)⟩:Table),r3)
def eP (p0:Int) (p1:Int):Option Bool:=
 some ((decide ((0:Int)≤p0))&&(decide (p0 < p1)))
def kE (p0:Table):Option Bool:=
 if (p0.homes.length:Int)=(p0.points.length:Int) then
 cU (
 aT (λx4=>
 if x4 < (p0.points.length:Int) then
 aU p0.points x4 λe7=>
 aA (
 if e7 < (0:Int) then
 some true
 else
 if (0:Int) < x4 then
 aB (I64 (x4 - (1:Int))) <|
 aU p0.points (x4 - (1:Int)) λe15=>
 if e7≤e15 then
 some true
 else
 aU p0.homes x4 λe17=>
 aA (eP e17 p0.sections) λr18=>
 some (!(r18))
 else
 aU p0.homes x4 λe12=>
 aA (eP e12 p0.sections) λr13=>
 some (!(r13))) λx8=>
 if x8=true then
 aJ (
 aJ (
 some false))
 else
 aB (I64 (x4+(1:Int))) <|
 some (.inl (x4+(1:Int)))
 else
 aJ (
 some (.inl ()))) (0:Int)) λ_=>
 some true
 else
 some false
def eY (p0:List (List Int)):Option (List Int):=
 aB (p0.length≤1000∧p0.flatten.length≤1000000000) <|
 some p0.flatten
def kV (p0:Table) (p1:Route):Option Bool:=
 aA (
 aA (eP p1.entry p0.signals) λr3=>
 if (!(r3))=true then
 some true
 else
 if p1.exit=(-1:Int) then
 some false
 else
 aA (eP p1.exit p0.signals) λr6=>
 some (!(r6))) λx1=>
 if x1=true then
 some false
 else
 if ((decide ((p1.path.length:Int) < (1:Int)))||((decide ((12:Int) < (p1.path.length:Int)))||(decide ((p1.sections.length:Int)=(0:Int)))))=true then
 some false
 else
 cU (
 aA (eY ([p1.sections,p1.overSections]:List (List Int))) λr13=>
 aT (λ(x17,b18)=>
 if x17 < (r13.length:Int) then
 aU r13 x17 λe21=>
 aA (
 aA (eP e21 p0.sections) λr24=>
 if (!(r24))=true then
 some true
 else
 aB (e21 < 24) <|
 aU b18 e21 λe26=>
 some e26) λx22=>
 if x22=true then
 aJ (
 aJ (
 some false))
 else
 aB (e21 < 24) <|
 aU b18 e21 λe31=>
 aB (I64 (x17+(1:Int))) <|
 some (.inl ((x17+(1:Int)),(b18.set e21.toNat true)))
 else
 aJ (
 some (.inl b18))) ((0:Int),(List.replicate 24 false))) λb11=>
 aA (
 aA (eP p1.approach p0.sections) λr37=>
 if r37=true then
 some (decide ((1:Int)≤p1.length))
 else
 some false) λx35=>
 some x35
def dI (p0:(List Int)) (p1:Int):Option Int:=
 cU (
 aT (λx3=>
 if x3 < (p0.length:Int) then
 aU p0 x3 λe6=>
 if p1=e6 then
 aJ (
 aJ (
 some x3))
 else
 aB (I64 (x3+(1:Int))) <|
 some (.inl (x3+(1:Int)))
 else
 aJ (
 some (.inl ()))) (0:Int)) λ_=>
 some (-1:Int)
def fQ (p0:Table) (p1:Int):Option Int:=
 aA (dI p0.points p1) λr1=>
 some r1
def fF (p0:Table) (p1:(List Setting)):Option Bool:=
 cU (
 aT (λx3=>
 if x3 < (p1.length:Int) then
 aU p1 x3 λe6=>
 aA (
 if (0:Int) < x3 then
 aB (I64 (x3 - (1:Int))) <|
 aU p1 (x3 - (1:Int)) λe12=>
 if e6.el≤e12.el then
 some true
 else
 aA (fQ p0 e6.el) λr14=>
 some (decide (r14 < (0:Int)))
 else
 aA (fQ p0 e6.el) λr10=>
 some (decide (r10 < (0:Int)))) λx7=>
 if x7=true then
 aJ (
 aJ (
 some false))
 else
 if ((!(decide (e6.pos=(1:Int))))&&(!(decide (e6.pos=(2:Int)))))=true then
 aJ (
 aJ (
 some false))
 else
 aB (I64 (x3+(1:Int))) <|
 some (.inl (x3+(1:Int)))
 else
 aJ (
 some (.inl ()))) (0:Int)) λ_=>
 some true
def iZ (p0:(List Setting)) (p1:(List Setting)):Option Bool:=
 cU (
 aT (λx3=>
 if x3 < (p0.length:Int) then
 cU (
 aU p0 x3 λe7=>
 aT (λx9=>
 if x9 < (p1.length:Int) then
 aU p1 x9 λe12=>
 if ((decide (e7.el=e12.el))&&(!(decide (e7.pos=e12.pos))))=true then
 aJ (
 aJ (
 aJ (
 aJ (
 some false))))
 else
 aB (I64 (x9+(1:Int))) <|
 some (.inl (x9+(1:Int)))
 else
 aJ (
 some (.inl ()))) (0:Int)) λ_=>
 aB (I64 (x3+(1:Int))) <|
 some (.inl (x3+(1:Int)))
 else
 aJ (
 some (.inl ()))) (0:Int)) λ_=>
 some true
def qU (p0:Table):Option Int:=
 aA (
 if (48:Int) < (p0.routes.length:Int) then
 some true
 else
 if (32:Int) < (p0.points.length:Int) then
 some true
 else
 aA (eP p0.sections (25:Int)) λr5=>
 if (!(r5))=true then
 some true
 else
 aA (eP p0.signals (21:Int)) λr7=>
 some (!(r7))) λx1=>
 if x1=true then
 some (2:Int)
 else
 aA (kE p0) λr9=>
 if (!(r9))=true then
 some (1:Int)
 else
 cU (
 aT (λx13=>
 if x13 < (p0.routes.length:Int) then
 aU p0.routes x13 λe16=>
 aA (kV p0 e16) λr17=>
 if (!(r17))=true then
 aJ (
 aJ (
 some (1:Int)))
 else
 aB (I64 (x13+(1:Int))) <|
 some (.inl (x13+(1:Int)))
 else
 aJ (
 some (.inl ()))) (0:Int)) λ_=>
 cU (
 aT (λx25=>
 if x25 < (p0.routes.length:Int) then
 aU p0.routes x25 λe28=>
 aA (
 aA (fF p0 e28.points) λr31=>
 if (!(r31))=true then
 some true
 else
 aA (fF p0 e28.overPoints) λr33=>
 if (!(r33))=true then
 some true
 else
 aA (fF p0 e28.flank) λr35=>
 some (!(r35))) λx29=>
 if x29=true then
 aJ (
 aJ (
 some (1:Int)))
 else
 aB (I64 (x25+(1:Int))) <|
 some (.inl (x25+(1:Int)))
 else
 aJ (
 some (.inl ()))) (0:Int)) λ_=>
 cU (
 aT (λx43=>
 if x43 < (p0.routes.length:Int) then
 aU p0.routes x43 λe46=>
 aA (
 aA (iZ e46.points e46.overPoints) λr49=>
 if (!(r49))=true then
 some true
 else
 aA (iZ e46.points e46.flank) λr51=>
 if (!(r51))=true then
 some true
 else
 aA (iZ e46.overPoints e46.flank) λr53=>
 some (!(r53))) λx47=>
 if x47=true then
 aJ (
 aJ (
 some (10:Int)))
 else
 aB (I64 (x43+(1:Int))) <|
 some (.inl (x43+(1:Int)))
 else
 aJ (
 some (.inl ()))) (0:Int)) λ_=>
 cU (
 aT (λ(x64,b65)=>
 if x64 < (p0.routes.length:Int) then
 aU p0.routes x64 λe68=>
 aB (b65.map (·.1)).Nodup <|
 if (((lE b65 e68.name).getD false))=true then
 aJ (
 aJ (
 some (8:Int)))
 else
 aB (b65.map (·.1)).Nodup <|
 aB (I64 (x64+(1:Int))) <|
 some (.inl ((x64+(1:Int)),(qLZ b65 e68.name true)))
 else
 aJ (
 some (.inl b65))) ((0:Int),([]:List (ByteArray×Bool)))) λm59=>
 some (0:Int)
def bS (p0:Numbering) (p1:Int):Option Int:=
 aU p0.t.routes p1 λe1=>
 aB (I64 ((e1.sections.length:Int) - (1:Int))) <|
 some ((e1.sections.length:Int) - (1:Int))
def nJ (p0:Table):Option (Numbering×Int):=
 aA (qU p0) λr1=>
 if r1=(0:Int) then
 aB (I64 ((2:Int) * p0.sections)) <|
 aB (I64 ((2:Int) * (p0.points.length:Int))) <|
 aB (I64 (((2:Int) * p0.sections)+((2:Int) * (p0.points.length:Int)))) <|
 aB (I64 ((4:Int) * (p0.routes.length:Int))) <|
 aB (I64 ((((2:Int) * p0.sections)+((2:Int) * (p0.points.length:Int)))+((4:Int) * (p0.routes.length:Int)))) <|
 aB (I64 (((((2:Int) * p0.sections)+((2:Int) * (p0.points.length:Int)))+((4:Int) * (p0.routes.length:Int)))+(p0.points.length:Int))) <|
 aA (
 aT (λ(x16,c17,b18)=>
 if x16 < (p0.routes.length:Int) then
 aB ((b18++([c17]:List Int)).length≤1000000000) <|
 aA (bS (⟨p0,((((2:Int) * p0.sections)+((2:Int) * (p0.points.length:Int)))+((4:Int) * (p0.routes.length:Int))),(b18++([c17]:List Int)),c17,(0:Int)⟩:Numbering) x16) λr22=>
 aB (I64 ((4:Int)+r22)) <|
 aB (I64 (((4:Int)+r22)+(2:Int))) <|
 aB (I64 (c17+(((4:Int)+r22)+(2:Int)))) <|
 aB (I64 (x16+(1:Int))) <|
 some (.inl ((x16+(1:Int)),(c17+(((4:Int)+r22)+(2:Int))),(b18++([c17]:List Int))))
 else
 aJ (
 some (c17,b18))) ((0:Int),(((((2:Int) * p0.sections)+((2:Int) * (p0.points.length:Int)))+((4:Int) * (p0.routes.length:Int)))+(p0.points.length:Int)),([]:List Int))) λ(c9,b10)=>
 aB (I64 ((5:Int) * (p0.routes.length:Int))) <|
 aB (I64 (c9+((5:Int) * (p0.routes.length:Int)))) <|
 if (2000:Int) < (c9+((5:Int) * (p0.routes.length:Int))) then
 some ((⟨(⟨([]:List Route),([]:List Int),([]:List Int),(0:Int),(0:Int)⟩:Table),(0:Int),([]:List Int),(0:Int),(0:Int)⟩:Numbering),(2:Int))
 else
 some ((⟨p0,((((2:Int) * p0.sections)+((2:Int) * (p0.points.length:Int)))+((4:Int) * (p0.routes.length:Int))),b10,c9,(c9+((5:Int) * (p0.routes.length:Int)))⟩:Numbering),(0:Int))
 else
 some ((⟨(⟨([]:List Route),([]:List Int),([]:List Int),(0:Int),(0:Int)⟩:Table),(0:Int),([]:List Int),(0:Int),(0:Int)⟩:Numbering),r1)
def cQ (p0:Numbering) (p1:Int) (p2:Int):Option Int:=
 aU p0.bases p1 λe1=>
 aB (I64 (e1+p2)) <|
 some (e1+p2)
def eE (p0:Numbering) (p1:Int):Option Int:=
 aA (bS p0 p1) λr1=>
 aB (I64 ((4:Int)+r1)) <|
 aA (cQ p0 p1 ((4:Int)+r1)) λr3=>
 some r3
def cE (p0:Int):Option Expr:=
 some (⟨(3:Int),p0,([]:List Expr)⟩:Expr)
def gB (p0:Numbering) (p1:Int) (p2:Int):Option Int:=
 aB (I64 ((2:Int) * p0.t.sections)) <|
 aB (I64 ((2:Int) * (p0.t.points.length:Int))) <|
 aB (I64 (((2:Int) * p0.t.sections)+((2:Int) * (p0.t.points.length:Int)))) <|
 aB (I64 ((4:Int) * p1)) <|
 aB (I64 ((((2:Int) * p0.t.sections)+((2:Int) * (p0.t.points.length:Int)))+((4:Int) * p1))) <|
 aB (I64 (((((2:Int) * p0.t.sections)+((2:Int) * (p0.t.points.length:Int)))+((4:Int) * p1))+p2)) <|
 some (((((2:Int) * p0.t.sections)+((2:Int) * (p0.t.points.length:Int)))+((4:Int) * p1))+p2)
def eM (p0:Numbering) (p1:Int) (p2:Int):Option Int:=
 aB (I64 ((2:Int) * p1)) <|
 aB (I64 (((2:Int) * p1)+p2)) <|
 some (((2:Int) * p1)+p2)
def dE (p0:(List Expr)):Option Expr:=
 some (⟨(6:Int),(0:Int),p0⟩:Expr)
def cK (p0:(List Expr)):Option Expr:=
 some (⟨(5:Int),(0:Int),p0⟩:Expr)
def eZ (p0:Numbering) (p1:Int):Option Int:=
 aA (eE p0 p1) λr1=>
 aB (I64 (r1+(1:Int))) <|
 some (r1+(1:Int))
def cT (p0:Expr):Option Expr:=
 some (⟨(4:Int),(0:Int),([p0]:List Expr)⟩:Expr)
def aW (p0:Numbering) (p1:Int) (p2:Int):Option Int:=
 aB (I64 ((5:Int) * p1)) <|
 aB (I64 (p0.extra+((5:Int) * p1))) <|
 aB (I64 ((p0.extra+((5:Int) * p1))+p2)) <|
 some ((p0.extra+((5:Int) * p1))+p2)
def iM (p0:List (List Setting)):Option (List Setting):=
 aB (p0.length≤1000∧p0.flatten.length≤1000000000) <|
 some p0.flatten
def jR (p0:Int):Option Bool:=
 some (!(decide (p0=p0)))
def gD (p0:Int) (p1:Int):Option Int:=
 aA (jR p0) λr1=>
 aA (jR p1) λr2=>
 if r1=true then
 if r2=true then
 some (0:Int)
 else
 some (-1:Int)
 else
 if r2=true then
 some (1:Int)
 else
 if p0 < p1 then
 some (-1:Int)
 else
 if p1 < p0 then
 some (1:Int)
 else
 some (0:Int)
def nM (p0:(List Int)):Option Int:=
 cU (
 aT (λx3=>
 if x3 < (p0.length:Int) then
 aU p0 x3 λe6=>
 if e6=(0:Int) then
 aB (I64 (x3+(1:Int))) <|
 some (.inl (x3+(1:Int)))
 else
 aJ (
 aJ (
 some e6))
 else
 aJ (
 some (.inl ()))) (0:Int)) λ_=>
 some (0:Int)
def cY (p0:Setting) (p1:Setting):Option Int:=
 aA (gD p0.el p1.el) λr1=>
 aA (gD p0.pos p1.pos) λr2=>
 aA (nM ([r1,r2]:List Int)) λr3=>
 some r3
def eU (p0:Route):Option ((List Setting)):=
 aA (iM ([p0.points,p0.overPoints,p0.flank]:List (List Setting))) λr1=>
 aB (r1.length≤1000000000) <|
 aA (
 aT (λ(x8,b9)=>
 if x8 < ((oX cY r1).length:Int) then
 aU (oX cY r1) x8 λe12=>
 aA (
 if x8=(0:Int) then
 some true
 else
 aB (I64 (x8 - (1:Int))) <|
 aU (oX cY r1) (x8 - (1:Int)) λe17=>
 aB (Setting.ok e12∧Setting.ok e17) <|
 some (!(decide (e12=e17)))) λx13=>
 if x13=true then
 aB ((b9++([e12]:List Setting)).length≤1000000000) <|
 aB (I64 (x8+(1:Int))) <|
 some (.inl ((x8+(1:Int)),(b9++([e12]:List Setting))))
 else
 aB (I64 (x8+(1:Int))) <|
 some (.inl ((x8+(1:Int)),b9))
 else
 aJ (
 some b9)) ((0:Int),([]:List Setting))) λb3=>
 some b3
def gO (p0:Numbering) (p1:Int) (p2:Int):Option Int:=
 aB (I64 ((2:Int) * p0.t.sections)) <|
 aB (I64 ((2:Int) * p1)) <|
 aB (I64 (((2:Int) * p0.t.sections)+((2:Int) * p1))) <|
 aB (I64 ((((2:Int) * p0.t.sections)+((2:Int) * p1))+p2)) <|
 some ((((2:Int) * p0.t.sections)+((2:Int) * p1))+p2)
def gW (p0:Route) (p1:Route):Option Bool:=
 some ((decide ((0:Int)≤p0.exit))&&(decide (p1.entry=p0.exit)))
def fG (p0:(List Int)) (p1:Int):Option Bool:=
 aA (dI p0 p1) λr1=>
 some (decide ((0:Int)≤r1))
def iS (p0:(List Setting)) (p1:Setting):Option Int:=
 cU (
 aT (λx3=>
 if x3 < (p0.length:Int) then
 aU p0 x3 λe6=>
 aB (Setting.ok p1∧Setting.ok e6) <|
 if p1=e6 then
 aJ (
 aJ (
 some x3))
 else
 aB (I64 (x3+(1:Int))) <|
 some (.inl (x3+(1:Int)))
 else
 aJ (
 some (.inl ()))) (0:Int)) λ_=>
 some (-1:Int)
def dD (p0:(List Setting)) (p1:Setting):Option Bool:=
 aA (iS p0 p1) λr1=>
 some (decide ((0:Int)≤r1))
def eN (p0:Numbering) (p1:Int):Option Int:=
 aB (I64 (p0.inputs+p1)) <|
 some (p0.inputs+p1)
def itoaB (n:Nat):ByteArray:=⟨(Go.Lib.decDigits n).toArray⟩
def kG (p0:Int):Option ByteArray:=aB (0≤p0∧p0 < 100) <| some (itoaB p0.toNat)
def bW (p0:Int) (p1:(List ByteArray)) (p2:(List ByteArray)):Option ((List ByteArray)):=
 aT (λ(x4,b5)=>
 if x4 < (p1.length:Int) then
 aU p1 x4 λe8=>
 aB (e8.size+(⟨#[46]⟩:ByteArray).size≤9223372036854775807) <|
 aA (kG p0) λr10=>
 aB ((e8++(⟨#[46]⟩:ByteArray)).size+r10.size≤9223372036854775807) <|
 aB ((b5++([((e8++(⟨#[46]⟩:ByteArray))++r10)]:List ByteArray)).length≤1000000000) <|
 aB (I64 (x4+(1:Int))) <|
 some (.inl ((x4+(1:Int)),(b5++([((e8++(⟨#[46]⟩:ByteArray))++r10)]:List ByteArray))))
 else
 aJ (
 some b5)) ((0:Int),p2)
def gY (p0:Numbering):Option ((List ByteArray)):=
 aA (
 aT (λ(x6,b7)=>
 if x6 < p0.t.sections then
 aA (bW x6 ([(⟨#[102,114,101,101]⟩:ByteArray),(⟨#[111,112,101,110]⟩:ByteArray)]:List ByteArray) b7) λr10=>
 aB (I64 (x6+(1:Int))) <|
 some (.inl ((x6+(1:Int)),r10))
 else
 aJ (
 some b7)) ((0:Int),([]:List ByteArray))) λb1=>
 aA (
 aT (λ(x18,b19)=>
 if x18 < (p0.t.points.length:Int) then
 aA (bW x18 ([(⟨#[110,111,114,109,97,108]⟩:ByteArray),(⟨#[114,101,118,101,114,115,101]⟩:ByteArray)]:List ByteArray) b19) λr22=>
 aB (I64 (x18+(1:Int))) <|
 some (.inl ((x18+(1:Int)),r22))
 else
 aJ (
 some b19)) ((0:Int),b1)) λb13=>
 aA (
 aT (λ(x30,b31)=>
 if x30 < (p0.t.routes.length:Int) then
 aA (bW x30 ([(⟨#[117,110,99,108,97,105,109,101,100]⟩:ByteArray),(⟨#[112,97,115,115,101,100]⟩:ByteArray),(⟨#[99,97,108,108]⟩:ByteArray),(⟨#[99,97,110,99,101,108]⟩:ByteArray)]:List ByteArray) b31) λr34=>
 aB (I64 (x30+(1:Int))) <|
 some (.inl ((x30+(1:Int)),r34))
 else
 aJ (
 some b31)) ((0:Int),b13)) λb25=>
 aA (
 aT (λ(x42,b43)=>
 if x42 < (p0.t.points.length:Int) then
 aA (bW x42 ([(⟨#[108,105,101]⟩:ByteArray)]:List ByteArray) b43) λr46=>
 aB (I64 (x42+(1:Int))) <|
 some (.inl ((x42+(1:Int)),r46))
 else
 aJ (
 some b43)) ((0:Int),b25)) λb37=>
 aA (
 aT (λ(x54,b55)=>
 if x54 < (p0.t.routes.length:Int) then
 aA (
 aA (bW x54 ([(⟨#[115,101,116]⟩:ByteArray),(⟨#[99,108,101,97,114]⟩:ByteArray),(⟨#[117,115,101,100]⟩:ByteArray),(⟨#[104,101,108,100]⟩:ByteArray)]:List ByteArray) b55) λr60=>
 aA (
 aA (bS p0 x54) λr63=>
 aT (λ(x67,b68)=>
 if x67 < r63 then
 aA (kG x54) λr71=>
 aB ((⟨#[114,101,108,46]⟩:ByteArray).size+r71.size≤9223372036854775807) <|
 aA (bW x67 ([((⟨#[114,101,108,46]⟩:ByteArray)++r71)]:List ByteArray) b68) λr73=>
 aB (I64 (x67+(1:Int))) <|
 some (.inl ((x67+(1:Int)),r73))
 else
 aJ (
 some b68)) ((0:Int),r60)) λb61=>
 aA (bW x54 ([(⟨#[119,97,105,116]⟩:ByteArray),(⟨#[115,116,97,110,100]⟩:ByteArray)]:List ByteArray) b61) λr76=>
 some r76) λb58=>
 aB (I64 (x54+(1:Int))) <|
 some (.inl ((x54+(1:Int)),b58))
 else
 aJ (
 some b55)) ((0:Int),b37)) λb49=>
 aA (
 aT (λ(x84,b85)=>
 if x84 < (p0.t.routes.length:Int) then
 aA (bW x84 ([(⟨#[107,101,101,112]⟩:ByteArray),(⟨#[117,115,101]⟩:ByteArray),(⟨#[104,111,108,100]⟩:ByteArray),(⟨#[97,99,116]⟩:ByteArray),(⟨#[99,97,108,108,101,100]⟩:ByteArray)]:List ByteArray) b85) λr88=>
 aB (I64 (x84+(1:Int))) <|
 some (.inl ((x84+(1:Int)),r88))
 else
 aJ (
 some b85)) ((0:Int),b49)) λb79=>
 some b79
def bG (p0:Builder) (p1:Int) (p2:Int):Option Expr:=
 aA (cQ p0.numbering p1 p2) λr1=>
 aA (cE r1) λr2=>
 some r2
def bL (p0:Builder) (p1:Int) (p2:Int):Option Expr:=
 aA (gB p0.numbering p1 p2) λr1=>
 aA (cE r1) λr2=>
 some r2
def dC (p0:Builder) (p1:Int) (p2:Int):Option Expr:=
 aB (I64 ((4:Int)+p2)) <|
 aA (cQ p0.numbering p1 ((4:Int)+p2)) λr2=>
 aA (cE r2) λr3=>
 some r3
def bV (p0:Builder) (p1:Int):Option Expr:=
 aA (eM p0.numbering p1 (0:Int)) λr1=>
 aA (cE r1) λr2=>
 some r2
def eC (p0:Builder) (p1:Int):Option Expr:=
 aA (
 aU p0.numbering.t.routes p1 λe3=>
 aT (λ(x7,b8)=>
 if x7 < (e3.sections.length:Int) then
 aU e3.sections x7 λe11=>
 aA (bS p0.numbering p1) λr12=>
 if x7 < r12 then
 aA (dC p0 p1 x7) λr14=>
 aA (bV p0 e11) λr15=>
 aA (dE ([r14,r15]:List Expr)) λr16=>
 aB ((b8++([r16]:List Expr)).length≤1000000000) <|
 aB (I64 (x7+(1:Int))) <|
 some (.inl ((x7+(1:Int)),(b8++([r16]:List Expr))))
 else
 aA (bV p0 e11) λr19=>
 aB ((b8++([r19]:List Expr)).length≤1000000000) <|
 aB (I64 (x7+(1:Int))) <|
 some (.inl ((x7+(1:Int)),(b8++([r19]:List Expr))))
 else
 aJ (
 some b8)) ((0:Int),([]:List Expr))) λb1=>
 aA (cK b1) λr23=>
 some r23
def fO (p0:Builder) (p1:Int):Option Expr:=
 aA (bS p0.numbering p1) λr1=>
 if r1=(0:Int) then
 aA (cK []) λr3=>
 some r3
 else
 aA (bS p0.numbering p1) λr4=>
 aB (I64 (r4 - (1:Int))) <|
 aA (dC p0 p1 (r4 - (1:Int))) λr6=>
 some r6
def iE (p0:Builder) (p1:Int):Option Builder:=
 aU p0.numbering.t.routes p1 λe1=>
 aA (eE p0.numbering p1) λr2=>
 aA (bG p0 p1 (3:Int)) λr3=>
 aA (bL p0 p1 (0:Int)) λr4=>
 aA (eC p0 p1) λr5=>
 aA (cK ([r3,r4,r5]:List Expr)) λr6=>
 aA (eZ p0.numbering p1) λr7=>
 aA (bG p0 p1 (2:Int)) λr8=>
 aA (bL p0 p1 (0:Int)) λr9=>
 aA (fO p0 p1) λr10=>
 aA (bS p0.numbering p1) λr11=>
 aU e1.sections r11 λe12=>
 aA (bV p0 e12) λr13=>
 aA (cT r13) λr14=>
 aA (cK ([r8,r9,r10,r14]:List Expr)) λr15=>
 aB ((p0.rungs++([(⟨(2:Int),r2,(12:Int),r6⟩:Rung),(⟨(2:Int),r7,(4:Int),r15⟩:Rung)]:List Rung)).length≤1000000000) <|
 some (⟨p0.numbering,(p0.rungs++([(⟨(2:Int),r2,(12:Int),r6⟩:Rung),(⟨(2:Int),r7,(4:Int),r15⟩:Rung)]:List Rung))⟩:Builder)
def eF (p0:Builder) (p1:Int):Option Expr:=
 aU p0.numbering.t.routes p1 λe1=>
 aA (
 aA (eY ([e1.sections,e1.overSections]:List (List Int))) λr4=>
 aT (λ(x8,b9)=>
 if x8 < (r4.length:Int) then
 aU r4 x8 λe12=>
 aA (bV p0 e12) λr13=>
 aB ((b9++([r13]:List Expr)).length≤1000000000) <|
 aB (I64 (x8+(1:Int))) <|
 some (.inl ((x8+(1:Int)),(b9++([r13]:List Expr))))
 else
 aJ (
 some b9)) ((0:Int),([]:List Expr))) λb2=>
 aA (
 aA (eU e1) λr19=>
 aT (λ(x23,b24)=>
 if x23 < (r19.length:Int) then
 aU r19 x23 λe27=>
 aA (
 if e27.pos=(2:Int) then
 some (1:Int)
 else
 some (0:Int)) λkind28=>
 aA (fQ p0.numbering.t e27.el) λr31=>
 aA (gO p0.numbering r31 kind28) λr32=>
 aA (cE r32) λr33=>
 aB ((b24++([r33]:List Expr)).length≤1000000000) <|
 aB (I64 (x23+(1:Int))) <|
 some (.inl ((x23+(1:Int)),(b24++([r33]:List Expr))))
 else
 aJ (
 some b24)) ((0:Int),b2)) λb17=>
 aA (cK b17) λr37=>
 some r37
def cG (p0:Builder) (p1:Int) (p2:Expr):Option Builder:=
 aB ((p0.rungs++([(⟨(1:Int),p1,(0:Int),p2⟩:Rung)]:List Rung)).length≤1000000000) <|
 some (⟨p0.numbering,(p0.rungs++([(⟨(1:Int),p1,(0:Int),p2⟩:Rung)]:List Rung))⟩:Builder)
def fA (p0:Builder) (p1:Int):Option Expr:=
 aA (
 aU p0.numbering.t.routes p1 λe3=>
 aT (λ(x7,b8)=>
 if x7 < (e3.sections.length:Int) then
 aU e3.sections x7 λe11=>
 aA (bV p0 e11) λr12=>
 aA (
 if (0:Int) < x7 then
 aB (I64 (x7 - (1:Int))) <|
 aA (dC p0 p1 (x7 - (1:Int))) λr17=>
 aB ((([r12]:List Expr)++([r17]:List Expr)).length≤1000000000) <|
 some (([r12]:List Expr)++([r17]:List Expr))
 else
 some ([r12]:List Expr)) λb13=>
 aA (
 aA (bS p0.numbering p1) λr21=>
 if x7 < r21 then
 aA (dC p0 p1 x7) λr23=>
 aA (cT r23) λr24=>
 aB ((b13++([r24]:List Expr)).length≤1000000000) <|
 some (b13++([r24]:List Expr))
 else
 some b13) λb19=>
 aA (cK b19) λr26=>
 aB ((b8++([r26]:List Expr)).length≤1000000000) <|
 aB (I64 (x7+(1:Int))) <|
 some (.inl ((x7+(1:Int)),(b8++([r26]:List Expr))))
 else
 aJ (
 some b8)) ((0:Int),([]:List Expr))) λb1=>
 aA (dE b1) λr30=>
 some r30
def fN (p0:Builder) (p1:Int):Option Expr:=
 aA (bG p0 p1 (0:Int)) λr1=>
 aA (bG p0 p1 (1:Int)) λr2=>
 aA (dE ([r1,r2]:List Expr)) λr3=>
 aA (bL p0 p1 (3:Int)) λr4=>
 aA (cT r4) λr5=>
 aA (eF p0 p1) λr6=>
 aA (cK ([r3,r5,r6]:List Expr)) λr7=>
 some r7
def gQ (p0:Builder) (p1:Int):Option Builder:=
 aU p0.numbering.t.routes p1 λe1=>
 aU e1.sections (0:Int) λe2=>
 aA (bS p0.numbering p1) λr3=>
 aU e1.sections r3 λe4=>
 aA (aW p0.numbering p1 (0:Int)) λr5=>
 aA (bG p0 p1 (0:Int)) λr6=>
 aA (bL p0 p1 (3:Int)) λr7=>
 aA (cT r7) λr8=>
 aA (eF p0 p1) λr9=>
 aA (cT r9) λr10=>
 aA (cK ([r6,r8,r10]:List Expr)) λr11=>
 aA (cG p0 r5 r11) λr12=>
 aA (aW p0.numbering p1 (1:Int)) λr13=>
 aA (bG (⟨p0.numbering,r12.rungs⟩:Builder) p1 (1:Int)) λr14=>
 aA (bV (⟨p0.numbering,r12.rungs⟩:Builder) e2) λr15=>
 aA (cT r15) λr16=>
 aA (cK ([r14,r16]:List Expr)) λr17=>
 aA (bG (⟨p0.numbering,r12.rungs⟩:Builder) p1 (2:Int)) λr18=>
 aA (bL (⟨p0.numbering,r12.rungs⟩:Builder) p1 (0:Int)) λr19=>
 aA (cT r19) λr20=>
 aA (bL (⟨p0.numbering,r12.rungs⟩:Builder) p1 (3:Int)) λr21=>
 aA (eC (⟨p0.numbering,r12.rungs⟩:Builder) p1) λr22=>
 aA (cK ([r21,r22]:List Expr)) λr23=>
 aA (cT r23) λr24=>
 aA (fO (⟨p0.numbering,r12.rungs⟩:Builder) p1) λr25=>
 aA (bV (⟨p0.numbering,r12.rungs⟩:Builder) e4) λr26=>
 aA (cK ([r25,r26]:List Expr)) λr27=>
 aA (cT r27) λr28=>
 aA (eZ p0.numbering p1) λr29=>
 aA (cE r29) λr30=>
 aA (cT r30) λr31=>
 aA (cK ([r24,r28,r31]:List Expr)) λr32=>
 aA (dE ([r20,r32]:List Expr)) λr33=>
 aA (cK ([r18,r33]:List Expr)) λr34=>
 aA (bG (⟨p0.numbering,r12.rungs⟩:Builder) p1 (3:Int)) λr35=>
 aA (fA (⟨p0.numbering,r12.rungs⟩:Builder) p1) λr36=>
 aA (cT r36) λr37=>
 aA (cK ([r35,r37]:List Expr)) λr38=>
 aA (dE ([r17,r34,r38]:List Expr)) λr39=>
 aA (cG (⟨p0.numbering,r12.rungs⟩:Builder) r13 r39) λr40=>
 aA (aW p0.numbering p1 (2:Int)) λr41=>
 aA (bG (⟨p0.numbering,r40.rungs⟩:Builder) p1 (1:Int)) λr42=>
 aA (bV (⟨p0.numbering,r40.rungs⟩:Builder) e2) λr43=>
 aA (bL (⟨p0.numbering,r40.rungs⟩:Builder) p1 (3:Int)) λr44=>
 aA (bL (⟨p0.numbering,r40.rungs⟩:Builder) p1 (0:Int)) λr45=>
 aA (bV (⟨p0.numbering,r40.rungs⟩:Builder) e1.approach) λr46=>
 aA (cK ([r44,r45,r46]:List Expr)) λr47=>
 aA (cT r47) λr48=>
 aA (bL (⟨p0.numbering,r40.rungs⟩:Builder) p1 (3:Int)) λr49=>
 aA (eF (⟨p0.numbering,r40.rungs⟩:Builder) p1) λr50=>
 aA (cT r50) λr51=>
 aA (dE ([r49,r51]:List Expr)) λr52=>
 aA (cK ([r42,r43,r48,r52]:List Expr)) λr53=>
 aA (bG (⟨p0.numbering,r40.rungs⟩:Builder) p1 (2:Int)) λr54=>
 aA (bL (⟨p0.numbering,r40.rungs⟩:Builder) p1 (0:Int)) λr55=>
 aA (bL (⟨p0.numbering,r40.rungs⟩:Builder) p1 (3:Int)) λr56=>
 aA (eC (⟨p0.numbering,r40.rungs⟩:Builder) p1) λr57=>
 aA (cK ([r54,r55,r56,r57]:List Expr)) λr58=>
 aA (bG (⟨p0.numbering,r40.rungs⟩:Builder) p1 (3:Int)) λr59=>
 aA (fA (⟨p0.numbering,r40.rungs⟩:Builder) p1) λr60=>
 aA (eE p0.numbering p1) λr61=>
 aA (cE r61) λr62=>
 aA (cT r62) λr63=>
 aA (cK ([r59,r60,r63]:List Expr)) λr64=>
 aA (dE ([r53,r58,r64]:List Expr)) λr65=>
 aA (cG (⟨p0.numbering,r40.rungs⟩:Builder) r41 r65) λr66=>
 aA (aW p0.numbering p1 (3:Int)) λr67=>
 aA (aW p0.numbering p1 (0:Int)) λr68=>
 aA (cE r68) λr69=>
 aA (fN (⟨p0.numbering,r66.rungs⟩:Builder) p1) λr70=>
 aA (aW p0.numbering p1 (1:Int)) λr71=>
 aA (cE r71) λr72=>
 aA (aW p0.numbering p1 (2:Int)) λr73=>
 aA (cE r73) λr74=>
 aA (dE ([r69,r70,r72,r74]:List Expr)) λr75=>
 aA (cG (⟨p0.numbering,r66.rungs⟩:Builder) r67 r75) λr76=>
 some (⟨p0.numbering,r76.rungs⟩:Builder)
def iP (p0:Builder) (p1:Int):Option Builder:=
 aU p0.numbering.t.routes p1 λe1=>
 aA (
 aA (bS p0.numbering p1) λr4=>
 aB (I64 (r4 - (1:Int))) <|
 aT (λ(k9,b10)=>
 if (0:Int)≤k9 then
 aA (bG (⟨p0.numbering,b10⟩:Builder) p1 (2:Int)) λr13=>
 aA (aW p0.numbering p1 (1:Int)) λr14=>
 aA (cE r14) λr15=>
 aA (bL (⟨p0.numbering,b10⟩:Builder) p1 (0:Int)) λr16=>
 aU e1.sections k9 λe17=>
 aA (bV (⟨p0.numbering,b10⟩:Builder) e17) λr18=>
 aB (I64 (k9+(1:Int))) <|
 aU e1.sections (k9+(1:Int)) λe20=>
 aA (bV (⟨p0.numbering,b10⟩:Builder) e20) λr21=>
 aA (cT r21) λr22=>
 aA (bL (⟨p0.numbering,b10⟩:Builder) p1 (1:Int)) λr23=>
 aA (dE ([r22,r23]:List Expr)) λr24=>
 aA (
 if (0:Int) < k9 then
 aB (I64 (k9 - (1:Int))) <|
 aA (dC (⟨p0.numbering,b10⟩:Builder) p1 (k9 - (1:Int))) λr29=>
 aB ((([r13,r15,r16,r18,r24]:List Expr)++([r29]:List Expr)).length≤1000000000) <|
 some (([r13,r15,r16,r18,r24]:List Expr)++([r29]:List Expr))
 else
 some ([r13,r15,r16,r18,r24]:List Expr)) λb25=>
 aB (I64 ((4:Int)+k9)) <|
 aA (cQ p0.numbering p1 ((4:Int)+k9)) λr32=>
 aA (aW p0.numbering p1 (1:Int)) λr33=>
 aA (cE r33) λr34=>
 aA (aW p0.numbering p1 (2:Int)) λr35=>
 aA (cE r35) λr36=>
 aA (dE ([r34,r36]:List Expr)) λr37=>
 aA (dC (⟨p0.numbering,b10⟩:Builder) p1 k9) λr38=>
 aA (cK b25) λr39=>
 aA (dE ([r38,r39]:List Expr)) λr40=>
 aA (cK ([r37,r40]:List Expr)) λr41=>
 aA (cG (⟨p0.numbering,b10⟩:Builder) r32 r41) λr42=>
 aB (I64 (k9 - (1:Int))) <|
 some (.inl ((k9 - (1:Int)),r42.rungs))
 else
 aJ (
 some b10)) ((r4 - (1:Int)),p0.rungs)) λb2=>
 aA (cQ p0.numbering p1 (1:Int)) λr45=>
 aA (fN (⟨p0.numbering,b2⟩:Builder) p1) λr46=>
 aA (cG (⟨p0.numbering,b2⟩:Builder) r45 r46) λr47=>
 aA (cQ p0.numbering p1 (2:Int)) λr48=>
 aA (aW p0.numbering p1 (1:Int)) λr49=>
 aA (cE r49) λr50=>
 aA (cG (⟨p0.numbering,r47.rungs⟩:Builder) r48 r50) λr51=>
 aA (cQ p0.numbering p1 (3:Int)) λr52=>
 aA (aW p0.numbering p1 (2:Int)) λr53=>
 aA (cE r53) λr54=>
 aA (cG (⟨p0.numbering,r51.rungs⟩:Builder) r52 r54) λr55=>
 some (⟨p0.numbering,r55.rungs⟩:Builder)
def dV (p0:Int) (p1:Builder) (p2:Int) (p3:Bool) (p4:(List Int)):Option (Bool×(List Int)):=
 aA (
 if p0 < (0:Int) then
 some true
 else
 aA (bS p1.numbering p2) λr4=>
 some (decide (p0=r4))) λx1=>
 if x1=true then
 some (true,p4)
 else
 aA (fG p4 p0) λr6=>
 if (!(r6))=true then
 aB ((p4++([p0]:List Int)).length≤1000000000) <|
 some (p3,(p4++([p0]:List Int)))
 else
 some (p3,p4)
def iF (p0:Builder) (p1:Int) (p2:Int):Option (Bool×(List Int)):=
 aU p0.numbering.t.routes p1 λe1=>
 aU p0.numbering.t.routes p2 λe2=>
 aA (gW e2 e1) λr3=>
 aA (gW e1 e2) λr4=>
 aA (
 aT (λ(x12,c13,b14)=>
 if x12 < (e1.sections.length:Int) then
 aU e1.sections x12 λe17=>
 aA (
 aA (dI e2.sections e17) λr21=>
 if (0:Int)≤r21 then
 aA (dV r21 p0 p2 c13 b14) λ(r24,r25)=>
 some (r24,r25)
 else
 some (c13,b14)) λ(c18,b19)=>
 if c18=true then
 aB (I64 (x12+(1:Int))) <|
 some (.inl ((x12+(1:Int)),true,b19))
 else
 aA (fG e2.overSections e17) λr27=>
 if r27=true then
 aB (I64 (x12+(1:Int))) <|
 some (.inl ((x12+(1:Int)),!(r3),b19))
 else
 aB (I64 (x12+(1:Int))) <|
 some (.inl ((x12+(1:Int)),false,b19))
 else
 aJ (
 some (c13,b14))) ((0:Int),false,([]:List Int))) λ(c5,b6)=>
 aA (
 aT (λ(x40,c41,b42)=>
 if x40 < (e1.overSections.length:Int) then
 aU e1.overSections x40 λe45=>
 aA (
 aA (dI e2.sections e45) λr49=>
 if ((decide ((0:Int)≤r49))&&(!(r4)))=true then
 aA (dV r49 p0 p2 c41 b42) λ(r53,r54)=>
 some (r53,r54)
 else
 some (c41,b42)) λ(c46,b47)=>
 if c46=true then
 aB (I64 (x40+(1:Int))) <|
 some (.inl ((x40+(1:Int)),true,b47))
 else
 aA (fG e2.overSections e45) λr56=>
 if r56=true then
 if (!(r3))=true then
 aB (I64 (x40+(1:Int))) <|
 some (.inl ((x40+(1:Int)),!(r4),b47))
 else
 aB (I64 (x40+(1:Int))) <|
 some (.inl ((x40+(1:Int)),false,b47))
 else
 aB (I64 (x40+(1:Int))) <|
 some (.inl ((x40+(1:Int)),false,b47))
 else
 aJ (
 some (c41,b42))) ((0:Int),c5,b6)) λ(c33,b34)=>
 aA (
 aA (eU e1) λr67=>
 aT (λ(x72,c73,b74)=>
 if x72 < (r67.length:Int) then
 aU r67 x72 λe77=>
 aB (I64 ((3:Int) - e77.pos)) <|
 aA (
 aA (dD e2.overPoints (⟨e77.el,((3:Int) - e77.pos)⟩:Setting)) λr81=>
 if r81=true then
 some true
 else
 aA (dD e2.flank (⟨e77.el,((3:Int) - e77.pos)⟩:Setting)) λr83=>
 some r83) λx79=>
 if x79=true then
 aB (I64 (x72+(1:Int))) <|
 some (.inl ((x72+(1:Int)),true,b74))
 else
 aA (dD e2.points (⟨e77.el,((3:Int) - e77.pos)⟩:Setting)) λr86=>
 if r86=true then
 aA (fQ p0.numbering.t e77.el) λr88=>
 aU p0.numbering.t.homes r88 λe89=>
 aA (dI e2.sections e89) λr90=>
 aA (dV r90 p0 p2 c73 b74) λ(r92,r93)=>
 aB (I64 (x72+(1:Int))) <|
 some (.inl ((x72+(1:Int)),r92,r93))
 else
 aB (I64 (x72+(1:Int))) <|
 some (.inl ((x72+(1:Int)),c73,b74))
 else
 aJ (
 some (c73,b74))) ((0:Int),c33,b34)) λ(c64,b65)=>
 some (c64,b65)
def iQ (p0:Builder) (p1:Int) (p2:Int):Option ((List Expr)):=
 aA (iF p0 p1 p2) λ(r2,r3)=>
 aA (aW p0.numbering p2 (3:Int)) λr4=>
 aA (cE r4) λr5=>
 aA (
 if p2 < p1 then
 aA (aW p0.numbering p2 (4:Int)) λr11=>
 aA (cE r11) λr12=>
 aA (dE ([r5,r12]:List Expr)) λr13=>
 some (r13.op,r13.var,r13.args)
 else
 some (r5.op,r5.var,r5.args)) λ(c6,c7,c8)=>
 if r2=true then
 aA (cT (⟨c6,c7,c8⟩:Expr)) λr15=>
 some ([r15]:List Expr)
 else
 if (r3.length:Int)=(0:Int) then
 some ([]:List Expr)
 else
 aA (cT (⟨c6,c7,c8⟩:Expr)) λr17=>
 aA (
 aT (λ(x23,b24)=>
 if x23 < (r3.length:Int) then
 aU r3 x23 λe27=>
 aA (dC p0 p2 e27) λr28=>
 aB ((b24++([r28]:List Expr)).length≤1000000000) <|
 aB (I64 (x23+(1:Int))) <|
 some (.inl ((x23+(1:Int)),(b24++([r28]:List Expr))))
 else
 aJ (
 some b24)) ((0:Int),([]:List Expr))) λb18=>
 aA (cK b18) λr32=>
 aB ((([r17]:List Expr)++([r32]:List Expr)).length≤1000000000) <|
 aA (dE (([r17]:List Expr)++([r32]:List Expr))) λr34=>
 some ([r34]:List Expr)
def iG (p0:Builder) (p1:Int):Option Expr:=
 aU p0.numbering.t.routes p1 λe1=>
 aA (bL p0 p1 (2:Int)) λr2=>
 aA (aW p0.numbering p1 (3:Int)) λr3=>
 aA (cE r3) λr4=>
 aA (cT r4) λr5=>
 aA (
 aA (eY ([e1.sections,e1.overSections]:List (List Int))) λr8=>
 aT (λ(x12,b13)=>
 if x12 < (r8.length:Int) then
 aU r8 x12 λe16=>
 aA (eM p0.numbering e16 (1:Int)) λr17=>
 aA (cE r17) λr18=>
 aB ((b13++([r18]:List Expr)).length≤1000000000) <|
 aB (I64 (x12+(1:Int))) <|
 some (.inl ((x12+(1:Int)),(b13++([r18]:List Expr))))
 else
 aJ (
 some b13)) ((0:Int),([r2,r5]:List Expr))) λb6=>
 aA (
 aT (λ(x27,b28)=>
 if x27 < (p0.numbering.t.routes.length:Int) then
 if x27=p1 then
 aB (I64 (x27+(1:Int))) <|
 some (.inl ((x27+(1:Int)),b28))
 else
 aA (iQ p0 p1 x27) λr32=>
 aB ((b28++r32).length≤1000000000) <|
 aB (I64 (x27+(1:Int))) <|
 some (.inl ((x27+(1:Int)),(b28++r32)))
 else
 aJ (
 some b28)) ((0:Int),b6)) λb22=>
 aA (
 aA (eU e1) λr39=>
 aT (λ(x43,b44)=>
 if x43 < (r39.length:Int) then
 aU r39 x43 λe47=>
 aA (fQ p0.numbering.t e47.el) λr48=>
 aA (eN p0.numbering r48) λr49=>
 aA (cE r49) λr50=>
 aA (
 if e47.pos=(1:Int) then
 aA (cT r50) λr56=>
 some (r56.op,r56.var,r56.args)
 else
 some (r50.op,r50.var,r50.args)) λ(c51,c52,c53)=>
 aU p0.numbering.t.homes r48 λe57=>
 aA (bV p0 e57) λr58=>
 aA (dE ([(⟨c51,c52,c53⟩:Expr),r58]:List Expr)) λr59=>
 aB ((b44++([r59]:List Expr)).length≤1000000000) <|
 aB (I64 (x43+(1:Int))) <|
 some (.inl ((x43+(1:Int)),(b44++([r59]:List Expr))))
 else
 aJ (
 some b44)) ((0:Int),b22)) λb37=>
 aA (cK b37) λr63=>
 some r63
def jA (p0:Builder) (p1:Int):Option Expr:=
 aA (
 aT (λ(x8,b9,b10)=>
 if x8 < (p0.numbering.t.routes.length:Int) then
 aA (
 aU p0.numbering.t.routes x8 λe16=>
 aA (eU e16) λr17=>
 aT (λ(x22,b23,b24)=>
 if x22 < (r17.length:Int) then
 aU r17 x22 λe27=>
 aU p0.numbering.t.points p1 λe28=>
 if e27.el=e28 then
 if e27.pos=(2:Int) then
 aA (aW p0.numbering x8 (4:Int)) λr32=>
 aA (cE r32) λr33=>
 aB ((b24++([r33]:List Expr)).length≤1000000000) <|
 aB (I64 (x22+(1:Int))) <|
 some (.inl ((x22+(1:Int)),b23,(b24++([r33]:List Expr))))
 else
 aA (aW p0.numbering x8 (4:Int)) λr36=>
 aA (cE r36) λr37=>
 aB ((b23++([r37]:List Expr)).length≤1000000000) <|
 aB (I64 (x22+(1:Int))) <|
 some (.inl ((x22+(1:Int)),(b23++([r37]:List Expr)),b24))
 else
 aB (I64 (x22+(1:Int))) <|
 some (.inl ((x22+(1:Int)),b23,b24))
 else
 aJ (
 some (b23,b24))) ((0:Int),b9,b10)) λ(b13,b14)=>
 aB (I64 (x8+(1:Int))) <|
 some (.inl ((x8+(1:Int)),b13,b14))
 else
 aJ (
 some (b9,b10))) ((0:Int),([]:List Expr),([]:List Expr))) λ(b1,b2)=>
 aA (dE b2) λr43=>
 aA (eN p0.numbering p1) λr44=>
 aA (cE r44) λr45=>
 aA (dE b1) λr46=>
 aA (cT r46) λr47=>
 aA (cK ([r45,r47]:List Expr)) λr48=>
 aA (dE ([r43,r48]:List Expr)) λr49=>
 some r49
def lU (p0:Table):Option (Program×Int):=
 aA (nJ p0) λ(r2,r3)=>
 if r3=(0:Int) then
 aA (
 aT (λ(x10,b11)=>
 if x10 < (p0.routes.length:Int) then
 aA (iE (⟨r2,b11⟩:Builder) x10) λr14=>
 aB (I64 (x10+(1:Int))) <|
 some (.inl ((x10+(1:Int)),r14.rungs))
 else
 aJ (
 some b11)) ((0:Int),([]:List Rung))) λb5=>
 aA (
 aT (λ(x22,b23)=>
 if x22 < (p0.routes.length:Int) then
 aA (gQ (⟨r2,b23⟩:Builder) x22) λr26=>
 aB (I64 (x22+(1:Int))) <|
 some (.inl ((x22+(1:Int)),r26.rungs))
 else
 aJ (
 some b23)) ((0:Int),b5)) λb17=>
 aA (
 aT (λ(x34,b35)=>
 if x34 < (p0.routes.length:Int) then
 aA (iP (⟨r2,b35⟩:Builder) x34) λr38=>
 aB (I64 (x34+(1:Int))) <|
 some (.inl ((x34+(1:Int)),r38.rungs))
 else
 aJ (
 some b35)) ((0:Int),b17)) λb29=>
 aA (
 aT (λ(x46,b47)=>
 if x46 < (p0.routes.length:Int) then
 aA (aW r2 x46 (4:Int)) λr50=>
 aA (iG (⟨r2,b47⟩:Builder) x46) λr51=>
 aA (cG (⟨r2,b47⟩:Builder) r50 r51) λr52=>
 aB (I64 (x46+(1:Int))) <|
 some (.inl ((x46+(1:Int)),r52.rungs))
 else
 aJ (
 some b47)) ((0:Int),b29)) λb41=>
 aA (
 aT (λ(x60,b61)=>
 if x60 < (p0.points.length:Int) then
 aA (eN r2 x60) λr64=>
 aA (jA (⟨r2,b61⟩:Builder) x60) λr65=>
 aA (cG (⟨r2,b61⟩:Builder) r64 r65) λr66=>
 aB (I64 (x60+(1:Int))) <|
 some (.inl ((x60+(1:Int)),r66.rungs))
 else
 aJ (
 some b61)) ((0:Int),b41)) λb55=>
 aA (
 aT (λ(x74,b75)=>
 if x74 < (p0.routes.length:Int) then
 aA (cQ r2 x74 (0:Int)) λr78=>
 aA (aW r2 x74 (0:Int)) λr79=>
 aA (cE r79) λr80=>
 aA (aW r2 x74 (4:Int)) λr81=>
 aA (cE r81) λr82=>
 aA (dE ([r80,r82]:List Expr)) λr83=>
 aA (cG (⟨r2,b75⟩:Builder) r78 r83) λr84=>
 aB (I64 (x74+(1:Int))) <|
 some (.inl ((x74+(1:Int)),r84.rungs))
 else
 aJ (
 some b75)) ((0:Int),b55)) λb69=>
 aA (gY r2) λr87=>
 some ((⟨r87,r2.inputs,b69⟩:Program),(0:Int))
 else
 some ((⟨([]:List ByteArray),(0:Int),([]:List Rung)⟩:Program),r3)
def mG (p0:ByteArray) (p1:ByteArray) (p2:(List Int)):Option ByteArray:=
 aA (
 aT (λ(word5,x6)=>
 if x6 < (p2.length:Int) then
 aU p2 x6 λe9=>
 aA (kG e9) λr10=>
 aB (p1.size+r10.size≤9223372036854775807) <|
 aB (word5.size+(p1++r10).size≤9223372036854775807) <|
 aB (I64 (x6+(1:Int))) <|
 some (.inl ((word5++(p1++r10)),(x6+(1:Int))))
 else
 aJ (
 some word5)) (p0,(0:Int))) λword1=>
 some word1
def mN (p0:(List Expr)):Option Expr:=
 some (⟨(6:Int),(0:Int),p0⟩:Expr)
def gM (p0:Expr):Option Expr:=
 some (⟨(4:Int),(0:Int),([p0]:List Expr)⟩:Expr)
def iB (p0:(List Expr)):Option Expr:=
 some (⟨(5:Int),(0:Int),p0⟩:Expr)
def bM (p0:Collector) (p1:ByteArray) (p2:(List Int)):Option Expr:=
 aA (mG p1 (⟨#[46]⟩:ByteArray) p2) λr1=>
 aB (p0.vars.map (·.1)).Nodup <|
 some (⟨(3:Int),((lE p0.vars r1).getD (0:Int)),([]:List Expr)⟩:Expr)
def dL (p0:Collector) (p1:Int):Option Expr:=
 aA (bM p0 (⟨#[115,101,116]⟩:ByteArray) ([p1]:List Int)) λr1=>
 aA (bM p0 (⟨#[99,108,101,97,114]⟩:ByteArray) ([p1]:List Int)) λr2=>
 aA (bM p0 (⟨#[117,115,101,100]⟩:ByteArray) ([p1]:List Int)) λr3=>
 aA (bM p0 (⟨#[104,101,108,100]⟩:ByteArray) ([p1]:List Int)) λr4=>
 aA (mN ([r1,r2,r3,r4]:List Expr)) λr5=>
 some r5
def dR (p0:Collector) (p1:Int) (p2:Int):Option Expr:=
 aU p0.table.routes p1 λe1=>
 aB (I64 ((e1.sections.length:Int) - (1:Int))) <|
 if p2=((e1.sections.length:Int) - (1:Int)) then
 aA (dL p0 p1) λr4=>
 some r4
 else
 aA (dL p0 p1) λr5=>
 aA (bM p0 (⟨#[114,101,108]⟩:ByteArray) ([p1,p2]:List Int)) λr6=>
 aA (gM r6) λr7=>
 aA (iB ([r5,r7]:List Expr)) λr8=>
 some r8
def dF (p0:Collector) (p1:Expr) (p2:ByteArray) (p3:(List Int)):Option Collector:=
 aA (mG p2 (⟨#[32]⟩:ByteArray) p3) λr1=>
 aB ((p0.list++([(⟨r1,p1⟩:Obligation)]:List Obligation)).length≤1000000000) <|
 some (⟨p0.table,p0.vars,(p0.list++([(⟨r1,p1⟩:Obligation)]:List Obligation))⟩:Collector)
def hU (p0:Collector):Option Collector:=
 aT (λ(x4,b5)=>
 if x4 < (p0.table.routes.length:Int) then
 aA (
 aB (I64 (x4+(1:Int))) <|
 aT (λ(b14,b15)=>
 if b14 < (p0.table.routes.length:Int) then
 aA (
 aU p0.table.routes x4 λe20=>
 aT (λ(x24,b25)=>
 if x24 < (e20.sections.length:Int) then
 aU e20.sections x24 λe28=>
 aU p0.table.routes b14 λe29=>
 aA (dI e29.sections e28) λr30=>
 if (0:Int)≤r30 then
 aA (dR (⟨p0.table,p0.vars,b25⟩:Collector) x4 x24) λr32=>
 aA (dR (⟨p0.table,p0.vars,b25⟩:Collector) b14 r30) λr33=>
 aA (iB ([r32,r33]:List Expr)) λr34=>
 aA (gM r34) λr35=>
 aA (dF (⟨p0.table,p0.vars,b25⟩:Collector) r35 (⟨#[112,97,116,104]⟩:ByteArray) ([x4,b14,e28]:List Int)) λr36=>
 aB (I64 (x24+(1:Int))) <|
 some (.inl ((x24+(1:Int)),r36.list))
 else
 aB (I64 (x24+(1:Int))) <|
 some (.inl ((x24+(1:Int)),b25))
 else
 aJ (
 some b25)) ((0:Int),b15)) λb18=>
 aB (I64 (b14+(1:Int))) <|
 some (.inl ((b14+(1:Int)),b18))
 else
 aJ (
 some b15)) ((x4+(1:Int)),b5)) λb8=>
 aB (I64 (x4+(1:Int))) <|
 some (.inl ((x4+(1:Int)),b8))
 else
 aJ (
 some (⟨p0.table,p0.vars,b5⟩:Collector))) ((0:Int),p0.list)
def gA (p0:Collector):Option Collector:=
 aT (λ(x4,b5)=>
 if x4 < (p0.table.routes.length:Int) then
 aA (
 aU p0.table.routes x4 λe10=>
 aT (λ(x14,b15)=>
 if x14 < (p0.table.routes.length:Int) then
 aA (
 aU p0.table.routes x14 λe20=>
 aA (
 if x4=x14 then
 some true
 else
 aA (gW e10 e20) λr24=>
 some r24) λx21=>
 if x21=true then
 some b15
 else
 aT (λ(x29,b30)=>
 if x29 < (e10.overSections.length:Int) then
 aU e10.overSections x29 λe33=>
 aA (dI e20.sections e33) λr34=>
 if (0:Int)≤r34 then
 aA (dL (⟨p0.table,p0.vars,b30⟩:Collector) x4) λr36=>
 aA (dR (⟨p0.table,p0.vars,b30⟩:Collector) x14 r34) λr37=>
 aA (iB ([r36,r37]:List Expr)) λr38=>
 aA (gM r38) λr39=>
 aA (dF (⟨p0.table,p0.vars,b30⟩:Collector) r39 (⟨#[111,118,101,114]⟩:ByteArray) ([x4,x14,e33]:List Int)) λr40=>
 aB (I64 (x29+(1:Int))) <|
 some (.inl ((x29+(1:Int)),r40.list))
 else
 aB (I64 (x29+(1:Int))) <|
 some (.inl ((x29+(1:Int)),b30))
 else
 aJ (
 some b30)) ((0:Int),b15)) λb18=>
 aB (I64 (x14+(1:Int))) <|
 some (.inl ((x14+(1:Int)),b18))
 else
 aJ (
 some b15)) ((0:Int),b5)) λb8=>
 aB (I64 (x4+(1:Int))) <|
 some (.inl ((x4+(1:Int)),b8))
 else
 aJ (
 some (⟨p0.table,p0.vars,b5⟩:Collector))) ((0:Int),p0.list)
def hZ (p0:Collector) (p1:Int) (p2:Setting):Option Expr:=
 aU p0.table.routes p1 λe1=>
 aA (fQ p0.table p2.el) λr2=>
 aU p0.table.homes r2 λe3=>
 aA (dI e1.sections e3) λr4=>
 aA (
 if r4 < (0:Int) then
 some true
 else
 aA (dD e1.overPoints p2) λr8=>
 if r8=true then
 some true
 else
 aA (dD e1.flank p2) λr10=>
 some r10) λx5=>
 if x5=true then
 aA (dL p0 p1) λr12=>
 some r12
 else
 aA (dR p0 p1 r4) λr13=>
 some r13
def iO (p0:Collector) (p1:Int):Option Collector:=
 aU p0.table.routes p1 λe1=>
 aA (eU e1) λr2=>
 aT (λ(x6,b7)=>
 if x6 < (r2.length:Int) then
 aU r2 x6 λe10=>
 aA (fQ p0.table e10.el) λr11=>
 aA (bM (⟨p0.table,p0.vars,b7⟩:Collector) (⟨#[108,105,101]⟩:ByteArray) ([r11]:List Int)) λr12=>
 aA (
 if e10.pos=(1:Int) then
 aA (gM r12) λr18=>
 some (r18.op,r18.var,r18.args)
 else
 some (r12.op,r12.var,r12.args)) λ(c13,c14,c15)=>
 aA (hZ (⟨p0.table,p0.vars,b7⟩:Collector) p1 e10) λr19=>
 aA (gM r19) λr20=>
 aA (mN ([r20,(⟨c13,c14,c15⟩:Expr)]:List Expr)) λr21=>
 aA (dF (⟨p0.table,p0.vars,b7⟩:Collector) r21 (⟨#[108,105,101]⟩:ByteArray) ([p1,r11]:List Int)) λr22=>
 aB (I64 (x6+(1:Int))) <|
 some (.inl ((x6+(1:Int)),r22.list))
 else
 aJ (
 some (⟨p0.table,p0.vars,b7⟩:Collector))) ((0:Int),p0.list)
def gT (p0:Collector) (p1:Int):Option Collector:=
 aU p0.table.routes p1 λe1=>
 aA (
 aA (eY ([e1.sections,e1.overSections]:List (List Int))) λr4=>
 aT (λ(x8,b9)=>
 if x8 < (r4.length:Int) then
 aU r4 x8 λe12=>
 aA (bM p0 (⟨#[102,114,101,101]⟩:ByteArray) ([e12]:List Int)) λr13=>
 aB ((b9++([r13]:List Expr)).length≤1000000000) <|
 aB (I64 (x8+(1:Int))) <|
 some (.inl ((x8+(1:Int)),(b9++([r13]:List Expr))))
 else
 aJ (
 some b9)) ((0:Int),([]:List Expr))) λb2=>
 aA (
 aA (eU e1) λr19=>
 aT (λ(x23,b24)=>
 if x23 < (r19.length:Int) then
 aU r19 x23 λe27=>
 aA (
 if e27.pos=(2:Int) then
 some (⟨#[114,101,118,101,114,115,101]⟩:ByteArray)
 else
 some (⟨#[110,111,114,109,97,108]⟩:ByteArray)) λword28=>
 aA (fQ p0.table e27.el) λr31=>
 aA (bM p0 word28 ([r31]:List Int)) λr32=>
 aB ((b24++([r32]:List Expr)).length≤1000000000) <|
 aB (I64 (x23+(1:Int))) <|
 some (.inl ((x23+(1:Int)),(b24++([r32]:List Expr))))
 else
 aJ (
 some b24)) ((0:Int),b2)) λb17=>
 aA (bM p0 (⟨#[99,108,101,97,114]⟩:ByteArray) ([p1]:List Int)) λr36=>
 aA (gM r36) λr37=>
 aA (iB b17) λr38=>
 aA (mN ([r37,r38]:List Expr)) λr39=>
 aA (dF p0 r39 (⟨#[112,114,111,118,101,100]⟩:ByteArray) ([p1]:List Int)) λr40=>
 some (⟨p0.table,p0.vars,r40.list⟩:Collector)
def iW (p0:Collector) (p1:Int):Option Collector:=
 aA (
 aT (λ(x6,b7)=>
 if x6 < (4:Int) then
 aA (
 aU ([(⟨#[115,101,116]⟩:ByteArray),(⟨#[99,108,101,97,114]⟩:ByteArray),(⟨#[117,115,101,100]⟩:ByteArray),(⟨#[104,101,108,100]⟩:ByteArray)]:List ByteArray) x6 λe12=>
 aB (0≤(0:Int)∧(0:Int)≤x6∧x6≤4) <|
 aT (λ(x17,b18)=>
 if x17 < ((sub ([(⟨#[115,101,116]⟩:ByteArray),(⟨#[99,108,101,97,114]⟩:ByteArray),(⟨#[117,115,101,100]⟩:ByteArray),(⟨#[104,101,108,100]⟩:ByteArray)]:List ByteArray) (0:Int) x6).length:Int) then
 aU (sub ([(⟨#[115,101,116]⟩:ByteArray),(⟨#[99,108,101,97,114]⟩:ByteArray),(⟨#[117,115,101,100]⟩:ByteArray),(⟨#[104,101,108,100]⟩:ByteArray)]:List ByteArray) (0:Int) x6) x17 λe21=>
 aA (bM p0 e12 ([p1]:List Int)) λr22=>
 aA (bM p0 e21 ([p1]:List Int)) λr23=>
 aA (iB ([r22,r23]:List Expr)) λr24=>
 aA (gM r24) λr25=>
 aB ((b18++([r25]:List Expr)).length≤1000000000) <|
 aB (I64 (x17+(1:Int))) <|
 some (.inl ((x17+(1:Int)),(b18++([r25]:List Expr))))
 else
 aJ (
 some b18)) ((0:Int),b7)) λb10=>
 aB (I64 (x6+(1:Int))) <|
 some (.inl ((x6+(1:Int)),b10))
 else
 aJ (
 some b7)) ((0:Int),([]:List Expr))) λb1=>
 aA (iB b1) λr31=>
 aA (dF p0 r31 (⟨#[111,110,101]⟩:ByteArray) ([p1]:List Int)) λr32=>
 some (⟨p0.table,p0.vars,r32.list⟩:Collector)
def iN (p0:Collector) (p1:Int):Option Collector:=
 aA (
 aT (λ(k6,b7)=>
 aU p0.table.routes p1 λe9=>
 aB (I64 ((e9.sections.length:Int) - (1:Int))) <|
 if k6 < ((e9.sections.length:Int) - (1:Int)) then
 aA (bM p0 (⟨#[114,101,108]⟩:ByteArray) ([p1,k6]:List Int)) λr12=>
 aA (gM r12) λr13=>
 aB (I64 (k6 - (1:Int))) <|
 aA (bM p0 (⟨#[114,101,108]⟩:ByteArray) ([p1,(k6 - (1:Int))]:List Int)) λr15=>
 aA (mN ([r13,r15]:List Expr)) λr16=>
 aB ((b7++([r16]:List Expr)).length≤1000000000) <|
 aB (I64 (k6+(1:Int))) <|
 some (.inl ((k6+(1:Int)),(b7++([r16]:List Expr))))
 else
 aJ (
 some b7)) ((1:Int),([]:List Expr))) λb1=>
 aA (iB b1) λr20=>
 aA (dF p0 r20 (⟨#[114,101,108]⟩:ByteArray) ([p1]:List Int)) λr21=>
 some (⟨p0.table,p0.vars,r21.list⟩:Collector)
def uB (p0:Table):Option ((List Obligation)×Int):=
 aA (lU p0) λ(r2,r3)=>
 if r3=(0:Int) then
 aA (
 aT (λ(x10,b11)=>
 if x10 < (r2.names.length:Int) then
 aU r2.names x10 λe14=>
 aB (b11.map (·.1)).Nodup <|
 aB (I64 (x10+(1:Int))) <|
 some (.inl ((x10+(1:Int)),(qLZ b11 e14 x10)))
 else
 aJ (
 some b11)) ((0:Int),([]:List (ByteArray×Int)))) λm5=>
 aA (hU (⟨p0,m5,([]:List Obligation)⟩:Collector)) λr18=>
 aA (gA (⟨p0,m5,r18.list⟩:Collector)) λr19=>
 aA (
 aT (λ(x25,b26)=>
 if x25 < (p0.routes.length:Int) then
 aA (iO (⟨p0,m5,b26⟩:Collector) x25) λr29=>
 aB (I64 (x25+(1:Int))) <|
 some (.inl ((x25+(1:Int)),r29.list))
 else
 aJ (
 some b26)) ((0:Int),r19.list)) λb20=>
 aA (
 aT (λ(x37,b38)=>
 if x37 < (p0.routes.length:Int) then
 aA (gT (⟨p0,m5,b38⟩:Collector) x37) λr41=>
 aB (I64 (x37+(1:Int))) <|
 some (.inl ((x37+(1:Int)),r41.list))
 else
 aJ (
 some b38)) ((0:Int),b20)) λb32=>
 aA (
 aT (λ(x49,b50)=>
 if x49 < (p0.routes.length:Int) then
 aA (iW (⟨p0,m5,b50⟩:Collector) x49) λr53=>
 aB (I64 (x49+(1:Int))) <|
 some (.inl ((x49+(1:Int)),r53.list))
 else
 aJ (
 some b50)) ((0:Int),b32)) λb44=>
 aA (
 aT (λ(x61,b62)=>
 if x61 < (p0.routes.length:Int) then
 aA (iN (⟨p0,m5,b62⟩:Collector) x61) λr65=>
 aB (I64 (x61+(1:Int))) <|
 some (.inl ((x61+(1:Int)),r65.list))
 else
 aJ (
 some b62)) ((0:Int),b44)) λb56=>
 some (b56,(0:Int))
 else
 some (([]:List Obligation),r3)
def qC (p0:Int):Option Expr:=
 some (⟨(3:Int),p0,([]:List Expr)⟩:Expr)
def fL:Nat→Expr→Int→Int→Int→Option (Bool×Int)
 | 0,_,_,_,_=>none
 | fu+1,p0,p1,p2,p3=>
 if ((decide ((12:Int) < p2))||(decide (p3=(0:Int))))=true then
 some (false,p3)
 else
 aB (I64 (p3 - (1:Int))) <|
 cU (
 aA (
 if p0.op=(1:Int) then
 some (decide (p0.op=(1:Int)))
 else
 some (decide (p0.op=(2:Int)))) λx5=>
 if x5=true then
 aJ (
 some (((decide (p0.var=(0:Int)))&&(decide ((p0.args.length:Int)=(0:Int)))),(p3 - (1:Int))))
 else
 if p0.op=(3:Int) then
 aJ (
 some (((decide ((0:Int)≤p0.var))&&((decide (p0.var < p1))&&(decide ((p0.args.length:Int)=(0:Int))))),(p3 - (1:Int))))
 else
 if p0.op=(4:Int) then
 if (p0.args.length:Int)=(1:Int) then
 some (.inl ())
 else
 aJ (
 some (false,(p3 - (1:Int))))
 else
 if p0.op=(5:Int) then
 some (.inl ())
 else
 if p0.op=(6:Int) then
 some (.inl ())
 else
 aJ (
 some (false,(p3 - (1:Int))))) λ_=>
 if p0.var=(0:Int) then
 cU (
 aT (λ(x27,c28)=>
 if x27 < (p0.args.length:Int) then
 aU p0.args x27 λe31=>
 aB (I64 (p2+(1:Int))) <|
 aA ((fL fu) e31 p1 (p2+(1:Int)) c28) λ(r34,r35)=>
 if (!(r34))=true then
 aJ (
 aJ (
 some (false,r35)))
 else
 aB (I64 (x27+(1:Int))) <|
 some (.inl ((x27+(1:Int)),r35))
 else
 aJ (
 some (.inl c28))) ((0:Int),(p3 - (1:Int)))) λc22=>
 some (true,c22)
 else
 some (false,(p3 - (1:Int)))
def uF (p0:Expr) (p1:Int) (p2:Int) (p3:Int):Option (Bool×Int):=fL bJ p0 p1 p2 p3
def fX (p0:Expr) (p1:Int):Option Bool:=
 aA (uF p0 p1 (1:Int) (20000:Int)) λ(r2,r3)=>
 some r2
def jL (p0:Program) (p1:Rung):Option Bool:=
 cU (
 if p1.kind=(1:Int) then
 if p1.preset=(0:Int) then
 some (.inl ())
 else
 aJ (
 some false)
 else
 if p1.kind=(2:Int) then
 if ((decide (p1.preset < (1:Int)))||(decide ((1073741824:Int) < p1.preset)))=true then
 aJ (
 some false)
 else
 some (.inl ())
 else
 aJ (
 some false)) λ_=>
 aA (
 if p0.inputs≤p1.var then
 if p1.var < (p0.names.length:Int) then
 aA (fX p1.expr (p0.names.length:Int)) λr14=>
 some r14
 else
 some false
 else
 some false) λx10=>
 some x10
def mM (p0:Program):Option Int:=
 if (2000:Int) < (p0.names.length:Int) then
 some (2:Int)
 else
 if ((decide (p0.inputs < (0:Int)))||(decide ((p0.names.length:Int) < p0.inputs)))=true then
 some (1:Int)
 else
 cU (
 aT (λx6=>
 if x6 < (p0.rungs.length:Int) then
 aU p0.rungs x6 λe9=>
 aA (jL p0 e9) λr10=>
 if (!(r10))=true then
 aJ (
 aJ (
 some (1:Int)))
 else
 aB (I64 (x6+(1:Int))) <|
 some (.inl (x6+(1:Int)))
 else
 aJ (
 some (.inl ()))) (0:Int)) λ_=>
 aB (0≤(p0.names.length:Int)∧(p0.names.length:Int)≤1000000000) <|
 cU (
 aT (λ(x22,b23)=>
 if x22 < (p0.rungs.length:Int) then
 aU p0.rungs x22 λe26=>
 aU b23 e26.var λe27=>
 if e27=true then
 aJ (
 aJ (
 some (8:Int)))
 else
 aU b23 e26.var λe31=>
 aB (I64 (x22+(1:Int))) <|
 some (.inl ((x22+(1:Int)),(b23.set e26.var.toNat true)))
 else
 aJ (
 some (.inl b23))) ((0:Int),(List.replicate (p0.names.length:Int).toNat false))) λb17=>
 some (0:Int)
def gH:Nat→Expr→Option Expr
 | 0,_=>none
 | fu+1,p0=>
 aA (
 aT (λ(x6,b7)=>
 if x6 < (p0.args.length:Int) then
 aU p0.args x6 λe10=>
 aA ((gH fu) e10) λr11=>
 aB ((b7++([r11]:List Expr)).length≤1000000000) <|
 aB (I64 (x6+(1:Int))) <|
 some (.inl ((x6+(1:Int)),(b7++([r11]:List Expr))))
 else
 aJ (
 some b7)) ((0:Int),([]:List Expr))) λb1=>
 some (⟨p0.op,p0.var,b1⟩:Expr)
def nH (p0:Expr):Option Expr:=gH bJ p0
def iY:Nat→Expr→Option Expr
 | 0,_=>none
 | fu+1,p0=>
 aA (
 aT (λ(x6,b7)=>
 if x6 < (p0.args.length:Int) then
 aU p0.args x6 λe10=>
 aA (nH e10) λr11=>
 aB ((b7++([r11]:List Expr)).length≤1000000000) <|
 aB (I64 (x6+(1:Int))) <|
 some (.inl ((x6+(1:Int)),(b7++([r11]:List Expr))))
 else
 aJ (
 some b7)) ((0:Int),([]:List Expr))) λb1=>
 some (⟨p0.op,p0.var,b1⟩:Expr)
def mJ (p0:Expr):Option Expr:=iY bJ p0
def eX:Nat→Expr→Int→Expr→Option Expr
 | 0,_,_,_=>none
 | fu+1,p0,p1,p2=>
 if ((decide (p0.op=(3:Int)))&&(decide (p0.var=p1)))=true then
 aA (mJ p2) λr3=>
 some r3
 else
 aA (
 aT (λ(x9,b10)=>
 if x9 < (p0.args.length:Int) then
 aU p0.args x9 λe13=>
 aA ((eX fu) e13 p1 p2) λr14=>
 aB ((b10++([r14]:List Expr)).length≤1000000000) <|
 aB (I64 (x9+(1:Int))) <|
 some (.inl ((x9+(1:Int)),(b10++([r14]:List Expr))))
 else
 aJ (
 some b10)) ((0:Int),([]:List Expr))) λb4=>
 some (⟨p0.op,p0.var,b4⟩:Expr)
def gI (p0:Expr) (p1:Int) (p2:Expr):Option Expr:=eX bJ p0 p1 p2
def hO:Nat→Expr→Option Int
 | 0,_=>none
 | fu+1,p0=>
 aA (
 aT (λ(n5,x6)=>
 if x6 < (p0.args.length:Int) then
 aU p0.args x6 λe9=>
 aA ((hO fu) e9) λr10=>
 aB (I64 (n5+r10)) <|
 aB (I64 (x6+(1:Int))) <|
 some (.inl ((n5+r10),(x6+(1:Int))))
 else
 aJ (
 some n5)) ((1:Int),(0:Int))) λn1=>
 some n1
def jC (p0:Expr):Option Int:=hO bJ p0
def eJ:Nat→Expr→Int→Option Int
 | 0,_,_=>none
 | fu+1,p0,p1=>
 aA (
 if ((decide (p0.op=(3:Int)))&&(decide (p0.var=p1)))=true then
 some (1:Int)
 else
 some (0:Int)) λn1=>
 aA (
 aT (λ(n9,x10)=>
 if x10 < (p0.args.length:Int) then
 aU p0.args x10 λe13=>
 aA ((eJ fu) e13 p1) λr14=>
 aB (I64 (n9+r14)) <|
 aB (I64 (x10+(1:Int))) <|
 some (.inl ((n9+r14),(x10+(1:Int))))
 else
 aJ (
 some n9)) (n1,(0:Int))) λn5=>
 some n5
def iJ (p0:Expr) (p1:Int):Option Int:=eJ bJ p0 p1
def jM (p0:Program) (p1:Expr):Option (Expr×Int):=
 aA (
 aA (mM p0) λr3=>
 if r3=(0:Int) then
 aA (fX p1 (p0.names.length:Int)) λr5=>
 some (!(r5))
 else
 some true) λx1=>
 if x1=true then
 some ((⟨(0:Int),(0:Int),([]:List Expr)⟩:Expr),(1:Int))
 else
 aB (I64 ((p0.names.length:Int)+(p0.rungs.length:Int))) <|
 aA (gI p1 (-1:Int) (⟨(0:Int),(0:Int),([]:List Expr)⟩:Expr)) λr8=>
 cU (
 aB (I64 ((p0.rungs.length:Int) - (1:Int))) <|
 aT (λ(i19,c20,c21,c22)=>
 if (0:Int)≤i19 then
 aU p0.rungs i19 λe25=>
 aA (
 if e25.kind=(2:Int) then
 aB (I64 ((p0.names.length:Int)+i19)) <|
 some ((3:Int),((p0.names.length:Int)+i19),([]:List Expr))
 else
 some (e25.expr.op,e25.expr.var,e25.expr.args)) λ(c26,c27,c28)=>
 aA (jC (⟨c20,c21,c22⟩:Expr)) λr32=>
 aA (iJ (⟨c20,c21,c22⟩:Expr) e25.var) λr33=>
 aA (jC (⟨c26,c27,c28⟩:Expr)) λr34=>
 aB (I64 (r34 - (1:Int))) <|
 aB (I64 (r33 * (r34 - (1:Int)))) <|
 aB (I64 (r32+(r33 * (r34 - (1:Int))))) <|
 if (20000:Int) < (r32+(r33 * (r34 - (1:Int)))) then
 aJ (
 aJ (
 some ((⟨(0:Int),(0:Int),([]:List Expr)⟩:Expr),(2:Int))))
 else
 aA (gI (⟨c20,c21,c22⟩:Expr) e25.var (⟨c26,c27,c28⟩:Expr)) λr41=>
 aA (fX r41 ((p0.names.length:Int)+(p0.rungs.length:Int))) λr42=>
 if (!(r42))=true then
 aJ (
 aJ (
 some ((⟨(0:Int),(0:Int),([]:List Expr)⟩:Expr),(2:Int))))
 else
 aB (I64 (i19 - (1:Int))) <|
 some (.inl ((i19 - (1:Int)),r41.op,r41.var,r41.args))
 else
 aJ (
 some (.inl (c20,c21,c22)))) (((p0.rungs.length:Int) - (1:Int)),r8.op,r8.var,r8.args)) λ(c9,c10,c11)=>
 some ((⟨c9,c10,c11⟩:Expr),(0:Int))
def hR:Nat→Expr→Expr→Option Bool
 | 0,_,_=>none
 | fu+1,p0,p1=>
 if ((!(decide (p0.op=p1.op)))||((!(decide (p0.var=p1.var)))||(!(decide ((p0.args.length:Int)=(p1.args.length:Int))))))=true then
 some false
 else
 cU (
 aT (λi6=>
 if i6 < (p0.args.length:Int) then
 aU p0.args i6 λe9=>
 aU p1.args i6 λe10=>
 aA ((hR fu) e9 e10) λr11=>
 if (!(r11))=true then
 aJ (
 aJ (
 some false))
 else
 aB (I64 (i6+(1:Int))) <|
 some (.inl (i6+(1:Int)))
 else
 aJ (
 some (.inl ()))) (0:Int)) λ_=>
 some true
def kW (p0:Expr) (p1:Expr):Option Bool:=hR bJ p0 p1
def rV (p0:Expr):Option If_node:=
 if p0.op=(3:Int) then
 some (⟨200,p0⟩:If_node)
 else
 if p0.op=(4:Int) then
 if (0:Int) < (p0.args.length:Int) then
 some (⟨201,p0⟩:If_node)
 else
 some (⟨232,p0⟩:If_node)
 else
 if p0.op=(5:Int) then
 some (⟨202,p0⟩:If_node)
 else
 if p0.op=(6:Int) then
 some (⟨203,p0⟩:If_node)
 else
 some (⟨232,p0⟩:If_node)
def iX:Nat→Expr→(List Bool)→Option Bool
 | 0,_,_=>none
 | fu+1,p0,p1=>
 cU (
 aA (rV p0) λr2=>
 if r2.tid=200 then
 aA (
 if (0:Int)≤r2.e.var then
 if r2.e.var < (p1.length:Int) then
 aU p1 r2.e.var λe8=>
 some e8
 else
 some false
 else
 some false) λx4=>
 aJ (
 some x4)
 else
 if r2.tid=201 then
 aU r2.e.args (0:Int) λe11=>
 aA ((iX fu) e11 p1) λr12=>
 aJ (
 some (!(r12)))
 else
 if r2.tid=202 then
 cU (
 aT (λx17=>
 if x17 < (r2.e.args.length:Int) then
 aU r2.e.args x17 λe20=>
 aA ((iX fu) e20 p1) λr21=>
 if (!(r21))=true then
 aJ (
 aJ (
 aJ (
 some false)))
 else
 aB (I64 (x17+(1:Int))) <|
 some (.inl (x17+(1:Int)))
 else
 aJ (
 some (.inl ()))) (0:Int)) λ_=>
 aJ (
 some true)
 else
 if r2.tid=203 then
 cU (
 aT (λx32=>
 if x32 < (r2.e.args.length:Int) then
 aU r2.e.args x32 λe35=>
 aA ((iX fu) e35 p1) λr36=>
 if r36=true then
 aJ (
 aJ (
 aJ (
 some true)))
 else
 aB (I64 (x32+(1:Int))) <|
 some (.inl (x32+(1:Int)))
 else
 aJ (
 some (.inl ()))) (0:Int)) λ_=>
 aJ (
 some false)
 else
 some (.inl ())) λ_=>
 some (decide (p0.op=(2:Int)))
def qBV (p0:Expr) (p1:(List Bool)):Option Bool:=iX bJ p0 p1
def wI (p0:Expr) (p1:(List Bool)):Option Bool:=
 aA (qBV p0 p1) λr1=>
 some r1
def lR (p0:Obligation) (p1:Machine):Option Bool:=
 aA (wI p0.expr p1.vars) λr1=>
 some (!(r1))
def fK (p0:(List Obligation)) (p1:Obligation→Option Bool):Option Int:=
 cU (
 aT (λx3=>
 if x3 < (p0.length:Int) then
 aU p0 x3 λe6=>
 aA (p1 e6) λr7=>
 if r7=true then
 aJ (
 aJ (
 some x3))
 else
 aB (I64 (x3+(1:Int))) <|
 some (.inl (x3+(1:Int)))
 else
 aJ (
 some (.inl ()))) (0:Int)) λ_=>
 some (-1:Int)
def pZ (p0:(List Obligation)) (p1:Machine):Option Int:=
 aA (fK p0 (λa0=>lR a0 p1)) λr1=>
 some r1
def jU (p0:Program) (p1:Expr):Option (Expr×Int):=
 aA (
 aA (mM p0) λr3=>
 if r3=(0:Int) then
 aA (fX p1 (p0.names.length:Int)) λr5=>
 some (!(r5))
 else
 some true) λx1=>
 if x1=true then
 some ((⟨(0:Int),(0:Int),([]:List Expr)⟩:Expr),(1:Int))
 else
 aB (I64 ((p0.names.length:Int)+(p0.rungs.length:Int))) <|
 aA (gI p1 (-1:Int) (⟨(0:Int),(0:Int),([]:List Expr)⟩:Expr)) λr8=>
 cU (
 aB (I64 ((p0.rungs.length:Int) - (1:Int))) <|
 aT (λ(i19,c20,c21,c22)=>
 if (0:Int)≤i19 then
 aU p0.rungs i19 λe25=>
 aA (
 if e25.kind=(2:Int) then
 aB (I64 ((p0.names.length:Int)+i19)) <|
 some ((3:Int),((p0.names.length:Int)+i19),([]:List Expr))
 else
 some (e25.expr.op,e25.expr.var,e25.expr.args)) λ(c26,c27,c28)=>
 aA (jC (⟨c20,c21,c22⟩:Expr)) λr32=>
 aA (iJ (⟨c20,c21,c22⟩:Expr) e25.var) λr33=>
 aA (jC (⟨c26,c27,c28⟩:Expr)) λr34=>
 aB (I64 (r34 - (1:Int))) <|
 aB (I64 (r33 * (r34 - (1:Int)))) <|
 aB (I64 (r32+(r33 * (r34 - (1:Int))))) <|
 if (20000:Int) < (r32+(r33 * (r34 - (1:Int)))) then
 aJ (
 aJ (
 some ((⟨(0:Int),(0:Int),([]:List Expr)⟩:Expr),(2:Int))))
 else
 aA (gI (⟨c20,c21,c22⟩:Expr) e25.var (⟨c26,c27,c28⟩:Expr)) λr41=>
 aA (fX r41 ((p0.names.length:Int)+(p0.rungs.length:Int))) λr42=>
 if (!(r42))=true then
 aJ (
 aJ (
 some ((⟨(0:Int),(0:Int),([]:List Expr)⟩:Expr),(2:Int))))
 else
 aB (I64 (i19 - (1:Int))) <|
 some (.inl ((i19 - (1:Int)),r41.op,r41.var,r41.args))
 else
 aJ (
 some (.inl (c20,c21,c22)))) (((p0.rungs.length:Int) - (1:Int)),r8.op,r8.var,r8.args)) λ(c9,c10,c11)=>
 some ((⟨c9,c10,c11⟩:Expr),(0:Int))
def lO:Option Bool:=
 aA (uD) λr1=>
 aA (qZ r1) λ(r3,r4)=>
 aA (uB r3) λ(r6,r7)=>
 aA (qC (0:Int)) λr8=>
 aA (qC (1:Int)) λr9=>
 aA (jU (⟨([(⟨#[97]⟩:ByteArray),(⟨#[98]⟩:ByteArray)]:List ByteArray),(1:Int),([(⟨(1:Int),(1:Int),(0:Int),r8⟩:Rung)]:List Rung)⟩:Program) r9) λ(r11,r12)=>
 aU ([(⟨(1:Int),(1:Int),(0:Int),r8⟩:Rung)]:List Rung) (0:Int) λe13=>
 aU (([(⟨(1:Int),(1:Int),(0:Int),r8⟩:Rung)]:List Rung).set (0:Int).toNat (⟨(2:Int),e13.var,e13.preset,e13.expr⟩:Rung)) (0:Int) λe14=>
 aA (qC (1:Int)) λr15=>
 aA (jU (⟨([(⟨#[97]⟩:ByteArray),(⟨#[98]⟩:ByteArray)]:List ByteArray),(1:Int),((([(⟨(1:Int),(1:Int),(0:Int),r8⟩:Rung)]:List Rung).set (0:Int).toNat (⟨(2:Int),e13.var,e13.preset,e13.expr⟩:Rung)).set (0:Int).toNat (⟨e14.kind,e14.var,(2:Int),e14.expr⟩:Rung))⟩:Program) r15) λ(r17,r18)=>
 aA (
 if r7=(0:Int) then
 if (r6.length:Int)=(6:Int) then
 aU r6 (0:Int) λe23=>
 if e23.name=(⟨#[112,114,111,118,101,100,32,48]⟩:ByteArray) then
 aU r6 (5:Int) λe25=>
 if e25.name=(⟨#[114,101,108,32,49]⟩:ByteArray) then
 if r12=(0:Int) then
 aA (qC (0:Int)) λr28=>
 aA (kW r11 r28) λr29=>
 if r29=true then
 if r18=(0:Int) then
 aA (qC (2:Int)) λr32=>
 aA (kW r17 r32) λr33=>
 if r33=true then
 aA (pZ r6 (⟨([]:List Bool),([]:List Int),false⟩:Machine)) λr35=>
 some (decide (r35=(-1:Int)))
 else
 some false
 else
 some false
 else
 some false
 else
 some false
 else
 some false
 else
 some false
 else
 some false
 else
 some false) λx19=>
 some x19
def uO (p0:Int):Option Expr:=
 some (⟨(3:Int),p0,([]:List Expr)⟩:Expr)
def hP:Nat→Expr→Option Int
 | 0,_=>none
 | fu+1,p0=>
 aA (
 aT (λ(n5,i6)=>
 if i6 < (p0.args.length:Int) then
 aU p0.args i6 λe9=>
 aA ((hP fu) e9) λr10=>
 aB (I64 (n5+r10)) <|
 aB (I64 (i6+(1:Int))) <|
 some (.inl ((n5+r10),(i6+(1:Int))))
 else
 aJ (
 some n5)) ((1:Int),(0:Int))) λn1=>
 some n1
def fW (p0:Expr):Option Int:=hP bJ p0
def gJ:Nat→Expr→Option Int
 | 0,_=>none
 | fu+1,p0=>
 aA (
 aT (λ(d5,i6)=>
 if i6 < (p0.args.length:Int) then
 aU p0.args i6 λe9=>
 aA ((gJ fu) e9) λr10=>
 aB (I64 (i6+(1:Int))) <|
 some (.inl ((max d5 r10),(i6+(1:Int))))
 else
 aJ (
 some d5)) ((0:Int),(0:Int))) λd1=>
 aB (I64 (d1+(1:Int))) <|
 some (d1+(1:Int))
def nX (p0:Expr):Option Int:=gJ bJ p0
def gE:Nat→Expr→Int→Option Bool
 | 0,_,_=>none
 | fu+1,p0,p1=>
 cU (
 aA (
 if p0.op=(1:Int) then
 some (decide (p0.op=(1:Int)))
 else
 some (decide (p0.op=(2:Int)))) λx2=>
 if x2=true then
 aJ (
 some ((decide (p0.var=(0:Int)))&&(decide ((p0.args.length:Int)=(0:Int)))))
 else
 if p0.op=(3:Int) then
 aJ (
 some ((decide ((0:Int)≤p0.var))&&((decide (p0.var < p1))&&(decide ((p0.args.length:Int)=(0:Int))))))
 else
 if p0.op=(4:Int) then
 if (p0.args.length:Int)=(1:Int) then
 some (.inl ())
 else
 aJ (
 some false)
 else
 if p0.op=(5:Int) then
 some (.inl ())
 else
 if p0.op=(6:Int) then
 some (.inl ())
 else
 aJ (
 some false)) λ_=>
 cU (
 aT (λi20=>
 if i20 < (p0.args.length:Int) then
 aU p0.args i20 λe23=>
 aA ((gE fu) e23 p1) λr24=>
 if (!(r24))=true then
 aJ (
 aJ (
 some false))
 else
 aB (I64 (i20+(1:Int))) <|
 some (.inl (i20+(1:Int)))
 else
 aJ (
 some (.inl ()))) (0:Int)) λ_=>
 some (decide (p0.var=(0:Int)))
def pP (p0:Expr) (p1:Int):Option Bool:=gE bJ p0 p1
def iT (p0:Expr) (p1:Int):Option Bool:=
 aA (
 aA (fW p0) λr3=>
 if r3≤(20000:Int) then
 aA (nX p0) λr5=>
 if r5≤(12:Int) then
 aA (pP p0 p1) λr7=>
 some r7
 else
 some false
 else
 some false) λx1=>
 some x1
def lN (p0:Program) (p1:Expr):Option Bool:=
 aA (fW p1) λr1=>
 aA (
 aT (λ(n6,x7)=>
 if x7 < (p0.rungs.length:Int) then
 aU p0.rungs x7 λe10=>
 aA (fW e10.expr) λr11=>
 aB (I64 (n6+r11)) <|
 aB (I64 (x7+(1:Int))) <|
 some (.inl ((n6+r11),(x7+(1:Int))))
 else
 aJ (
 some n6)) (r1,(0:Int))) λn2=>
 some ((decide ((p0.names.length:Int)≤(2100:Int)))&&((decide ((p0.rungs.length:Int)≤(60:Int)))&&(decide (n2≤(2000:Int)))))
def nA (p0:Program) (p1:Rung):Option Bool:=
 if (bif !(decide (p1.kind=(1:Int))) then ((!(decide (p1.kind=(2:Int))))||((decide (p1.var < p0.inputs))||(decide ((p0.names.length:Int)≤p1.var)))) else ((decide (p1.var < p0.inputs))||(decide ((p0.names.length:Int)≤p1.var))))=true then
 some false
 else
 if (bif decide (p1.kind=(1:Int)) then ((!(decide (p1.preset=(0:Int))))||((decide (p1.kind=(2:Int)))&&((decide (p1.preset < (1:Int)))||(decide ((1073741824:Int) < p1.preset))))) else ((decide (p1.kind=(2:Int)))&&((decide (p1.preset < (1:Int)))||(decide ((1073741824:Int) < p1.preset)))))=true then
 some false
 else
 aA (iT p1.expr (p0.names.length:Int)) λr13=>
 some r13
def lL (p0:Program):Option Int:=
 if (2000:Int) < (p0.names.length:Int) then
 some (2:Int)
 else
 if ((decide (p0.inputs < (0:Int)))||(decide ((p0.names.length:Int) < p0.inputs)))=true then
 some (1:Int)
 else
 cU (
 aT (λi6=>
 if i6 < (p0.rungs.length:Int) then
 aU p0.rungs i6 λe9=>
 aA (nA p0 e9) λr10=>
 if (!(r10))=true then
 aJ (
 aJ (
 some (1:Int)))
 else
 aB (I64 (i6+(1:Int))) <|
 some (.inl (i6+(1:Int)))
 else
 aJ (
 some (.inl ()))) (0:Int)) λ_=>
 cU (
 aT (λi18=>
 if i18 < (p0.rungs.length:Int) then
 cU (
 aT (λk23=>
 if k23 < i18 then
 aU p0.rungs k23 λe26=>
 aU p0.rungs i18 λe27=>
 if e26.var=e27.var then
 aJ (
 aJ (
 aJ (
 aJ (
 some (8:Int)))))
 else
 aB (I64 (k23+(1:Int))) <|
 some (.inl (k23+(1:Int)))
 else
 aJ (
 some (.inl ()))) (0:Int)) λ_=>
 aB (I64 (i18+(1:Int))) <|
 some (.inl (i18+(1:Int)))
 else
 aJ (
 some (.inl ()))) (0:Int)) λ_=>
 some (0:Int)
def fR:Nat→Expr→Int→Option Int
 | 0,_,_=>none
 | fu+1,p0,p1=>
 aA (
 if ((decide (p0.op=(3:Int)))&&(decide (p0.var=p1)))=true then
 some (1:Int)
 else
 some (0:Int)) λsum1=>
 aA (
 aT (λ(sum9,x10)=>
 if x10 < (p0.args.length:Int) then
 aU p0.args x10 λe13=>
 aA ((fR fu) e13 p1) λr14=>
 aB (I64 (sum9+r14)) <|
 aB (I64 (x10+(1:Int))) <|
 some (.inl ((sum9+r14),(x10+(1:Int))))
 else
 aJ (
 some sum9)) (sum1,(0:Int))) λsum5=>
 some sum5
def lK (p0:Expr) (p1:Int):Option Int:=fR bJ p0 p1
def eI:Nat→Expr→Int→Expr→Option Expr
 | 0,_,_,_=>none
 | fu+1,p0,p1,p2=>
 if ((decide (p0.op=(3:Int)))&&(decide (p0.var=p1)))=true then
 some p2
 else
 aA (
 aT (λ(i8,b9)=>
 if i8 < (p0.args.length:Int) then
 aU p0.args i8 λe12=>
 aA ((eI fu) e12 p1 p2) λr13=>
 aB ((b9++([r13]:List Expr)).length≤1000000000) <|
 aB (I64 (i8+(1:Int))) <|
 some (.inl ((i8+(1:Int)),(b9++([r13]:List Expr))))
 else
 aJ (
 some b9)) ((0:Int),([]:List Expr))) λb3=>
 some (⟨p0.op,p0.var,b3⟩:Expr)
def jK (p0:Expr) (p1:Int) (p2:Expr):Option Expr:=eI bJ p0 p1 p2
def kI (p0:Program) (p1:Expr):Option (Expr×Int):=
 aA (
 aA (lL p0) λr3=>
 if r3=(0:Int) then
 aA (iT p1 (p0.names.length:Int)) λr5=>
 some (!(r5))
 else
 some true) λx1=>
 if x1=true then
 some ((⟨(0:Int),(0:Int),([]:List Expr)⟩:Expr),(1:Int))
 else
 cU (
 aB (I64 ((p0.rungs.length:Int) - (1:Int))) <|
 aT (λ(i17,c18,c19,c20)=>
 if (0:Int)≤i17 then
 aB (I64 ((p0.names.length:Int)+i17)) <|
 aA (uO ((p0.names.length:Int)+i17)) λr24=>
 aA (
 aU p0.rungs i17 λe29=>
 if e29.kind=(1:Int) then
 aU p0.rungs i17 λe31=>
 some (e31.expr.op,e31.expr.var,e31.expr.args)
 else
 some (r24.op,r24.var,r24.args)) λ(c25,c26,c27)=>
 aA (fW (⟨c18,c19,c20⟩:Expr)) λr32=>
 aU p0.rungs i17 λe33=>
 aA (lK (⟨c18,c19,c20⟩:Expr) e33.var) λr34=>
 aA (fW (⟨c25,c26,c27⟩:Expr)) λr35=>
 aB (I64 (r35 - (1:Int))) <|
 aB (I64 (r34 * (r35 - (1:Int)))) <|
 aB (I64 (r32+(r34 * (r35 - (1:Int))))) <|
 if (20000:Int) < (r32+(r34 * (r35 - (1:Int)))) then
 aJ (
 aJ (
 some ((⟨(0:Int),(0:Int),([]:List Expr)⟩:Expr),(2:Int))))
 else
 aU p0.rungs i17 λe42=>
 aA (jK (⟨c18,c19,c20⟩:Expr) e42.var (⟨c25,c26,c27⟩:Expr)) λr43=>
 aB (I64 (i17 - (1:Int))) <|
 some (.inl ((i17 - (1:Int)),r43.op,r43.var,r43.args))
 else
 aJ (
 some (.inl (c18,c19,c20)))) (((p0.rungs.length:Int) - (1:Int)),p1.op,p1.var,p1.args)) λ(c7,c8,c9)=>
 aB (I64 ((p0.names.length:Int)+(p0.rungs.length:Int))) <|
 aA (iT (⟨c7,c8,c9⟩:Expr) ((p0.names.length:Int)+(p0.rungs.length:Int))) λr47=>
 if (!(r47))=true then
 some ((⟨(0:Int),(0:Int),([]:List Expr)⟩:Expr),(2:Int))
 else
 some ((⟨c7,c8,c9⟩:Expr),(0:Int))
def iC (p0:Program) (p1:Expr):Option Bool:=
 aA (lN p0 p1) λr1=>
 if (!(r1))=true then
 aA (lO) λr3=>
 some r3
 else
 aA (jM p0 p1) λ(r5,r6)=>
 aA (kI p0 p1) λ(r8,r9)=>
 aA (
 if r6=r9 then
 aA (kW r5 r8) λr13=>
 if r13=true then
 aA (lO) λr15=>
 some r15
 else
 some false
 else
 some false) λx10=>
 some x10
@[simp] theorem bF {α:Type} {p:Prop} [Decidable p] {k:Option α} (h:p):aB p k=k:=if_pos h
@[simp] theorem aN {α β:Type} (a:α) (k:α→Option β):aA (some a) k=k a:=rfl
@[simp] theorem eH {α β:Type} (a:α) (k:α→Option β):cU (some (.inl a)) k=k a:=rfl
@[simp] theorem eA {α β:Type} (b:β) (k:α→Option β):cU (some (.inr b)) k=some b:=rfl
@[simp] theorem fV {α β:Type} (b:β):(aJ (some b):Option (α ⊕ β))=some (.inr b):=rfl
theorem fZ {α β:Type} {l:List α} {i:Nat} {e:α} {k:α→Option β} (h:l[i]?=some e):aU l (i:Int) k=k e:=by simp [aU,h]
theorem qFR {α β:Type} {l:List α} {i:Int} {e:α} {k:α→Option β} (h0:0≤i) (h:l[i.toNat]?=some e):aU l i k=k e:=by simp [aU,h0,h]
@[simp] theorem ite_bindM {α β:Type} {p:Prop} [Decidable p] (a b:α) (k:α→Option β):aA (if p then some a else some b) k=k (if p then a else b):=by split<;>rfl
variable {σ ρ:Type}
theorem qFO {f:σ→Option (σ ⊕ ρ)} (B:Nat→σ) {o:ρ}:∀ (n k:Nat),(∀ i,k≤i→i < k+n→f (B i)=some (.inl (B (i+1))))→f (B (k+n))=some (.inr o)→kT f (n+1) (B k)=some o
 | 0,k,_,he=>by simp only [Nat.add_zero] at he;simp [kT,he]
 | n+1,k,hf,he=>by
  simp only [kT];rw [hf k (zQW _) (by omega)];exact qFO B n (k+1) (λi h1 h2=>hf i (by omega) (by omega)) (by rw [show k+1+n=k+(n+1) by omega];exact he)
theorem qA {f:σ→Option (σ ⊕ ρ)} (B:Nat→σ) (n:Nat) {o:ρ} {s:σ} (hs:s=B 0) (hn:n≤9223372036854775807) (hf:∀ i,i < n→f (B i)=some (.inl (B (i+1)))) (he:f (B n)=some (.inr o)):aT f s=some o:=by
 subst hs;exact rR (qFO B n 0 (λi _ h=>hf i (by omega)) (by rw [Nat.zero_add];exact he)) (by unfold bJ;omega)
theorem qFH {f : Int → Option (Int ⊕ ρ)} (n : Nat) (c : Nat → Option ρ) (o : ρ) (hn : n ≤ 9223372036854775807) (hf : ∀ i, i < n → f (i : Int) = match c i with
  | some r => some (.inr r)
  | none => some (.inl ((i : Int) + 1))) (he : f (n : Int) = some (.inr o)) : aT f 0 = some (((List.range n).findSome? c).getD o) := by
 cases h:(List.range n).findSome? c with
 | none=>
  rw [List.findSome?_eq_none_iff] at h;refine qA (λi=>(i:Int)) n rfl hn (λi hi=>?_) he;rw [hf i hi,h i (List.mem_range.2 hi)];rfl
 | some r=>
  rw [List.findSome?_eq_some_iff] at h;obtain⟨l1,a,l2,h1,h2,h3⟩:=h
  have ha:l1.length=a∧a < n:=by
   have hlen:l1.length < (List.range n).length:=by rw [h1];simp
   have:(List.range n)[l1.length]?=some a:=by rw [h1];simp
   simp only [List.length_range] at hlen;simp [hlen] at this;exact⟨this,by omega⟩
  obtain⟨ha1,ha2⟩:=ha;refine qA (λi=>(i:Int)) a rfl (by omega) (λi hi=>?_) ?_
  ·have hm:i∈l1:=by
    have:(List.range n)[i]?=some i:=List.getElem?_range (by omega);rw [h1,List.getElem?_append_left (by omega)] at this;exact zQM this
   rw [hf i (by omega),h3 i hm];rfl
  rw [hf a ha2,h2];rfl
theorem zL {α β:Type} (l:List α) (c:Nat→Option β) (d:α→Option β) (h:∀ (i:Nat) (e:α),l[i]?=some e→c i=d e):(List.range l.length).findSome? c=l.findSome? d:=by
 induction l generalizing c with
 | nil=>rfl
 | cons x r ih=>
  rw [List.length_cons,List.range_succ_eq_map,List.findSome?_cons,List.findSome?_map,List.findSome?_cons,h 0 x rfl]
  cases d x with
  | some b=>rfl
  | none=>exact ih (c ∘ Nat.succ) λi e he=>h (i+1) e (by simpa using he)
theorem qKA {α : Type} {f : Int → Option (Int ⊕ ρ)} (l : List α) (d : α → Option ρ) (o : ρ) (hn : l.length ≤ 9223372036854775807) (hf : ∀ (i : Nat) (e : α), l[i]? = some e → f (i : Int) = match d e with
  | some r => some (.inr r)
  | none => some (.inl ((i : Int) + 1))) (he : f (l.length : Int) = some (.inr o)) : aT f 0 = some ((l.findSome? d).getD o) := by
 rw [qFH l.length (λi=>(l[i]?).bind d) o hn (λi hi=>?_) he,zL l _ d (λi e he=>by simp [he])];rw [hf i l[i] (by simp),zQR hi];rfl
theorem vD {α β:Type} (l:List α) (c:α→Bool) (v:β):l.findSome? (λe=>if c e=true then some v else none)=if l.any c=true then some v else none:=by
 induction l with
 | nil=>rfl
 | cons x r ih=>
  rw [List.findSome?_cons,List.any_cons,ih];cases c x<;>simp
theorem rQ {α:Type} {f:Int→Option (Int ⊕ ρ)} (l:List α) (c:α→Bool) (v o:ρ) (hn:l.length≤9223372036854775807) (hf:∀ (i:Nat) (e:α),l[i]?=some e→f (i:Int)=if c e=true then some (.inr v) else some (.inl ((i:Int)+1))) (he:f (l.length:Int)=some (.inr o)):aT f 0=some (if l.any c=true then v else o):=by
 rw [qKA l (λe=>if c e=true then some v else none) o hn (λi e h=>by rw [hf i e h];cases c e<;>simp) he,vD];split<;>rfl
theorem qKB {f:Int→Option (Int ⊕ ρ)} (n:Nat) (c:Nat→Bool) (v o:ρ) (hn:n≤9223372036854775807) (hf:∀ i,i < n→f (i:Int)=if c i=true then some (.inr v) else some (.inl ((i:Int)+1))) (he:f (n:Int)=some (.inr o)):aT f 0=some (if (List.range n).any c=true then v else o):=by
 rw [qFH n (λe=>if c e=true then some v else none) o hn (λi h=>by rw [hf i h];cases c i<;>simp) he,vD];split<;>rfl
theorem qFI {β:Type} {f:Int×β→Option ((Int×β) ⊕ ρ)} (n:Nat) (B:Nat→β) {o:ρ} {b:β} (hb:b=B 0) (hn:n≤9223372036854775807) (hf:∀ i,i < n→f ((i:Int),B i)=some (.inl ((i:Int)+1,B (i+1)))) (he:f ((n:Int),B n)=some (.inr o)):aT f (0,b)=some o:=
 qA (λi=>((i:Int),B i)) n (by rw [hb];rfl) hn (λi hi=>by rw [hf i hi];rfl) he
theorem qKC {β:Type} {f:Int×β→Option ((Int×β) ⊕ ρ)} (n:Nat) (B:Nat→β) (c:Nat→Bool) (v o:ρ) {b:β} (hb:b=B 0) (hn:n≤9223372036854775807) (hf:∀ i,i < n→(∀ j,j < i→c j=false)→f ((i:Int),B i)=if c i=true then some (.inr v) else some (.inl ((i:Int)+1,B (i+1)))) (he:(∀ j,j < n→c j=false)→f ((n:Int),B n)=some (.inr o)):aT f (0,b)=some (if (List.range n).any c=true then v else o):=by
 cases h:(List.range n).findIdx? c with
 | none=>
  rw [List.findIdx?_eq_none_iff] at h;have hall:∀ j,j < n→c j=false:=λj hj=>by simpa using h j (List.mem_range.2 hj)
  have hno:¬ (List.range n).any c=true:=by
   rw [zQU];rintro⟨j,hj,hc⟩;rw [hall j (List.mem_range.1 hj)] at hc;cases hc
  rw [if_neg hno];exact qFI n B hb hn (λi hi=>by rw [hf i hi (λj hj=>hall j (by omega)),hall i hi];rfl) (he hall)
 | some k=>
  rw [List.findIdx?_eq_some_iff_getElem] at h;obtain⟨hk,h1,h2⟩:=h;simp only [List.length_range] at hk;simp only [List.getElem_range] at h1;have hb':∀ j,j < k→c j=false:=λj hj=>by have:=h2 j hj;simpa using this
  have hyes:(List.range n).any c=true:=zQU.2 ⟨k,List.mem_range.2 hk,h1⟩;rw [if_pos hyes];exact qFI k B hb (by omega) (λi hi=>by rw [hf i (by omega) (λj hj=>hb' j (by omega)),hb' i hi];rfl) (by rw [hf k hk hb',h1];rfl)
theorem vB {i n:Nat} (h:i < n) (hn:n≤9223372036854775807):I64 ((i:Int)+1):=by unfold I64;omega
def sgn (x y:Int):Int:=if x < y then -1 else if y < x then 1 else 0
theorem qHL (x y:Int):gD x y=some (sgn x y):=by
 simp only [gD,jR,decide_true,Bool.not_true,aN,Bool.false_eq_true,if_false,sgn];split
 ·rfl
 split<;>rfl
theorem or_eq (x y:Int):nM [x,y]=some (if x=0 then y else x):=by
 unfold nM;by_cases hx:x=0
 ·by_cases hy:y=0
  ·rw [rR (n := 3) (r := (.inl () : Unit ⊕ Int)) (by simp [kT, aU, aB, I64, hx, hy, aJ]) (by decide)];simp [cU,hx,hy]
  rw [rR (n := 3) (r := (.inr y : Unit ⊕ Int)) (by simp [kT, aU, aB, I64, hx, hy, aJ]) (by decide)];simp [cU,hx]
 rw [rR (n := 3) (r := (.inr x : Unit ⊕ Int)) (by simp [kT, aU, aB, I64, hx, aJ]) (by decide)];simp [cU,hx]
theorem qV (x y:Setting):cY x y=some (if sgn x.el y.el=0 then sgn x.pos y.pos else sgn x.el y.el):=by
 simp only [cY,qHL,aN,or_eq]
theorem pM:SortOk cY:=by
 have hl:∀ x y,ltM cY x y=decide (x.el < y.el∨x.el=y.el∧x.pos < y.pos):=by
  intro x y;simp only [ltM,qV,Option.getD_some,sgn];rw [decide_eq_decide];split<;>split<;>(try split)<;>(try split)<;>omega
 refine⟨λx y=>⟨_,qV x y⟩,λx=>?_,λx y z h1 h2=>?_,λx y z h1 h2=>?_,λx y h1 h2=>?_⟩
 ·rw [hl];simp
 ·rw [hl,decide_eq_true_eq] at *; omega
 ·rw [hl,decide_eq_false_iff_not] at *; omega
 rw [hl,decide_eq_false_iff_not] at *;obtain⟨a,b⟩:=x;obtain⟨c,d⟩:=y;simp only at h1 h2;have h3:a=c:=by omega
 have h4:b=d:=by omega
 rw [h3,h4]
end Go.Proofs.YtldaknhjmhlefaaGreatDoor
