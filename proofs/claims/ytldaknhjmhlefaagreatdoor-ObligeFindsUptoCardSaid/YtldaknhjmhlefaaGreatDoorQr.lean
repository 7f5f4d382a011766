/- Texts of this proof, joined, without what it does not use. No condition. -/
import Derived.Lib.ItoaNum
import Derived.Test.YtldaknhjmhlefaaGreatDoorQq

set_option maxHeartbeats 8000000
set_option linter.unusedSimpArgs false
set_option linter.unusedVariables false
set_option maxRecDepth 20000
namespace Go.Proofs.YtldaknhjmhlefaaGreatDoor
open Go Go.TL
def vQ (p0:Table):Option Bool:=
 if ((decide ((80:Int) < (p0.routes.length:Int)))||((decide ((80:Int) < (p0.points.length:Int)))||(decide ((80:Int) < (p0.homes.length:Int)))))=true then
 some false
 else
 cR (
 aQ (λx6=>
 if x6 < (p0.routes.length:Int) then
 aT p0.routes x6 λe9=>
 if ((decide ((80:Int) < (e9.path.length:Int)))||((decide ((80:Int) < (e9.points.length:Int)))||((decide ((80:Int) < (e9.sections.length:Int)))||((decide ((80:Int) < (e9.over.length:Int)))||((decide ((80:Int) < (e9.overPoints.length:Int)))||((decide ((80:Int) < (e9.overSections.length:Int)))||((decide ((80:Int) < (e9.flank.length:Int)))||((decide ((80:Int) < (e9.guards.length:Int)))||(decide ((80:Int) < (e9.gaps.length:Int)))))))))))=true then
 aI (
 aI (
 some false))
 else
 aD (I64 (x6+(1:Int))) <|
 some (.inl (x6+(1:Int)))
 else
 aI (
 some (.inl ()))) (0:Int)) λ_=>
 some true
def nE (p0:Table):Option Bool:=
 aB (
 aB (vQ p0) λr3=>
 if r3=true then
 some (decide ((p0.routes.length:Int)≤(14:Int)))
 else
 some false) λx1=>
 some x1
def xQ:Option Layout:=
 aB (
 aQ (λ(x6,b7)=>
 if x6 < (([(⟨#[97]⟩:ByteArray),(⟨#[98]⟩:ByteArray),(⟨#[99]⟩:ByteArray)]:List ByteArray).length:Int) then
 aT ([(⟨#[97]⟩:ByteArray),(⟨#[98]⟩:ByteArray),(⟨#[99]⟩:ByteArray)]:List ByteArray) x6 λe10=>
 aD ((b7++([(⟨e10,(1:Int),(20000:Int),(0:Int),(3000:Int),(0:Int),x6⟩:Element)]:List Element)).length≤1000000000) <|
 aD (I64 (x6+(1:Int))) <|
 some (.inl ((x6+(1:Int)),(b7++([(⟨e10,(1:Int),(20000:Int),(0:Int),(3000:Int),(0:Int),x6⟩:Element)]:List Element))))
 else
 aI (
 some b7)) ((0:Int),([]:List Element))) λb1=>
 some (⟨(⟨#[108,105,110,101]⟩:ByteArray),([(⟨#[120]⟩:ByteArray),(⟨#[121]⟩:ByteArray),(⟨#[122]⟩:ByteArray)]:List ByteArray),b1,([(⟨(⟨(0:Int),(1:Int)⟩:End),(⟨(1:Int),(0:Int)⟩:End)⟩:Joint),(⟨(⟨(1:Int),(1:Int)⟩:End),(⟨(2:Int),(0:Int)⟩:End)⟩:Joint)]:List Joint),([(⟨(⟨#[115,49]⟩:ByteArray),(⟨(0:Int),(1:Int)⟩:End),(0:Int)⟩:Signal),(⟨(⟨#[115,50]⟩:ByteArray),(⟨(1:Int),(1:Int)⟩:End),(0:Int)⟩:Signal)]:List Signal),([]:List Balise)⟩:Layout)
def tX (p0:Layout):Option A3_string:=
 aD ((([]:List ByteArray)++p0.sections).length≤1000000000) <|
 aB (
 aQ (λ(x7,b8)=>
 if x7 < (p0.elements.length:Int) then
 aT p0.elements x7 λe11=>
 aD ((b8++([e11.name]:List ByteArray)).length≤1000000000) <|
 aD (I64 (x7+(1:Int))) <|
 some (.inl ((x7+(1:Int)),(b8++([e11.name]:List ByteArray))))
 else
 aI (
 some b8)) ((0:Int),([]:List ByteArray))) λb2=>
 aB (
 aQ (λ(x20,b21)=>
 if x20 < (p0.signals.length:Int) then
 aT p0.signals x20 λe24=>
 aD ((b21++([e24.name]:List ByteArray)).length≤1000000000) <|
 aD (I64 (x20+(1:Int))) <|
 some (.inl ((x20+(1:Int)),(b21++([e24.name]:List ByteArray))))
 else
 aI (
 some b21)) ((0:Int),([]:List ByteArray))) λb15=>
 some (⟨(([]:List ByteArray)++p0.sections),b2,b15⟩:A3_string)
def xH (p0:ByteArray):Option Bool:=
 cR (
 aQ (λi3=>
 if i3 < (p0.size:Int) then
 aB (
 aT p0.data.toList i3 λe8=>
 if (97:Int)≤(e8.toNat:Int) then
 aT p0.data.toList i3 λe10=>
 some (decide ((e10.toNat:Int)≤(122:Int)))
 else
 some false) λletter6=>
 aB (
 aT p0.data.toList i3 λe13=>
 if (48:Int)≤(e13.toNat:Int) then
 aT p0.data.toList i3 λe16=>
 if (e16.toNat:Int)≤(57:Int) then
 some true
 else
 aT p0.data.toList i3 λe18=>
 some (decide ((e18.toNat:Int)=(95:Int)))
 else
 aT p0.data.toList i3 λe15=>
 some (decide ((e15.toNat:Int)=(95:Int)))) λdigit11=>
 if ((!(letter6))&&((!(digit11))||(decide (i3=(0:Int)))))=true then
 aI (
 aI (
 some false))
 else
 aD (I64 (i3+(1:Int))) <|
 some (.inl (i3+(1:Int)))
 else
 aI (
 some (.inl ()))) (0:Int)) λ_=>
 some ((decide ((1:Int)≤(p0.size:Int)))&&(decide ((p0.size:Int)≤(12:Int))))
def nB (p0:(List ByteArray)):Option Bool:=
 cR (
 aQ (λx3=>
 if x3 < (p0.length:Int) then
 cR (
 aQ (λx8=>
 if x8 < x3 then
 aT p0 x3 λe11=>
 aT p0 x8 λe12=>
 if e11=e12 then
 aI (
 aI (
 aI (
 aI (
 some true))))
 else
 aD (I64 (x8+(1:Int))) <|
 some (.inl (x8+(1:Int)))
 else
 aI (
 some (.inl ()))) (0:Int)) λ_=>
 aD (I64 (x3+(1:Int))) <|
 some (.inl (x3+(1:Int)))
 else
 aI (
 some (.inl ()))) (0:Int)) λ_=>
 some false
def tY (p0:Layout):Option Int:=
 if ((decide ((p0.elements.length:Int) < (1:Int)))||((decide ((32:Int) < (p0.elements.length:Int)))||((decide ((p0.sections.length:Int) < (1:Int)))||((decide ((24:Int) < (p0.sections.length:Int)))||((decide ((20:Int) < (p0.signals.length:Int)))||(decide ((24:Int) < (p0.balises.length:Int))))))))=true then
 some (2:Int)
 else
 aB (tX p0) λr7=>
 cR (
 aD ((([p0.name]:List ByteArray)++r7.a0).length≤1000000000) <|
 aD (((([p0.name]:List ByteArray)++r7.a0)++r7.a1).length≤1000000000) <|
 aD ((((([p0.name]:List ByteArray)++r7.a0)++r7.a1)++r7.a2).length≤1000000000) <|
 aQ (λx13=>
 if x13 < ((((([p0.name]:List ByteArray)++r7.a0)++r7.a1)++r7.a2).length:Int) then
 aT (((([p0.name]:List ByteArray)++r7.a0)++r7.a1)++r7.a2) x13 λe16=>
 aB (xH e16) λr17=>
 if (!(r17))=true then
 aI (
 aI (
 some (3:Int)))
 else
 aD (I64 (x13+(1:Int))) <|
 some (.inl (x13+(1:Int)))
 else
 aI (
 some (.inl ()))) (0:Int)) λ_=>
 aB (
 aB (nB r7.a0) λr25=>
 if r25=true then
 some true
 else
 aB (nB r7.a1) λr27=>
 if r27=true then
 some true
 else
 aB (nB r7.a2) λr29=>
 some r29) λx23=>
 if x23=true then
 some (8:Int)
 else
 some (0:Int)
def tW (p0:Layout) (p1:Element):Option Bool:=
 if ((decide (p1.kind < (1:Int)))||((decide ((3:Int) < p1.kind))||((decide (p1.length < (500:Int)))||((decide ((1000000:Int) < p1.length))||((decide (p1.grade < (-50:Int)))||((decide ((50:Int) < p1.grade))||((decide (p1.speed < (100:Int)))||((decide ((10000:Int) < p1.speed))||((decide (p1.sectionV < (0:Int)))||(decide ((p0.sections.length:Int)≤p1.sectionV)))))))))))=true then
 some false
 else
 if p1.kind=(2:Int) then
 some ((decide ((100:Int)≤p1.slow))&&(decide (p1.slow≤p1.speed)))
 else
 some (decide (p1.slow=(0:Int)))
def qP (p0:Layout) (p1:Int):Option ((List Int)):=
 aB (
 aQ (λ(x6,b7)=>
 if x6 < (p0.elements.length:Int) then
 aT p0.elements x6 λe10=>
 if ((decide (e10.sectionV=p1))&&((decide ((0:Int)≤p1))&&(decide (p1 < (p0.sections.length:Int)))))=true then
 aD ((b7++([x6]:List Int)).length≤1000000000) <|
 aD (I64 (x6+(1:Int))) <|
 some (.inl ((x6+(1:Int)),(b7++([x6]:List Int))))
 else
 aD (I64 (x6+(1:Int))) <|
 some (.inl ((x6+(1:Int)),b7))
 else
 aI (
 some b7)) ((0:Int),([]:List Int))) λb1=>
 some b1
def pZ (p0:Int):Option Int:=
 if p0=(1:Int) then
 some (2:Int)
 else
 if p0=(2:Int) then
 some (3:Int)
 else
 if p0=(3:Int) then
 some (4:Int)
 else
 some (0:Int)
def lR (p0:Layout) (p1:End):Option Bool:=
 aB (
 if (0:Int)≤p1.el then
 if p1.el < (p0.elements.length:Int) then
 if (0:Int)≤p1.side then
 aT p0.elements p1.el λe6=>
 aB (pZ e6.kind) λr7=>
 some (decide (p1.side < r7))
 else
 some false
 else
 some false
 else
 some false) λx1=>
 some x1
def sL (p0:(List End)):Option Bool:=
 cR (
 aQ (λx3=>
 if x3 < (p0.length:Int) then
 cR (
 aQ (λx8=>
 if x8 < x3 then
 aT p0 x3 λe11=>
 aT p0 x8 λe12=>
 aD (End.ok e11∧End.ok e12) <|
 if e11=e12 then
 aI (
 aI (
 aI (
 aI (
 some true))))
 else
 aD (I64 (x8+(1:Int))) <|
 some (.inl (x8+(1:Int)))
 else
 aI (
 some (.inl ()))) (0:Int)) λ_=>
 aD (I64 (x3+(1:Int))) <|
 some (.inl (x3+(1:Int)))
 else
 aI (
 some (.inl ()))) (0:Int)) λ_=>
 some false
def pB (p0:Layout):Option Int:=
 cR (
 aQ (λx3=>
 if x3 < (p0.elements.length:Int) then
 aT p0.elements x3 λe6=>
 aB (tW p0 e6) λr7=>
 if (!(r7))=true then
 aI (
 aI (
 some (1:Int)))
 else
 aD (I64 (x3+(1:Int))) <|
 some (.inl (x3+(1:Int)))
 else
 aI (
 some (.inl ()))) (0:Int)) λ_=>
 cR (
 aQ (λx15=>
 if x15 < (p0.sections.length:Int) then
 aB (qP p0 x15) λr18=>
 if (r18.length:Int)=(0:Int) then
 aI (
 aI (
 some (1:Int)))
 else
 aD (I64 (x15+(1:Int))) <|
 some (.inl (x15+(1:Int)))
 else
 aI (
 some (.inl ()))) (0:Int)) λ_=>
 cR (
 aQ (λ(x29,b30)=>
 if x29 < (p0.joints.length:Int) then
 aT p0.joints x29 λe33=>
 aB (
 aB (lR p0 e33.a) λr36=>
 if (!(r36))=true then
 some true
 else
 aB (lR p0 e33.b) λr38=>
 if (!(r38))=true then
 some true
 else
 aD (End.ok e33.a∧End.ok e33.b) <|
 some (decide (e33.a=e33.b))) λx34=>
 if x34=true then
 aI (
 aI (
 some (1:Int)))
 else
 aD ((b30++([e33.a,e33.b]:List End)).length≤1000000000) <|
 aD (I64 (x29+(1:Int))) <|
 some (.inl ((x29+(1:Int)),(b30++([e33.a,e33.b]:List End))))
 else
 aI (
 some (.inl b30))) ((0:Int),([]:List End))) λb24=>
 aB (sL b24) λr48=>
 if r48=true then
 some (8:Int)
 else
 some (0:Int)
def iJ (p0:Layout) (p1:End):Option (End×Bool):=
 cR (
 aQ (λx3=>
 if x3 < (p0.joints.length:Int) then
 aT p0.joints x3 λe6=>
 aD (End.ok e6.a∧End.ok p1) <|
 if e6.a=p1 then
 aI (
 aI (
 some (e6.b,true)))
 else
 aD (End.ok e6.b∧End.ok p1) <|
 if e6.b=p1 then
 aI (
 aI (
 some (e6.a,true)))
 else
 aD (I64 (x3+(1:Int))) <|
 some (.inl (x3+(1:Int)))
 else
 aI (
 some (.inl ()))) (0:Int)) λ_=>
 some ((⟨(0:Int),(0:Int)⟩:End),false)
def qM (p0:Layout):Option Int:=
 cR (
 aQ (λ(x6,b7)=>
 if x6 < (p0.signals.length:Int) then
 aT p0.signals x6 λe10=>
 aB (
 aB (lR p0 e10.atV) λr13=>
 if (!(r13))=true then
 some true
 else
 if e10.overlap < (0:Int) then
 some true
 else
 some (decide ((1000000:Int) < e10.overlap))) λx11=>
 if x11=true then
 aI (
 aI (
 some (1:Int)))
 else
 aD ((b7++([e10.atV]:List End)).length≤1000000000) <|
 aD (I64 (x6+(1:Int))) <|
 some (.inl ((x6+(1:Int)),(b7++([e10.atV]:List End))))
 else
 aI (
 some (.inl b7))) ((0:Int),([]:List End))) λb1=>
 aB (sL b1) λr22=>
 if r22=true then
 some (8:Int)
 else
 cR (
 aQ (λx26=>
 if x26 < (b1.length:Int) then
 aT b1 x26 λe29=>
 aB (iJ p0 e29) λ(r31,r32)=>
 aB (
 if (!(r32))=true then
 some true
 else
 aT p0.elements r31.el λe36=>
 aT p0.elements e29.el λe37=>
 some (decide (e36.sectionV=e37.sectionV))) λx33=>
 if x33=true then
 aI (
 aI (
 some (14:Int)))
 else
 aD (I64 (x26+(1:Int))) <|
 some (.inl (x26+(1:Int)))
 else
 aI (
 some (.inl ()))) (0:Int)) λ_=>
 some (0:Int)
def qN (p0:(List Int)):Option Bool:=
 cR (
 aQ (λx3=>
 if x3 < (p0.length:Int) then
 cR (
 aQ (λx8=>
 if x8 < x3 then
 aT p0 x3 λe11=>
 aT p0 x8 λe12=>
 if e11=e12 then
 aI (
 aI (
 aI (
 aI (
 some true))))
 else
 aD (I64 (x8+(1:Int))) <|
 some (.inl (x8+(1:Int)))
 else
 aI (
 some (.inl ()))) (0:Int)) λ_=>
 aD (I64 (x3+(1:Int))) <|
 some (.inl (x3+(1:Int)))
 else
 aI (
 some (.inl ()))) (0:Int)) λ_=>
 some false
def qO (p0:Layout):Option Int:=
 cR (
 aQ (λ(x6,b7)=>
 if x6 < (p0.balises.length:Int) then
 aT p0.balises x6 λe10=>
 aB (
 if e10.id < (1:Int) then
 some true
 else
 if (1073741824:Int) < e10.id then
 some true
 else
 if e10.el < (0:Int) then
 some true
 else
 if (p0.elements.length:Int)≤e10.el then
 some true
 else
 if e10.offset < (0:Int) then
 some true
 else
 aT p0.elements e10.el λe18=>
 some (decide (e18.length < e10.offset))) λx11=>
 if x11=true then
 aI (
 aI (
 some (1:Int)))
 else
 aD ((b7++([e10.id]:List Int)).length≤1000000000) <|
 aD (I64 (x6+(1:Int))) <|
 some (.inl ((x6+(1:Int)),(b7++([e10.id]:List Int))))
 else
 aI (
 some (.inl b7))) ((0:Int),([]:List Int))) λb1=>
 aB (qN b1) λr25=>
 if r25=true then
 some (8:Int)
 else
 some (0:Int)
def uA (p0:Layout):Option Int:=
 aB (tY p0) λr1=>
 if r1=(0:Int) then
 aB (pB p0) λr3=>
 if r3=(0:Int) then
 aB (qM p0) λr5=>
 if r5=(0:Int) then
 aB (qO p0) λr7=>
 some r7
 else
 some r5
 else
 some r3
 else
 some r1
def jY (p0:Layout) (p1:Int):Option Bool:=
 some ((decide ((0:Int)≤p1))&&(decide (p1 < (p0.elements.length:Int))))
def kU (p0:Int) (p1:Int) (p2:Int):Option (Int×Bool):=
 if ((decide (p0=(1:Int)))||(decide (p0=(3:Int))))=true then
 some ((0:Int),(bif decide ((min p1 p2)=(0:Int)) then ((decide ((max p1 p2)=(1:Int)))||((decide (p0=(3:Int)))&&((decide ((min p1 p2)=(2:Int)))&&(decide ((max p1 p2)=(3:Int)))))) else ((decide (p0=(3:Int)))&&((decide ((min p1 p2)=(2:Int)))&&(decide ((max p1 p2)=(3:Int)))))))
 else
 if ((decide (p0=(2:Int)))&&((decide ((min p1 p2)=(0:Int)))&&(decide ((max p1 p2)=(1:Int)))))=true then
 some ((1:Int),true)
 else
 if ((decide (p0=(2:Int)))&&((decide ((min p1 p2)=(0:Int)))&&(decide ((max p1 p2)=(2:Int)))))=true then
 some ((2:Int),true)
 else
 some ((0:Int),false)
def xG (p0:Int) (p1:Int):Option ((List Int)):=
 aB (
 aQ (λ(side6,b7)=>
 if side6 < (4:Int) then
 aB (kU p0 p1 side6) λ(r11,r12)=>
 if r12=true then
 aD ((b7++([side6]:List Int)).length≤1000000000) <|
 aD (I64 (side6+(1:Int))) <|
 some (.inl ((side6+(1:Int)),(b7++([side6]:List Int))))
 else
 aD (I64 (side6+(1:Int))) <|
 some (.inl ((side6+(1:Int)),b7))
 else
 aI (
 some b7)) ((0:Int),([]:List Int))) λb1=>
 some b1
def lQ (p0:Layout) (p1:End):Option ((List Step)):=
 aB (jY p0 p1.el) λr1=>
 if (!(r1))=true then
 some ([]:List Step)
 else
 aT p0.elements p1.el λe3=>
 aB (xG e3.kind p1.side) λr4=>
 aB (
 aQ (λ(i10,b11)=>
 if i10 < (r4.length:Int) then
 aT r4 i10 λe14=>
 aD ((b11++([(⟨p1.el,p1.side,e14⟩:Step)]:List Step)).length≤1000000000) <|
 aD (I64 (i10+(1:Int))) <|
 some (.inl ((i10+(1:Int)),(b11++([(⟨p1.el,p1.side,e14⟩:Step)]:List Step))))
 else
 aI (
 some b11)) ((0:Int),([]:List Step))) λb5=>
 some b5
def oZ (p0:Layout) (p1:Step):Option (Int×Bool):=
 aB (jY p0 p1.el) λr1=>
 if (!(r1))=true then
 some ((0:Int),false)
 else
 aT p0.elements p1.el λe3=>
 aB (kU e3.kind p1.inV p1.out) λ(r5,r6)=>
 some (r5,r6)
def kT (p0:Layout) (p1:Step):Option (End×Bool):=
 aB (iJ p0 (⟨p1.el,p1.out⟩:End)) λ(r2,r3)=>
 some (r2,r3)
def tU (p0:Layout) (p1:(List Step)):Option Bool:=
 if ((decide ((p1.length:Int)=(0:Int)))||(decide ((64:Int) < (p1.length:Int))))=true then
 some false
 else
 cR (
 aQ (λi5=>
 if i5 < (p1.length:Int) then
 cR (
 aT p1 i5 λe9=>
 aB (oZ p0 e9) λ(r11,r12)=>
 if (!(r12))=true then
 aI (
 aI (
 aI (
 some false)))
 else
 cR (
 if (0:Int) < i5 then
 aD (I64 (i5 - (1:Int))) <|
 aT p1 (i5 - (1:Int)) λe20=>
 aB (kT p0 e20) λ(r22,r23)=>
 aB (
 if (!(r23))=true then
 some true
 else
 aT p1 i5 λe27=>
 if r22.el=e27.el then
 aT p1 i5 λe29=>
 some (!(decide (r22.side=e29.inV)))
 else
 some true) λx24=>
 if x24=true then
 aI (
 aI (
 aI (
 aI (
 some false))))
 else
 some (.inl ())
 else
 some (.inl ())) λ_=>
 aQ (λk36=>
 if k36 < i5 then
 aT p1 k36 λe39=>
 aT p1 i5 λe40=>
 if e39.el=e40.el then
 aI (
 aI (
 aI (
 aI (
 some false))))
 else
 aD (I64 (k36+(1:Int))) <|
 some (.inl (k36+(1:Int)))
 else
 aI (
 some (.inl ()))) (0:Int)) λ_=>
 aD (I64 (i5+(1:Int))) <|
 some (.inl (i5+(1:Int)))
 else
 aI (
 some (.inl ()))) (0:Int)) λ_=>
 some true
def iM (p0:Layout) (p1:Int):Option Int:=
 if ((decide (p1 < (0:Int)))||(decide ((p0.elements.length:Int)≤p1)))=true then
 some (-1:Int)
 else
 aT p0.elements p1 λe3=>
 some e3.sectionV
def qAB (p0:(List Int)) (p1:Int):Option Bool:=
 cR (
 aQ (λi3=>
 if i3 < (p0.length:Int) then
 aT p0 i3 λe6=>
 if e6=p1 then
 aI (
 aI (
 some true))
 else
 aD (I64 (i3+(1:Int))) <|
 some (.inl (i3+(1:Int)))
 else
 aI (
 some (.inl ()))) (0:Int)) λ_=>
 some false
def jU (p0:Layout) (p1:(List Step)):Option ((List Int)):=
 aB (
 aQ (λ(i6,b7)=>
 if i6 < (p1.length:Int) then
 aB (
 aT p1 i6 λe12=>
 aB (jY p0 e12.el) λr13=>
 if r13=true then
 aT p1 i6 λe15=>
 aT p0.elements e15.el λe16=>
 aB (qAB b7 e16.sectionV) λr17=>
 some (!(r17))
 else
 some false) λx10=>
 if x10=true then
 aT p1 i6 λe19=>
 aT p0.elements e19.el λe20=>
 aD ((b7++([e20.sectionV]:List Int)).length≤1000000000) <|
 aD (I64 (i6+(1:Int))) <|
 some (.inl ((i6+(1:Int)),(b7++([e20.sectionV]:List Int))))
 else
 aD (I64 (i6+(1:Int))) <|
 some (.inl ((i6+(1:Int)),b7))
 else
 aI (
 some b7)) ((0:Int),([]:List Int))) λb1=>
 some b1
def xF (p0:Layout) (p1:End) (p2:(List Step)):Option Bool:=
 aB (
 if (p2.length:Int)=(0:Int) then
 some true
 else
 if (12:Int) < (p2.length:Int) then
 some true
 else
 aT p2 (0:Int) λe5=>
 if e5.el=p1.el then
 aT p2 (0:Int) λe7=>
 if e7.inV=p1.side then
 aB (tU p0 p2) λr9=>
 some (!(r9))
 else
 some true
 else
 some true) λx1=>
 if x1=true then
 some false
 else
 aB (
 aQ (λ(changes15,i16)=>
 if i16 < (p2.length:Int) then
 aT p2 i16 λe19=>
 aB (iM p0 e19.el) λr20=>
 aD (I64 (i16 - (1:Int))) <|
 aT p2 (i16 - (1:Int)) λe22=>
 aB (iM p0 e22.el) λr23=>
 if r20=r23 then
 aD (I64 (i16+(1:Int))) <|
 some (.inl (changes15,(i16+(1:Int))))
 else
 aD (I64 (changes15+(1:Int))) <|
 aD (I64 (i16+(1:Int))) <|
 some (.inl ((changes15+(1:Int)),(i16+(1:Int))))
 else
 aI (
 some changes15)) ((1:Int),(1:Int))) λchanges11=>
 aB (jU p0 p2) λr29=>
 some (decide (changes11=(r29.length:Int)))
def nX (p0:Layout) (p1:End):Option Int:=
 cR (
 aQ (λx3=>
 if x3 < (p0.signals.length:Int) then
 aT p0.signals x3 λe6=>
 aD (End.ok e6.atV∧End.ok p1) <|
 if e6.atV=p1 then
 aI (
 aI (
 some x3))
 else
 aD (I64 (x3+(1:Int))) <|
 some (.inl (x3+(1:Int)))
 else
 aI (
 some (.inl ()))) (0:Int)) λ_=>
 some (-1:Int)
def mH (p0:Layout) (p1:Step):Option (Int×Bool):=
 aB (nX p0 (⟨p1.el,p1.out⟩:End)) λr1=>
 aB (kT p0 p1) λ(r3,r4)=>
 some (r1,((decide ((0:Int)≤r1))||(!(r4))))
def oX (p0:Layout) (p1:Int) (p2:Int):Option ByteArray:=
 if p2 < (0:Int) then
 aT p0.signals p1 λe2=>
 aD (e2.name.size+(⟨#[45,101,110,100]⟩:ByteArray).size≤9223372036854775807) <|
 some (e2.name++(⟨#[45,101,110,100]⟩:ByteArray))
 else
 aT p0.signals p1 λe4=>
 aD (e4.name.size+(⟨#[45]⟩:ByteArray).size≤9223372036854775807) <|
 aT p0.signals p2 λe6=>
 aD ((e4.name++(⟨#[45]⟩:ByteArray)).size+e6.name.size≤9223372036854775807) <|
 some ((e4.name++(⟨#[45]⟩:ByteArray))++e6.name)
def sK (p0:(List Setting)) (p1:Setting):Option ((List Setting)):=
 aB (
 aQ (λ(i7,b8)=>
 aB (
 if i7 < (p0.length:Int) then
 aT p0 i7 λe13=>
 if e13.el < p1.el then
 some true
 else
 aT p0 i7 λe15=>
 if e15.el=p1.el then
 aT p0 i7 λe17=>
 some (decide (e17.pos < p1.pos))
 else
 some false
 else
 some false) λx10=>
 if x10=true then
 aT p0 i7 λe19=>
 aD ((b8++([e19]:List Setting)).length≤1000000000) <|
 aD (I64 (i7+(1:Int))) <|
 some (.inl ((i7+(1:Int)),(b8++([e19]:List Setting))))
 else
 aI (
 some (i7,b8))) ((0:Int),([]:List Setting))) λ(i1,b2)=>
 aB (
 aB (
 if i1=(p0.length:Int) then
 some true
 else
 aT p0 i1 λe28=>
 aD (Setting.ok e28∧Setting.ok p1) <|
 some (!(decide (e28=p1)))) λx25=>
 if x25=true then
 aD ((b2++([p1]:List Setting)).length≤1000000000) <|
 some (b2++([p1]:List Setting))
 else
 some b2) λb23=>
 aD (0≤i1∧i1≤(p0.length:Int)∧(p0.length:Int)≤(p0.length:Int)) <|
 aD ((b23++(sub p0 i1 (p0.length:Int))).length≤1000000000) <|
 some (b23++(sub p0 i1 (p0.length:Int)))
def lP (p0:Layout) (p1:(List Step)):Option ((List Setting)):=
 aB (
 aQ (λ(out5,i6)=>
 if i6 < (p1.length:Int) then
 aT p1 i6 λe9=>
 aB (oZ p0 e9) λ(r11,r12)=>
 if (r12&&(!(decide (r11=(0:Int)))))=true then
 aT p1 i6 λe15=>
 aB (sK out5 (⟨e15.el,r11⟩:Setting)) λr16=>
 aD (I64 (i6+(1:Int))) <|
 some (.inl (r16,(i6+(1:Int))))
 else
 aD (I64 (i6+(1:Int))) <|
 some (.inl (out5,(i6+(1:Int))))
 else
 aI (
 some out5)) (([]:List Setting),(0:Int))) λout1=>
 some out1
def nW (p0:Layout) (p1:(List Step)):Option Int:=
 aB (
 aQ (λ(sum5,i6)=>
 if i6 < (p1.length:Int) then
 aT p1 i6 λe9=>
 aB (jY p0 e9.el) λr10=>
 if r10=true then
 aT p1 i6 λe12=>
 aT p0.elements e12.el λe13=>
 aD (I64 (sum5+e13.length)) <|
 aD (I64 (i6+(1:Int))) <|
 some (.inl ((sum5+e13.length),(i6+(1:Int))))
 else
 aD (I64 (i6+(1:Int))) <|
 some (.inl (sum5,(i6+(1:Int))))
 else
 aI (
 some sum5)) ((0:Int),(0:Int))) λsum1=>
 some sum1
def qK (p0:Int):Option ByteArray:=
 aB (
 aQ (λ(n5,s6)=>
 if (0:Int) < n5 then
 aD (¬ (10:Int)=0) <|
 aD (I64 ((48:Int)+(n5.tmod (10:Int)))) <|
 aD ((strOfNums ([(IntKind.u8.wrap ((48:Int)+(n5.tmod (10:Int))))]:List Int)).size+s6.size≤9223372036854775807) <|
 aD (¬ (10:Int)=0) <|
 some (.inl ((IntKind.i64.wrap (n5.tdiv (10:Int))),((strOfNums ([(IntKind.u8.wrap ((48:Int)+(n5.tmod (10:Int))))]:List Int))++s6)))
 else
 aI (
 some s6)) (p0,(⟨#[]⟩:ByteArray))) λs1=>
 some s1
def gJ:Nat→Paths→Layout→End→End→(List Step)→Option Paths
 | 0,_,_,_,_,_=>none
 | fu+1,p0,p1,p2,p3,p4=>
 aB (lQ p1 p3) λr1=>
 aQ (λ(i5,b6)=>
 if i5 < (r1.length:Int) then
 aD ((([]:List Step)++p4).length≤1000000000) <|
 aT r1 i5 λe10=>
 aD (((([]:List Step)++p4)++([e10]:List Step)).length≤1000000000) <|
 aB (xF p1 p2 ((([]:List Step)++p4)++([e10]:List Step))) λr12=>
 if (!(r12))=true then
 aD (I64 (i5+(1:Int))) <|
 some (.inl ((i5+(1:Int)),b6))
 else
 aT r1 i5 λe15=>
 aB (mH p1 e15) λ(r17,r18)=>
 if r18=true then
 aD ((b6++([((([]:List Step)++p4)++([e10]:List Step))]:List (List Step))).length≤1000000000) <|
 aD (I64 (i5+(1:Int))) <|
 some (.inl ((i5+(1:Int)),(b6++([((([]:List Step)++p4)++([e10]:List Step))]:List (List Step)))))
 else
 aT r1 i5 λe22=>
 aB (kT p1 e22) λ(r24,r25)=>
 aB ((gJ fu) (⟨b6⟩:Paths) p1 p2 r24 ((([]:List Step)++p4)++([e10]:List Step))) λr26=>
 aD (I64 (i5+(1:Int))) <|
 some (.inl ((i5+(1:Int)),r26.l))
 else
 aI (
 some (⟨b6⟩:Paths))) ((0:Int),p0.l)
def oY (p0:Paths) (p1:Layout) (p2:End) (p3:End) (p4:(List Step)):Option Paths:=gJ eU p0 p1 p2 p3 p4
def xE (p0:Layout) (p1:Int):Option ((List Route)):=
 if ((decide (p1 < (0:Int)))||(decide ((p0.signals.length:Int)≤p1)))=true then
 some ([]:List Route)
 else
 aT p0.signals p1 λe3=>
 aB (iJ p0 e3.atV) λ(r5,r6)=>
 if (!(r6))=true then
 some ([]:List Route)
 else
 aB (oY (⟨([]:List (List Step))⟩:Paths) p0 r5 r5 []) λr8=>
 aB (
 aQ (λ(i14,b15)=>
 if i14 < (r8.l.length:Int) then
 aB (
 aT r8.l i14 λe20=>
 aD (I64 ((e20.length:Int) - (1:Int))) <|
 aT e20 ((e20.length:Int) - (1:Int)) λe22=>
 aB (mH p0 e22) λ(r24,r25)=>
 aB (oX p0 p1 r24) λr26=>
 aB (lP p0 e20) λr27=>
 aB (jU p0 e20) λr28=>
 aB (nW p0 e20) λr29=>
 aT p0.signals p1 λe30=>
 aB (iM p0 e30.atV.el) λr31=>
 aB (
 aQ (λ(before36,k37)=>
 if k37 < i14 then
 aT r8.l k37 λe40=>
 aT r8.l k37 λe41=>
 aD (I64 ((e41.length:Int) - (1:Int))) <|
 aT e40 ((e41.length:Int) - (1:Int)) λe43=>
 aB (mH p0 e43) λ(r45,r46)=>
 aB (oX p0 p1 r45) λr47=>
 aB (oX p0 p1 r24) λr48=>
 if r47=r48 then
 aD (I64 (before36+(1:Int))) <|
 aD (I64 (k37+(1:Int))) <|
 some (.inl ((before36+(1:Int)),(k37+(1:Int))))
 else
 aD (I64 (k37+(1:Int))) <|
 some (.inl (before36,(k37+(1:Int))))
 else
 aI (
 some before36)) ((1:Int),(0:Int))) λbefore32=>
 aB (
 if (1:Int) < before32 then
 aD (r26.size+(⟨#[46]⟩:ByteArray).size≤9223372036854775807) <|
 aB (qK before32) λr58=>
 aD ((r26++(⟨#[46]⟩:ByteArray)).size+r58.size≤9223372036854775807) <|
 some ((r26++(⟨#[46]⟩:ByteArray))++r58)
 else
 some r26) λc54=>
 aD ((b15++([(⟨c54,p1,r24,e20,r27,r28,r31,r29,([]:List Step),([]:List Setting),([]:List Int),([]:List Setting),([]:List Int),([]:List End)⟩:Route)]:List Route)).length≤1000000000) <|
 some (b15++([(⟨c54,p1,r24,e20,r27,r28,r31,r29,([]:List Step),([]:List Setting),([]:List Int),([]:List Setting),([]:List Int),([]:List End)⟩:Route)]:List Route))) λb18=>
 aD (I64 (i14+(1:Int))) <|
 some (.inl ((i14+(1:Int)),b18))
 else
 aI (
 some b15)) ((0:Int),([]:List Route))) λb9=>
 some b9
def qAA (p0:Layout):Option ((List Route)×Int):=
 aB (uA p0) λr1=>
 if r1=(0:Int) then
 aB (
 aQ (λ(i8,b9)=>
 if i8 < (p0.signals.length:Int) then
 aB (xE p0 i8) λr12=>
 aD ((b9++r12).length≤1000000000) <|
 aD (I64 (i8+(1:Int))) <|
 some (.inl ((i8+(1:Int)),(b9++r12)))
 else
 aI (
 some b9)) ((0:Int),([]:List Route))) λb3=>
 if (48:Int) < (b3.length:Int) then
 some (([]:List Route),(2:Int))
 else
 some (b3,(0:Int))
 else
 some (([]:List Route),r1)
def sM (p0:Layout):Option ((List Int)):=
 aB (
 aQ (λ(x6,b7)=>
 if x6 < (p0.elements.length:Int) then
 aT p0.elements x6 λe10=>
 if e10.kind=(2:Int) then
 aD ((b7++([x6]:List Int)).length≤1000000000) <|
 aD (I64 (x6+(1:Int))) <|
 some (.inl ((x6+(1:Int)),(b7++([x6]:List Int))))
 else
 aD (I64 (x6+(1:Int))) <|
 some (.inl ((x6+(1:Int)),b7))
 else
 aI (
 some b7)) ((0:Int),([]:List Int))) λb1=>
 some b1
def xC (p0:Layout) (p1:Route):Option (Signal×Bool):=
 if ((decide (p1.exit < (0:Int)))||(decide ((p0.signals.length:Int)≤p1.exit)))=true then
 some ((⟨(⟨#[]⟩:ByteArray),(⟨(0:Int),(0:Int)⟩:End),(0:Int)⟩:Signal),false)
 else
 aT p0.signals p1.exit λe3=>
 some (e3,true)
def qJ (p0:Layout) (p1:Route) (p2:(List Step)) (p3:Int):Option Bool:=
 cR (
 aQ (λx3=>
 if x3 < (p2.length:Int) then
 aT p2 x3 λe6=>
 if e6.el=p3 then
 aI (
 aI (
 some true))
 else
 aD (I64 (x3+(1:Int))) <|
 some (.inl (x3+(1:Int)))
 else
 aI (
 some (.inl ()))) (0:Int)) λ_=>
 cR (
 aQ (λx14=>
 if x14 < (p1.sections.length:Int) then
 aT p1.sections x14 λe17=>
 aB (iM p0 p3) λr18=>
 if e17=r18 then
 aI (
 aI (
 some true))
 else
 aD (I64 (x14+(1:Int))) <|
 some (.inl (x14+(1:Int)))
 else
 aI (
 some (.inl ()))) (0:Int)) λ_=>
 some false
def xD (p0:Layout) (p1:Route):Option Route:=
 aB (xC p0 (⟨p1.name,p1.entry,p1.exit,p1.path,p1.points,p1.sections,p1.approach,p1.length,([]:List Step),([]:List Setting),([]:List Int),p1.flank,p1.guards,p1.gaps⟩:Route)) λ(r2,r3)=>
 if (!(r3))=true then
 some (⟨p1.name,p1.entry,p1.exit,p1.path,p1.points,p1.sections,p1.approach,p1.length,([]:List Step),([]:List Setting),([]:List Int),p1.flank,p1.guards,p1.gaps⟩:Route)
 else
 aB (iJ p0 r2.atV) λ(r6,r7)=>
 aB (
 aQ (λ(joined17,c18,c19,b20)=>
 aB (
 if joined17=true then
 aB (nW p0 b20) λr25=>
 if r25 < r2.overlap then
 if (b20.length:Int) < (12:Int) then
 aB (qJ p0 (⟨p1.name,p1.entry,p1.exit,p1.path,p1.points,p1.sections,p1.approach,p1.length,b20,([]:List Setting),([]:List Int),p1.flank,p1.guards,p1.gaps⟩:Route) b20 c18) λr28=>
 some (!(r28))
 else
 some false
 else
 some false
 else
 some false) λx22=>
 if x22=true then
 aB (lQ p0 (⟨c18,c19⟩:End)) λr30=>
 if (r30.length:Int)=(0:Int) then
 aI (
 some (b20,c18,c19))
 else
 aT r30 (0:Int) λe33=>
 aD ((b20++([e33]:List Step)).length≤1000000000) <|
 aT r30 (0:Int) λe35=>
 aB (kT p0 e35) λ(r37,r38)=>
 some (.inl (r38,r37.el,r37.side,(b20++([e33]:List Step))))
 else
 aI (
 some (b20,c18,c19))) (r7,r6.el,r6.side,([]:List Step))) λ(b8,c9,c10)=>
 aB (lP p0 b8) λr40=>
 aB (jU p0 b8) λr41=>
 some (⟨p1.name,p1.entry,p1.exit,p1.path,p1.points,p1.sections,p1.approach,p1.length,b8,r40,r41,p1.flank,p1.guards,p1.gaps⟩:Route)
def nU (p0:Layout) (p1:Step):Option ((List End)):=
 if ((decide (p1.el < (0:Int)))||(decide ((p0.elements.length:Int)≤p1.el)))=true then
 some ([]:List End)
 else
 aT p0.elements p1.el λe3=>
 aB (kU e3.kind p1.inV p1.out) λ(r5,r6)=>
 aB (
 aQ (λ(side12,b13)=>
 aB (pZ e3.kind) λr15=>
 if side12 < r15 then
 if (r6&&((!(decide (side12=p1.inV)))&&(!(decide (side12=p1.out)))))=true then
 aD ((b13++([(⟨p1.el,side12⟩:End)]:List End)).length≤1000000000) <|
 aD (I64 (side12+(1:Int))) <|
 some (.inl ((side12+(1:Int)),(b13++([(⟨p1.el,side12⟩:End)]:List End))))
 else
 aD (I64 (side12+(1:Int))) <|
 some (.inl ((side12+(1:Int)),b13))
 else
 aI (
 some b13)) ((0:Int),([]:List End))) λb7=>
 some b7
def tR (p0:Layout) (p1:Route):Option ((List End)):=
 aB (
 aQ (λ(i6,b7)=>
 if i6 < (p1.path.length:Int) then
 aT p1.path i6 λe10=>
 aB (nU p0 e10) λr11=>
 aD ((b7++r11).length≤1000000000) <|
 aD (I64 (i6+(1:Int))) <|
 some (.inl ((i6+(1:Int)),(b7++r11)))
 else
 aI (
 some b7)) ((0:Int),([]:List End))) λb1=>
 aB (
 aQ (λ(i20,b21)=>
 if i20 < (p1.over.length:Int) then
 aT p1.over i20 λe24=>
 aB (nU p0 e24) λr25=>
 aD ((b21++r25).length≤1000000000) <|
 aD (I64 (i20+(1:Int))) <|
 some (.inl ((i20+(1:Int)),(b21++r25)))
 else
 aI (
 some b21)) ((0:Int),b1)) λb15=>
 some b15
def sG (p0:(List Step)) (p1:Int):Option Bool:=
 cR (
 aQ (λi3=>
 if i3 < (p0.length:Int) then
 aT p0 i3 λe6=>
 if e6.el=p1 then
 aI (
 aI (
 some true))
 else
 aD (I64 (i3+(1:Int))) <|
 some (.inl (i3+(1:Int)))
 else
 aI (
 some (.inl ()))) (0:Int)) λ_=>
 some false
def oG (p0:(List Setting)) (p1:Setting):Option Bool:=
 cR (
 aQ (λi3=>
 if i3 < (p0.length:Int) then
 aT p0 i3 λe6=>
 aD (Setting.ok e6∧Setting.ok p1) <|
 if e6=p1 then
 aI (
 aI (
 some true))
 else
 aD (I64 (i3+(1:Int))) <|
 some (.inl (i3+(1:Int)))
 else
 aI (
 some (.inl ()))) (0:Int)) λ_=>
 some false
def tQ (p0:Route) (p1:Setting):Option Bool:=
 aB (
 aB (oG p0.points p1) λr3=>
 if r3=true then
 some true
 else
 aB (oG p0.overPoints p1) λr5=>
 if r5=true then
 some true
 else
 aB (oG p0.flank p1) λr7=>
 some r7) λx1=>
 some x1
def vJ (p0:Route) (p1:End):Option (Setting×Int×Bool):=
 aB (
 if p1.side=(2:Int) then
 some ((2:Int),(1:Int))
 else
 some ((1:Int),(2:Int))) λ(c1,c2)=>
 aB (tQ p0 (⟨p1.el,c1⟩:Setting)) λr5=>
 if r5=true then
 some ((⟨(0:Int),(0:Int)⟩:Setting),(-1:Int),false)
 else
 some ((⟨p1.el,c2⟩:Setting),(-1:Int),true)
def vK (p0:Int) (p1:Int) (p2:Int):Option (Int×Bool):=
 cR (
 aQ (λout3=>
 if out3 < (4:Int) then
 aB (kU p0 p1 out3) λ(r7,r8)=>
 if (r8&&((decide (r7=(0:Int)))||(decide (r7=p2))))=true then
 aI (
 aI (
 some (out3,true)))
 else
 aD (I64 (out3+(1:Int))) <|
 some (.inl (out3+(1:Int)))
 else
 aI (
 some (.inl ()))) (0:Int)) λ_=>
 some ((0:Int),false)
def sH (p0:Layout) (p1:Route) (p2:End):Option (Setting×Int×Bool):=
 cR (
 aQ (λ(n8,c9,c10)=>
 if n8 < (4:Int) then
 aB (iJ p0 (⟨c9,c10⟩:End)) λ(r14,r15)=>
 if (!(r15))=true then
 aI (
 aI (
 some ((⟨(0:Int),(0:Int)⟩:Setting),(-1:Int),true)))
 else
 aB (nX p0 r14) λr19=>
 if (0:Int)≤r19 then
 aI (
 aI (
 some ((⟨(0:Int),(0:Int)⟩:Setting),r19,true)))
 else
 aB (
 aB (sG p1.path r14.el) λr25=>
 if r25=true then
 some true
 else
 aB (sG p1.over r14.el) λr27=>
 some r27) λx23=>
 if x23=true then
 aI (
 aI (
 some ((⟨(0:Int),(0:Int)⟩:Setting),(-1:Int),true)))
 else
 aB (
 if r14.el < (0:Int) then
 some true
 else
 if (p0.elements.length:Int)≤r14.el then
 some true
 else
 aT p0.elements r14.el λe35=>
 if e35.kind=(2:Int) then
 some (decide (r14.side=(0:Int)))
 else
 some false) λx31=>
 if x31=true then
 aI (
 aI (
 some ((⟨(0:Int),(0:Int)⟩:Setting),(-1:Int),false)))
 else
 aT p0.elements r14.el λe40=>
 if e40.kind=(2:Int) then
 aB (vJ p1 r14) λ(r43,r44,r45)=>
 aI (
 aI (
 some (r43,r44,r45)))
 else
 aT p0.elements r14.el λe48=>
 aB (vK e48.kind r14.side (0:Int)) λ(r50,r51)=>
 aD (I64 (n8+(1:Int))) <|
 some (.inl ((n8+(1:Int)),r14.el,r50))
 else
 aI (
 some (.inl (c9,c10)))) ((0:Int),p2.el,p2.side)) λ(c1,c2)=>
 some ((⟨(0:Int),(0:Int)⟩:Setting),(-1:Int),false)
def zZ (p0:(List Setting)) (p1:Setting):Option ((List Setting)):=
 aB (oG p0 p1) λr1=>
 if r1=true then
 some p0
 else
 aB (
 aQ (λ(done11,i12,b13)=>
 if i12 < (p0.length:Int) then
 aB (
 aB (
 if (!(done11))=true then
 aT p0 i12 λe22=>
 some (decide (p1.el < e22.el))
 else
 some false) λx19=>
 if x19=true then
 aD ((b13++([p1]:List Setting)).length≤1000000000) <|
 some (true,(b13++([p1]:List Setting)))
 else
 some (done11,b13)) λ(done16,b17)=>
 aT p0 i12 λe25=>
 aD ((b17++([e25]:List Setting)).length≤1000000000) <|
 aD (I64 (i12+(1:Int))) <|
 some (.inl (done16,(i12+(1:Int)),(b17++([e25]:List Setting))))
 else
 aI (
 some (done11,b13))) (false,(0:Int),([]:List Setting))) λ(done3,b4)=>
 if (!(done3))=true then
 aD ((b4++([p1]:List Setting)).length≤1000000000) <|
 some (b4++([p1]:List Setting))
 else
 some b4
def qAD (p0:(List Int)) (p1:Int):Option Bool:=
 cR (
 aQ (λi3=>
 if i3 < (p0.length:Int) then
 aT p0 i3 λe6=>
 if e6=p1 then
 aI (
 aI (
 some true))
 else
 aD (I64 (i3+(1:Int))) <|
 some (.inl (i3+(1:Int)))
 else
 aI (
 some (.inl ()))) (0:Int)) λ_=>
 some false
def nZ (p0:(List Int)) (p1:Int):Option ((List Int)):=
 aB (qAD p0 p1) λr1=>
 if r1=true then
 some p0
 else
 aB (
 aQ (λ(done11,i12,b13)=>
 if i12 < (p0.length:Int) then
 aB (
 aB (
 if (!(done11))=true then
 aT p0 i12 λe22=>
 some (decide (p1 < e22))
 else
 some false) λx19=>
 if x19=true then
 aD ((b13++([p1]:List Int)).length≤1000000000) <|
 some (true,(b13++([p1]:List Int)))
 else
 some (done11,b13)) λ(done16,b17)=>
 aT p0 i12 λe25=>
 aD ((b17++([e25]:List Int)).length≤1000000000) <|
 aD (I64 (i12+(1:Int))) <|
 some (.inl (done16,(i12+(1:Int)),(b17++([e25]:List Int))))
 else
 aI (
 some (done11,b13))) (false,(0:Int),([]:List Int))) λ(done3,b4)=>
 if (!(done3))=true then
 aD ((b4++([p1]:List Int)).length≤1000000000) <|
 some (b4++([p1]:List Int))
 else
 some b4
def xI (p0:(List Int)):Option ((List Int)):=
 aB (
 aQ (λ(out5,i6)=>
 if i6 < (p0.length:Int) then
 aT p0 i6 λe9=>
 aB (nZ out5 e9) λr10=>
 aD (I64 (i6+(1:Int))) <|
 some (.inl (r10,(i6+(1:Int))))
 else
 aI (
 some out5)) (([]:List Int),(0:Int))) λout1=>
 some out1
def uC (p0:(List Int)) (p1:(List Int)):Option ((List Int)):=
 aB (xI p0) λr1=>
 aB (
 aQ (λ(out6,i7)=>
 if i7 < (p1.length:Int) then
 aT p1 i7 λe10=>
 aB (nZ out6 e10) λr11=>
 aD (I64 (i7+(1:Int))) <|
 some (.inl (r11,(i7+(1:Int))))
 else
 aI (
 some out6)) (r1,(0:Int))) λout2=>
 some out2
def xB (p0:Layout) (p1:Route):Option Route:=
 aB (tR p0 (⟨p1.name,p1.entry,p1.exit,p1.path,p1.points,p1.sections,p1.approach,p1.length,p1.over,p1.overPoints,p1.overSections,([]:List Setting),([]:List Int),([]:List End)⟩:Route)) λr1=>
 aB (
 aQ (λ(i11,c12,c13,b14)=>
 if i11 < (r1.length:Int) then
 aT r1 i11 λe17=>
 aB (sH p0 (⟨p1.name,p1.entry,p1.exit,p1.path,p1.points,p1.sections,p1.approach,p1.length,p1.over,p1.overPoints,p1.overSections,c12,c13,b14⟩:Route) e17) λ(r19,r20,r21)=>
 aB (
 if (!(r21))=true then
 aT r1 i11 λe25=>
 aD ((b14++([e25]:List End)).length≤1000000000) <|
 some (b14++([e25]:List End))
 else
 some b14) λb22=>
 aB (
 if r19.pos=(0:Int) then
 some c12
 else
 aB (zZ c12 r19) λr30=>
 some r30) λc27=>
 if (0:Int)≤r20 then
 aB (uC c13 ([r20]:List Int)) λr32=>
 aD (I64 (i11+(1:Int))) <|
 some (.inl ((i11+(1:Int)),c27,r32,b22))
 else
 aD (I64 (i11+(1:Int))) <|
 some (.inl ((i11+(1:Int)),c27,c13,b22))
 else
 aI (
 some (c12,c13,b14))) ((0:Int),([]:List Setting),([]:List Int),([]:List End))) λ(c2,c3,b4)=>
 some (⟨p1.name,p1.entry,p1.exit,p1.path,p1.points,p1.sections,p1.approach,p1.length,p1.over,p1.overPoints,p1.overSections,c2,c3,b4⟩:Route)
def tP (p0:Layout):Option (Table×Int):=
 aB (qAA p0) λ(r2,r3)=>
 if r3=(0:Int) then
 aB (sM p0) λr5=>
 aB (
 aQ (λ(x11,b12)=>
 if x11 < (r2.length:Int) then
 aT r2 x11 λe15=>
 aB (xD p0 e15) λr16=>
 aB (xB p0 r16) λr17=>
 aD ((b12++([r17]:List Route)).length≤1000000000) <|
 aD (I64 (x11+(1:Int))) <|
 some (.inl ((x11+(1:Int)),(b12++([r17]:List Route))))
 else
 aI (
 some b12)) ((0:Int),([]:List Route))) λb6=>
 aB (
 aQ (λ(x26,b27)=>
 if x26 < (r5.length:Int) then
 aT r5 x26 λe30=>
 aB (iM p0 e30) λr31=>
 aD ((b27++([r31]:List Int)).length≤1000000000) <|
 aD (I64 (x26+(1:Int))) <|
 some (.inl ((x26+(1:Int)),(b27++([r31]:List Int))))
 else
 aI (
 some b27)) ((0:Int),([]:List Int))) λb21=>
 some ((⟨b6,r5,b21,(p0.sections.length:Int),(p0.signals.length:Int)⟩:Table),(0:Int))
 else
 some ((⟨([]:List Route),([]:List Int),([]:List Int),(0:Int),(0:Int)⟩:Table),r3)
def dQ (p0:Int) (p1:Int):Option Bool:=
 some ((decide ((0:Int)≤p0))&&(decide (p0 < p1)))
def iH (p0:Table):Option Bool:=
 if (p0.homes.length:Int)=(p0.points.length:Int) then
 cR (
 aQ (λx4=>
 if x4 < (p0.points.length:Int) then
 aT p0.points x4 λe7=>
 aB (
 if e7 < (0:Int) then
 some true
 else
 if (0:Int) < x4 then
 aD (I64 (x4 - (1:Int))) <|
 aT p0.points (x4 - (1:Int)) λe15=>
 if e7≤e15 then
 some true
 else
 aT p0.homes x4 λe17=>
 aB (dQ e17 p0.sections) λr18=>
 some (!(r18))
 else
 aT p0.homes x4 λe12=>
 aB (dQ e12 p0.sections) λr13=>
 some (!(r13))) λx8=>
 if x8=true then
 aI (
 aI (
 some false))
 else
 aD (I64 (x4+(1:Int))) <|
 some (.inl (x4+(1:Int)))
 else
 aI (
 some (.inl ()))) (0:Int)) λ_=>
 some true
 else
 some false
def fN (p0:List (List Int)):Option (List Int):=
 aD (p0.length≤1000∧p0.flatten.length≤1000000000) <|
 some p0.flatten
def hZ (p0:Table) (p1:Route):Option Bool:=
 aB (
 aB (dQ p1.entry p0.signals) λr3=>
 if (!(r3))=true then
 some true
 else
 if p1.exit=(-1:Int) then
 some false
 else
 aB (dQ p1.exit p0.signals) λr6=>
 some (!(r6))) λx1=>
 if x1=true then
 some false
 else
 if ((decide ((p1.path.length:Int) < (1:Int)))||((decide ((12:Int) < (p1.path.length:Int)))||(decide ((p1.sections.length:Int)=(0:Int)))))=true then
 some false
 else
 cR (
 aB (fN ([p1.sections,p1.overSections]:List (List Int))) λr13=>
 aQ (λ(x17,b18)=>
 if x17 < (r13.length:Int) then
 aT r13 x17 λe21=>
 aB (
 aB (dQ e21 p0.sections) λr24=>
 if (!(r24))=true then
 some true
 else
 aD (e21 < 24) <|
 aT b18 e21 λe26=>
 some e26) λx22=>
 if x22=true then
 aI (
 aI (
 some false))
 else
 aD (e21 < 24) <|
 aT b18 e21 λe31=>
 aD (I64 (x17+(1:Int))) <|
 some (.inl ((x17+(1:Int)),(b18.set e21.toNat true)))
 else
 aI (
 some (.inl b18))) ((0:Int),(List.replicate 24 false))) λb11=>
 aB (
 aB (dQ p1.approach p0.sections) λr37=>
 if r37=true then
 some (decide ((1:Int)≤p1.length))
 else
 some false) λx35=>
 some x35
def dC (p0:(List Int)) (p1:Int):Option Int:=
 cR (
 aQ (λx3=>
 if x3 < (p0.length:Int) then
 aT p0 x3 λe6=>
 if p1=e6 then
 aI (
 aI (
 some x3))
 else
 aD (I64 (x3+(1:Int))) <|
 some (.inl (x3+(1:Int)))
 else
 aI (
 some (.inl ()))) (0:Int)) λ_=>
 some (-1:Int)
def fF (p0:Table) (p1:Int):Option Int:=
 aB (dC p0.points p1) λr1=>
 some r1
def dL (p0:Table) (p1:(List Setting)):Option Bool:=
 cR (
 aQ (λx3=>
 if x3 < (p1.length:Int) then
 aT p1 x3 λe6=>
 aB (
 if (0:Int) < x3 then
 aD (I64 (x3 - (1:Int))) <|
 aT p1 (x3 - (1:Int)) λe12=>
 if e6.el≤e12.el then
 some true
 else
 aB (fF p0 e6.el) λr14=>
 some (decide (r14 < (0:Int)))
 else
 aB (fF p0 e6.el) λr10=>
 some (decide (r10 < (0:Int)))) λx7=>
 if x7=true then
 aI (
 aI (
 some false))
 else
 if ((!(decide (e6.pos=(1:Int))))&&(!(decide (e6.pos=(2:Int)))))=true then
 aI (
 aI (
 some false))
 else
 aD (I64 (x3+(1:Int))) <|
 some (.inl (x3+(1:Int)))
 else
 aI (
 some (.inl ()))) (0:Int)) λ_=>
 some true
def fD (p0:(List Setting)) (p1:(List Setting)):Option Bool:=
 cR (
 aQ (λx3=>
 if x3 < (p0.length:Int) then
 cR (
 aT p0 x3 λe7=>
 aQ (λx9=>
 if x9 < (p1.length:Int) then
 aT p1 x9 λe12=>
 if ((decide (e7.el=e12.el))&&(!(decide (e7.pos=e12.pos))))=true then
 aI (
 aI (
 aI (
 aI (
 some false))))
 else
 aD (I64 (x9+(1:Int))) <|
 some (.inl (x9+(1:Int)))
 else
 aI (
 some (.inl ()))) (0:Int)) λ_=>
 aD (I64 (x3+(1:Int))) <|
 some (.inl (x3+(1:Int)))
 else
 aI (
 some (.inl ()))) (0:Int)) λ_=>
 some true
def mX (p0:Table):Option Int:=
 aB (
 if (48:Int) < (p0.routes.length:Int) then
 some true
 else
 if (32:Int) < (p0.points.length:Int) then
 some true
 else
 aB (dQ p0.sections (25:Int)) λr5=>
 if (!(r5))=true then
 some true
 else
 aB (dQ p0.signals (21:Int)) λr7=>
 some (!(r7))) λx1=>
 if x1=true then
 some (2:Int)
 else
 aB (iH p0) λr9=>
 if (!(r9))=true then
 some (1:Int)
 else
 cR (
 aQ (λx13=>
 if x13 < (p0.routes.length:Int) then
 aT p0.routes x13 λe16=>
 aB (hZ p0 e16) λr17=>
 if (!(r17))=true then
 aI (
 aI (
 some (1:Int)))
 else
 aD (I64 (x13+(1:Int))) <|
 some (.inl (x13+(1:Int)))
 else
 aI (
 some (.inl ()))) (0:Int)) λ_=>
 cR (
 aQ (λx25=>
 if x25 < (p0.routes.length:Int) then
 aT p0.routes x25 λe28=>
 aB (
 aB (dL p0 e28.points) λr31=>
 if (!(r31))=true then
 some true
 else
 aB (dL p0 e28.overPoints) λr33=>
 if (!(r33))=true then
 some true
 else
 aB (dL p0 e28.flank) λr35=>
 some (!(r35))) λx29=>
 if x29=true then
 aI (
 aI (
 some (1:Int)))
 else
 aD (I64 (x25+(1:Int))) <|
 some (.inl (x25+(1:Int)))
 else
 aI (
 some (.inl ()))) (0:Int)) λ_=>
 cR (
 aQ (λx43=>
 if x43 < (p0.routes.length:Int) then
 aT p0.routes x43 λe46=>
 aB (
 aB (fD e46.points e46.overPoints) λr49=>
 if (!(r49))=true then
 some true
 else
 aB (fD e46.points e46.flank) λr51=>
 if (!(r51))=true then
 some true
 else
 aB (fD e46.overPoints e46.flank) λr53=>
 some (!(r53))) λx47=>
 if x47=true then
 aI (
 aI (
 some (10:Int)))
 else
 aD (I64 (x43+(1:Int))) <|
 some (.inl (x43+(1:Int)))
 else
 aI (
 some (.inl ()))) (0:Int)) λ_=>
 cR (
 aQ (λ(x64,b65)=>
 if x64 < (p0.routes.length:Int) then
 aT p0.routes x64 λe68=>
 aD (b65.map (·.1)).Nodup <|
 if (((gC b65 e68.name).getD false))=true then
 aI (
 aI (
 some (8:Int)))
 else
 aD (b65.map (·.1)).Nodup <|
 aD (I64 (x64+(1:Int))) <|
 some (.inl ((x64+(1:Int)),(qJA b65 e68.name true)))
 else
 aI (
 some (.inl b65))) ((0:Int),([]:List (ByteArray×Bool)))) λm59=>
 some (0:Int)
def bH (p0:Numbering) (p1:Int):Option Int:=
 aT p0.t.routes p1 λe1=>
 aD (I64 ((e1.sections.length:Int) - (1:Int))) <|
 some ((e1.sections.length:Int) - (1:Int))
def iW (p0:Table):Option (Numbering×Int):=
 aB (mX p0) λr1=>
 if r1=(0:Int) then
 aD (I64 ((2:Int) * p0.sections)) <|
 aD (I64 ((2:Int) * (p0.points.length:Int))) <|
 aD (I64 (((2:Int) * p0.sections)+((2:Int) * (p0.points.length:Int)))) <|
 aD (I64 ((4:Int) * (p0.routes.length:Int))) <|
 aD (I64 ((((2:Int) * p0.sections)+((2:Int) * (p0.points.length:Int)))+((4:Int) * (p0.routes.length:Int)))) <|
 aD (I64 (((((2:Int) * p0.sections)+((2:Int) * (p0.points.length:Int)))+((4:Int) * (p0.routes.length:Int)))+(p0.points.length:Int))) <|
 aB (
 aQ (λ(x16,c17,b18)=>
 if x16 < (p0.routes.length:Int) then
 aD ((b18++([c17]:List Int)).length≤1000000000) <|
 aB (bH (⟨p0,((((2:Int) * p0.sections)+((2:Int) * (p0.points.length:Int)))+((4:Int) * (p0.routes.length:Int))),(b18++([c17]:List Int)),c17,(0:Int)⟩:Numbering) x16) λr22=>
 aD (I64 ((4:Int)+r22)) <|
 aD (I64 (((4:Int)+r22)+(2:Int))) <|
 aD (I64 (c17+(((4:Int)+r22)+(2:Int)))) <|
 aD (I64 (x16+(1:Int))) <|
 some (.inl ((x16+(1:Int)),(c17+(((4:Int)+r22)+(2:Int))),(b18++([c17]:List Int))))
 else
 aI (
 some (c17,b18))) ((0:Int),(((((2:Int) * p0.sections)+((2:Int) * (p0.points.length:Int)))+((4:Int) * (p0.routes.length:Int)))+(p0.points.length:Int)),([]:List Int))) λ(c9,b10)=>
 aD (I64 ((5:Int) * (p0.routes.length:Int))) <|
 aD (I64 (c9+((5:Int) * (p0.routes.length:Int)))) <|
 if (2000:Int) < (c9+((5:Int) * (p0.routes.length:Int))) then
 some ((⟨(⟨([]:List Route),([]:List Int),([]:List Int),(0:Int),(0:Int)⟩:Table),(0:Int),([]:List Int),(0:Int),(0:Int)⟩:Numbering),(2:Int))
 else
 some ((⟨p0,((((2:Int) * p0.sections)+((2:Int) * (p0.points.length:Int)))+((4:Int) * (p0.routes.length:Int))),b10,c9,(c9+((5:Int) * (p0.routes.length:Int)))⟩:Numbering),(0:Int))
 else
 some ((⟨(⟨([]:List Route),([]:List Int),([]:List Int),(0:Int),(0:Int)⟩:Table),(0:Int),([]:List Int),(0:Int),(0:Int)⟩:Numbering),r1)
def cH (p0:Numbering) (p1:Int) (p2:Int):Option Int:=
 aT p0.bases p1 λe1=>
 aD (I64 (e1+p2)) <|
 some (e1+p2)
def dW (p0:Numbering) (p1:Int):Option Int:=
 aB (bH p0 p1) λr1=>
 aD (I64 ((4:Int)+r1)) <|
 aB (cH p0 p1 ((4:Int)+r1)) λr3=>
 some r3
def bZ (p0:Int):Option Expr:=
 some (⟨(3:Int),p0,([]:List Expr)⟩:Expr)
def fX (p0:Numbering) (p1:Int) (p2:Int):Option Int:=
 aD (I64 ((2:Int) * p0.t.sections)) <|
 aD (I64 ((2:Int) * (p0.t.points.length:Int))) <|
 aD (I64 (((2:Int) * p0.t.sections)+((2:Int) * (p0.t.points.length:Int)))) <|
 aD (I64 ((4:Int) * p1)) <|
 aD (I64 ((((2:Int) * p0.t.sections)+((2:Int) * (p0.t.points.length:Int)))+((4:Int) * p1))) <|
 aD (I64 (((((2:Int) * p0.t.sections)+((2:Int) * (p0.t.points.length:Int)))+((4:Int) * p1))+p2)) <|
 some (((((2:Int) * p0.t.sections)+((2:Int) * (p0.t.points.length:Int)))+((4:Int) * p1))+p2)
def dU (p0:Numbering) (p1:Int) (p2:Int):Option Int:=
 aD (I64 ((2:Int) * p1)) <|
 aD (I64 (((2:Int) * p1)+p2)) <|
 some (((2:Int) * p1)+p2)
def dJ (p0:(List Expr)):Option Expr:=
 some (⟨(6:Int),(0:Int),p0⟩:Expr)
def cG (p0:(List Expr)):Option Expr:=
 some (⟨(5:Int),(0:Int),p0⟩:Expr)
def eG (p0:Numbering) (p1:Int):Option Int:=
 aB (dW p0 p1) λr1=>
 aD (I64 (r1+(1:Int))) <|
 some (r1+(1:Int))
def cP (p0:Expr):Option Expr:=
 some (⟨(4:Int),(0:Int),([p0]:List Expr)⟩:Expr)
def aV (p0:Numbering) (p1:Int) (p2:Int):Option Int:=
 aD (I64 ((5:Int) * p1)) <|
 aD (I64 (p0.extra+((5:Int) * p1))) <|
 aD (I64 ((p0.extra+((5:Int) * p1))+p2)) <|
 some ((p0.extra+((5:Int) * p1))+p2)
def iC (p0:List (List Setting)):Option (List Setting):=
 aD (p0.length≤1000∧p0.flatten.length≤1000000000) <|
 some p0.flatten
def kN (p0:Int):Option Bool:=
 some (!(decide (p0=p0)))
def iG (p0:Int) (p1:Int):Option Int:=
 aB (kN p0) λr1=>
 aB (kN p1) λr2=>
 if r1=true then
 if r2=true then
 some (0:Int)
 else
 some (-1:Int)
 else
 if r2=true then
 some (1:Int)
 else
 if p0 < p1 then
 some (-1:Int)
 else
 if p1 < p0 then
 some (1:Int)
 else
 some (0:Int)
def pJ (p0:(List Int)):Option Int:=
 cR (
 aQ (λx3=>
 if x3 < (p0.length:Int) then
 aT p0 x3 λe6=>
 if e6=(0:Int) then
 aD (I64 (x3+(1:Int))) <|
 some (.inl (x3+(1:Int)))
 else
 aI (
 aI (
 some e6))
 else
 aI (
 some (.inl ()))) (0:Int)) λ_=>
 some (0:Int)
def dF (p0:Setting) (p1:Setting):Option Int:=
 aB (iG p0.el p1.el) λr1=>
 aB (iG p0.pos p1.pos) λr2=>
 aB (pJ ([r1,r2]:List Int)) λr3=>
 some r3
def eI (p0:Route):Option ((List Setting)):=
 aB (iC ([p0.points,p0.overPoints,p0.flank]:List (List Setting))) λr1=>
 aD (r1.length≤1000000000) <|
 aB (
 aQ (λ(x8,b9)=>
 if x8 < ((pV dF r1).length:Int) then
 aT (pV dF r1) x8 λe12=>
 aB (
 if x8=(0:Int) then
 some true
 else
 aD (I64 (x8 - (1:Int))) <|
 aT (pV dF r1) (x8 - (1:Int)) λe17=>
 aD (Setting.ok e12∧Setting.ok e17) <|
 some (!(decide (e12=e17)))) λx13=>
 if x13=true then
 aD ((b9++([e12]:List Setting)).length≤1000000000) <|
 aD (I64 (x8+(1:Int))) <|
 some (.inl ((x8+(1:Int)),(b9++([e12]:List Setting))))
 else
 aD (I64 (x8+(1:Int))) <|
 some (.inl ((x8+(1:Int)),b9))
 else
 aI (
 some b9)) ((0:Int),([]:List Setting))) λb3=>
 some b3
def gG (p0:Numbering) (p1:Int) (p2:Int):Option Int:=
 aD (I64 ((2:Int) * p0.t.sections)) <|
 aD (I64 ((2:Int) * p1)) <|
 aD (I64 (((2:Int) * p0.t.sections)+((2:Int) * p1))) <|
 aD (I64 ((((2:Int) * p0.t.sections)+((2:Int) * p1))+p2)) <|
 some ((((2:Int) * p0.t.sections)+((2:Int) * p1))+p2)
def eO (p0:Route) (p1:Route):Option Bool:=
 some ((decide ((0:Int)≤p0.exit))&&(decide (p1.entry=p0.exit)))
def dR (p0:(List Int)) (p1:Int):Option Bool:=
 aB (dC p0 p1) λr1=>
 some (decide ((0:Int)≤r1))
def gI (p0:(List Setting)) (p1:Setting):Option Int:=
 cR (
 aQ (λx3=>
 if x3 < (p0.length:Int) then
 aT p0 x3 λe6=>
 aD (Setting.ok p1∧Setting.ok e6) <|
 if p1=e6 then
 aI (
 aI (
 some x3))
 else
 aD (I64 (x3+(1:Int))) <|
 some (.inl (x3+(1:Int)))
 else
 aI (
 some (.inl ()))) (0:Int)) λ_=>
 some (-1:Int)
def cA (p0:(List Setting)) (p1:Setting):Option Bool:=
 aB (gI p0 p1) λr1=>
 some (decide ((0:Int)≤r1))
def eC (p0:Numbering) (p1:Int):Option Int:=
 aD (I64 (p0.inputs+p1)) <|
 some (p0.inputs+p1)
def mA (n:Nat):ByteArray:=⟨(Go.Lib.decDigits n).toArray⟩
def iI (p0:Int):Option ByteArray:=aD (0≤p0∧p0 < 100) <| some (mA p0.toNat)
def bN (p0:Int) (p1:(List ByteArray)) (p2:(List ByteArray)):Option ((List ByteArray)):=
 aQ (λ(x4,b5)=>
 if x4 < (p1.length:Int) then
 aT p1 x4 λe8=>
 aD (e8.size+(⟨#[46]⟩:ByteArray).size≤9223372036854775807) <|
 aB (iI p0) λr10=>
 aD ((e8++(⟨#[46]⟩:ByteArray)).size+r10.size≤9223372036854775807) <|
 aD ((b5++([((e8++(⟨#[46]⟩:ByteArray))++r10)]:List ByteArray)).length≤1000000000) <|
 aD (I64 (x4+(1:Int))) <|
 some (.inl ((x4+(1:Int)),(b5++([((e8++(⟨#[46]⟩:ByteArray))++r10)]:List ByteArray))))
 else
 aI (
 some b5)) ((0:Int),p2)
def fJ (p0:Numbering):Option ((List ByteArray)):=
 aB (
 aQ (λ(x6,b7)=>
 if x6 < p0.t.sections then
 aB (bN x6 ([(⟨#[102,114,101,101]⟩:ByteArray),(⟨#[111,112,101,110]⟩:ByteArray)]:List ByteArray) b7) λr10=>
 aD (I64 (x6+(1:Int))) <|
 some (.inl ((x6+(1:Int)),r10))
 else
 aI (
 some b7)) ((0:Int),([]:List ByteArray))) λb1=>
 aB (
 aQ (λ(x18,b19)=>
 if x18 < (p0.t.points.length:Int) then
 aB (bN x18 ([(⟨#[110,111,114,109,97,108]⟩:ByteArray),(⟨#[114,101,118,101,114,115,101]⟩:ByteArray)]:List ByteArray) b19) λr22=>
 aD (I64 (x18+(1:Int))) <|
 some (.inl ((x18+(1:Int)),r22))
 else
 aI (
 some b19)) ((0:Int),b1)) λb13=>
 aB (
 aQ (λ(x30,b31)=>
 if x30 < (p0.t.routes.length:Int) then
 aB (bN x30 ([(⟨#[117,110,99,108,97,105,109,101,100]⟩:ByteArray),(⟨#[112,97,115,115,101,100]⟩:ByteArray),(⟨#[99,97,108,108]⟩:ByteArray),(⟨#[99,97,110,99,101,108]⟩:ByteArray)]:List ByteArray) b31) λr34=>
 aD (I64 (x30+(1:Int))) <|
 some (.inl ((x30+(1:Int)),r34))
 else
 aI (
 some b31)) ((0:Int),b13)) λb25=>
 aB (
 aQ (λ(x42,b43)=>
 if x42 < (p0.t.points.length:Int) then
 aB (bN x42 ([(⟨#[108,105,101]⟩:ByteArray)]:List ByteArray) b43) λr46=>
 aD (I64 (x42+(1:Int))) <|
 some (.inl ((x42+(1:Int)),r46))
 else
 aI (
 some b43)) ((0:Int),b25)) λb37=>
 aB (
 aQ (λ(x54,b55)=>
 if x54 < (p0.t.routes.length:Int) then
 aB (
 aB (bN x54 ([(⟨#[115,101,116]⟩:ByteArray),(⟨#[99,108,101,97,114]⟩:ByteArray),(⟨#[117,115,101,100]⟩:ByteArray),(⟨#[104,101,108,100]⟩:ByteArray)]:List ByteArray) b55) λr60=>
 aB (
 aB (bH p0 x54) λr63=>
 aQ (λ(x67,b68)=>
 if x67 < r63 then
 aB (iI x54) λr71=>
 aD ((⟨#[114,101,108,46]⟩:ByteArray).size+r71.size≤9223372036854775807) <|
 aB (bN x67 ([((⟨#[114,101,108,46]⟩:ByteArray)++r71)]:List ByteArray) b68) λr73=>
 aD (I64 (x67+(1:Int))) <|
 some (.inl ((x67+(1:Int)),r73))
 else
 aI (
 some b68)) ((0:Int),r60)) λb61=>
 aB (bN x54 ([(⟨#[119,97,105,116]⟩:ByteArray),(⟨#[115,116,97,110,100]⟩:ByteArray)]:List ByteArray) b61) λr76=>
 some r76) λb58=>
 aD (I64 (x54+(1:Int))) <|
 some (.inl ((x54+(1:Int)),b58))
 else
 aI (
 some b55)) ((0:Int),b37)) λb49=>
 aB (
 aQ (λ(x84,b85)=>
 if x84 < (p0.t.routes.length:Int) then
 aB (bN x84 ([(⟨#[107,101,101,112]⟩:ByteArray),(⟨#[117,115,101]⟩:ByteArray),(⟨#[104,111,108,100]⟩:ByteArray),(⟨#[97,99,116]⟩:ByteArray),(⟨#[99,97,108,108,101,100]⟩:ByteArray)]:List ByteArray) b85) λr88=>
 aD (I64 (x84+(1:Int))) <|
 some (.inl ((x84+(1:Int)),r88))
 else
 aI (
 some b85)) ((0:Int),b49)) λb79=>
 some b79
def bI (p0:Builder) (p1:Int) (p2:Int):Option Expr:=
 aB (cH p0.numbering p1 p2) λr1=>
 aB (bZ r1) λr2=>
 some r2
def bL (p0:Builder) (p1:Int) (p2:Int):Option Expr:=
 aB (fX p0.numbering p1 p2) λr1=>
 aB (bZ r1) λr2=>
 some r2
def cK (p0:Builder) (p1:Int) (p2:Int):Option Expr:=
 aD (I64 ((4:Int)+p2)) <|
 aB (cH p0.numbering p1 ((4:Int)+p2)) λr2=>
 aB (bZ r2) λr3=>
 some r3
def bP (p0:Builder) (p1:Int):Option Expr:=
 aB (dU p0.numbering p1 (0:Int)) λr1=>
 aB (bZ r1) λr2=>
 some r2
def dS (p0:Builder) (p1:Int):Option Expr:=
 aB (
 aT p0.numbering.t.routes p1 λe3=>
 aQ (λ(x7,b8)=>
 if x7 < (e3.sections.length:Int) then
 aT e3.sections x7 λe11=>
 aB (bH p0.numbering p1) λr12=>
 if x7 < r12 then
 aB (cK p0 p1 x7) λr14=>
 aB (bP p0 e11) λr15=>
 aB (dJ ([r14,r15]:List Expr)) λr16=>
 aD ((b8++([r16]:List Expr)).length≤1000000000) <|
 aD (I64 (x7+(1:Int))) <|
 some (.inl ((x7+(1:Int)),(b8++([r16]:List Expr))))
 else
 aB (bP p0 e11) λr19=>
 aD ((b8++([r19]:List Expr)).length≤1000000000) <|
 aD (I64 (x7+(1:Int))) <|
 some (.inl ((x7+(1:Int)),(b8++([r19]:List Expr))))
 else
 aI (
 some b8)) ((0:Int),([]:List Expr))) λb1=>
 aB (cG b1) λr23=>
 some r23
def eQ (p0:Builder) (p1:Int):Option Expr:=
 aB (bH p0.numbering p1) λr1=>
 if r1=(0:Int) then
 aB (cG []) λr3=>
 some r3
 else
 aB (bH p0.numbering p1) λr4=>
 aD (I64 (r4 - (1:Int))) <|
 aB (cK p0 p1 (r4 - (1:Int))) λr6=>
 some r6
def fQ (p0:Builder) (p1:Int):Option Builder:=
 aT p0.numbering.t.routes p1 λe1=>
 aB (dW p0.numbering p1) λr2=>
 aB (bI p0 p1 (3:Int)) λr3=>
 aB (bL p0 p1 (0:Int)) λr4=>
 aB (dS p0 p1) λr5=>
 aB (cG ([r3,r4,r5]:List Expr)) λr6=>
 aB (eG p0.numbering p1) λr7=>
 aB (bI p0 p1 (2:Int)) λr8=>
 aB (bL p0 p1 (0:Int)) λr9=>
 aB (eQ p0 p1) λr10=>
 aB (bH p0.numbering p1) λr11=>
 aT e1.sections r11 λe12=>
 aB (bP p0 e12) λr13=>
 aB (cP r13) λr14=>
 aB (cG ([r8,r9,r10,r14]:List Expr)) λr15=>
 aD ((p0.rungs++([(⟨(2:Int),r2,(12:Int),r6⟩:Rung),(⟨(2:Int),r7,(4:Int),r15⟩:Rung)]:List Rung)).length≤1000000000) <|
 some (⟨p0.numbering,(p0.rungs++([(⟨(2:Int),r2,(12:Int),r6⟩:Rung),(⟨(2:Int),r7,(4:Int),r15⟩:Rung)]:List Rung))⟩:Builder)
def dX (p0:Builder) (p1:Int):Option Expr:=
 aT p0.numbering.t.routes p1 λe1=>
 aB (
 aB (fN ([e1.sections,e1.overSections]:List (List Int))) λr4=>
 aQ (λ(x8,b9)=>
 if x8 < (r4.length:Int) then
 aT r4 x8 λe12=>
 aB (bP p0 e12) λr13=>
 aD ((b9++([r13]:List Expr)).length≤1000000000) <|
 aD (I64 (x8+(1:Int))) <|
 some (.inl ((x8+(1:Int)),(b9++([r13]:List Expr))))
 else
 aI (
 some b9)) ((0:Int),([]:List Expr))) λb2=>
 aB (
 aB (eI e1) λr19=>
 aQ (λ(x23,b24)=>
 if x23 < (r19.length:Int) then
 aT r19 x23 λe27=>
 aB (
 if e27.pos=(2:Int) then
 some (1:Int)
 else
 some (0:Int)) λkind28=>
 aB (fF p0.numbering.t e27.el) λr31=>
 aB (gG p0.numbering r31 kind28) λr32=>
 aB (bZ r32) λr33=>
 aD ((b24++([r33]:List Expr)).length≤1000000000) <|
 aD (I64 (x23+(1:Int))) <|
 some (.inl ((x23+(1:Int)),(b24++([r33]:List Expr))))
 else
 aI (
 some b24)) ((0:Int),b2)) λb17=>
 aB (cG b17) λr37=>
 some r37
def cC (p0:Builder) (p1:Int) (p2:Expr):Option Builder:=
 aD ((p0.rungs++([(⟨(1:Int),p1,(0:Int),p2⟩:Rung)]:List Rung)).length≤1000000000) <|
 some (⟨p0.numbering,(p0.rungs++([(⟨(1:Int),p1,(0:Int),p2⟩:Rung)]:List Rung))⟩:Builder)
def eH (p0:Builder) (p1:Int):Option Expr:=
 aB (
 aT p0.numbering.t.routes p1 λe3=>
 aQ (λ(x7,b8)=>
 if x7 < (e3.sections.length:Int) then
 aT e3.sections x7 λe11=>
 aB (bP p0 e11) λr12=>
 aB (
 if (0:Int) < x7 then
 aD (I64 (x7 - (1:Int))) <|
 aB (cK p0 p1 (x7 - (1:Int))) λr17=>
 aD ((([r12]:List Expr)++([r17]:List Expr)).length≤1000000000) <|
 some (([r12]:List Expr)++([r17]:List Expr))
 else
 some ([r12]:List Expr)) λb13=>
 aB (
 aB (bH p0.numbering p1) λr21=>
 if x7 < r21 then
 aB (cK p0 p1 x7) λr23=>
 aB (cP r23) λr24=>
 aD ((b13++([r24]:List Expr)).length≤1000000000) <|
 some (b13++([r24]:List Expr))
 else
 some b13) λb19=>
 aB (cG b19) λr26=>
 aD ((b8++([r26]:List Expr)).length≤1000000000) <|
 aD (I64 (x7+(1:Int))) <|
 some (.inl ((x7+(1:Int)),(b8++([r26]:List Expr))))
 else
 aI (
 some b8)) ((0:Int),([]:List Expr))) λb1=>
 aB (dJ b1) λr30=>
 some r30
def eP (p0:Builder) (p1:Int):Option Expr:=
 aB (bI p0 p1 (0:Int)) λr1=>
 aB (bI p0 p1 (1:Int)) λr2=>
 aB (dJ ([r1,r2]:List Expr)) λr3=>
 aB (bL p0 p1 (3:Int)) λr4=>
 aB (cP r4) λr5=>
 aB (dX p0 p1) λr6=>
 aB (cG ([r3,r5,r6]:List Expr)) λr7=>
 some r7
def fE (p0:Builder) (p1:Int):Option Builder:=
 aT p0.numbering.t.routes p1 λe1=>
 aT e1.sections (0:Int) λe2=>
 aB (bH p0.numbering p1) λr3=>
 aT e1.sections r3 λe4=>
 aB (aV p0.numbering p1 (0:Int)) λr5=>
 aB (bI p0 p1 (0:Int)) λr6=>
 aB (bL p0 p1 (3:Int)) λr7=>
 aB (cP r7) λr8=>
 aB (dX p0 p1) λr9=>
 aB (cP r9) λr10=>
 aB (cG ([r6,r8,r10]:List Expr)) λr11=>
 aB (cC p0 r5 r11) λr12=>
 aB (aV p0.numbering p1 (1:Int)) λr13=>
 aB (bI (⟨p0.numbering,r12.rungs⟩:Builder) p1 (1:Int)) λr14=>
 aB (bP (⟨p0.numbering,r12.rungs⟩:Builder) e2) λr15=>
 aB (cP r15) λr16=>
 aB (cG ([r14,r16]:List Expr)) λr17=>
 aB (bI (⟨p0.numbering,r12.rungs⟩:Builder) p1 (2:Int)) λr18=>
 aB (bL (⟨p0.numbering,r12.rungs⟩:Builder) p1 (0:Int)) λr19=>
 aB (cP r19) λr20=>
 aB (bL (⟨p0.numbering,r12.rungs⟩:Builder) p1 (3:Int)) λr21=>
 aB (dS (⟨p0.numbering,r12.rungs⟩:Builder) p1) λr22=>
 aB (cG ([r21,r22]:List Expr)) λr23=>
 aB (cP r23) λr24=>
 aB (eQ (⟨p0.numbering,r12.rungs⟩:Builder) p1) λr25=>
 aB (bP (⟨p0.numbering,r12.rungs⟩:Builder) e4) λr26=>
 aB (cG ([r25,r26]:List Expr)) λr27=>
 aB (cP r27) λr28=>
 aB (eG p0.numbering p1) λr29=>
 aB (bZ r29) λr30=>
 aB (cP r30) λr31=>
 aB (cG ([r24,r28,r31]:List Expr)) λr32=>
 aB (dJ ([r20,r32]:List Expr)) λr33=>
 aB (cG ([r18,r33]:List Expr)) λr34=>
 aB (bI (⟨p0.numbering,r12.rungs⟩:Builder) p1 (3:Int)) λr35=>
 aB (eH (⟨p0.numbering,r12.rungs⟩:Builder) p1) λr36=>
 aB (cP r36) λr37=>
 aB (cG ([r35,r37]:List Expr)) λr38=>
 aB (dJ ([r17,r34,r38]:List Expr)) λr39=>
 aB (cC (⟨p0.numbering,r12.rungs⟩:Builder) r13 r39) λr40=>
 aB (aV p0.numbering p1 (2:Int)) λr41=>
 aB (bI (⟨p0.numbering,r40.rungs⟩:Builder) p1 (1:Int)) λr42=>
 aB (bP (⟨p0.numbering,r40.rungs⟩:Builder) e2) λr43=>
 aB (bL (⟨p0.numbering,r40.rungs⟩:Builder) p1 (3:Int)) λr44=>
 aB (bL (⟨p0.numbering,r40.rungs⟩:Builder) p1 (0:Int)) λr45=>
 aB (bP (⟨p0.numbering,r40.rungs⟩:Builder) e1.approach) λr46=>
 aB (cG ([r44,r45,r46]:List Expr)) λr47=>
 aB (cP r47) λr48=>
 aB (bL (⟨p0.numbering,r40.rungs⟩:Builder) p1 (3:Int)) λr49=>
 aB (dX (⟨p0.numbering,r40.rungs⟩:Builder) p1) λr50=>
 aB (cP r50) λr51=>
 aB (dJ ([r49,r51]:List Expr)) λr52=>
 aB (cG ([r42,r43,r48,r52]:List Expr)) λr53=>
 aB (bI (⟨p0.numbering,r40.rungs⟩:Builder) p1 (2:Int)) λr54=>
 aB (bL (⟨p0.numbering,r40.rungs⟩:Builder) p1 (0:Int)) λr55=>
 aB (bL (⟨p0.numbering,r40.rungs⟩:Builder) p1 (3:Int)) λr56=>
 aB (dS (⟨p0.numbering,r40.rungs⟩:Builder) p1) λr57=>
 aB (cG ([r54,r55,r56,r57]:List Expr)) λr58=>
 aB (bI (⟨p0.numbering,r40.rungs⟩:Builder) p1 (3:Int)) λr59=>
 aB (eH (⟨p0.numbering,r40.rungs⟩:Builder) p1) λr60=>
 aB (dW p0.numbering p1) λr61=>
 aB (bZ r61) λr62=>
 aB (cP r62) λr63=>
 aB (cG ([r59,r60,r63]:List Expr)) λr64=>
 aB (dJ ([r53,r58,r64]:List Expr)) λr65=>
 aB (cC (⟨p0.numbering,r40.rungs⟩:Builder) r41 r65) λr66=>
 aB (aV p0.numbering p1 (3:Int)) λr67=>
 aB (aV p0.numbering p1 (0:Int)) λr68=>
 aB (bZ r68) λr69=>
 aB (eP (⟨p0.numbering,r66.rungs⟩:Builder) p1) λr70=>
 aB (aV p0.numbering p1 (1:Int)) λr71=>
 aB (bZ r71) λr72=>
 aB (aV p0.numbering p1 (2:Int)) λr73=>
 aB (bZ r73) λr74=>
 aB (dJ ([r69,r70,r72,r74]:List Expr)) λr75=>
 aB (cC (⟨p0.numbering,r66.rungs⟩:Builder) r67 r75) λr76=>
 some (⟨p0.numbering,r76.rungs⟩:Builder)
def fY (p0:Builder) (p1:Int):Option Builder:=
 aT p0.numbering.t.routes p1 λe1=>
 aB (
 aB (bH p0.numbering p1) λr4=>
 aD (I64 (r4 - (1:Int))) <|
 aQ (λ(k9,b10)=>
 if (0:Int)≤k9 then
 aB (bI (⟨p0.numbering,b10⟩:Builder) p1 (2:Int)) λr13=>
 aB (aV p0.numbering p1 (1:Int)) λr14=>
 aB (bZ r14) λr15=>
 aB (bL (⟨p0.numbering,b10⟩:Builder) p1 (0:Int)) λr16=>
 aT e1.sections k9 λe17=>
 aB (bP (⟨p0.numbering,b10⟩:Builder) e17) λr18=>
 aD (I64 (k9+(1:Int))) <|
 aT e1.sections (k9+(1:Int)) λe20=>
 aB (bP (⟨p0.numbering,b10⟩:Builder) e20) λr21=>
 aB (cP r21) λr22=>
 aB (bL (⟨p0.numbering,b10⟩:Builder) p1 (1:Int)) λr23=>
 aB (dJ ([r22,r23]:List Expr)) λr24=>
 aB (
 if (0:Int) < k9 then
 aD (I64 (k9 - (1:Int))) <|
 aB (cK (⟨p0.numbering,b10⟩:Builder) p1 (k9 - (1:Int))) λr29=>
 aD ((([r13,r15,r16,r18,r24]:List Expr)++([r29]:List Expr)).length≤1000000000) <|
 some (([r13,r15,r16,r18,r24]:List Expr)++([r29]:List Expr))
 else
 some ([r13,r15,r16,r18,r24]:List Expr)) λb25=>
 aD (I64 ((4:Int)+k9)) <|
 aB (cH p0.numbering p1 ((4:Int)+k9)) λr32=>
 aB (aV p0.numbering p1 (1:Int)) λr33=>
 aB (bZ r33) λr34=>
 aB (aV p0.numbering p1 (2:Int)) λr35=>
 aB (bZ r35) λr36=>
 aB (dJ ([r34,r36]:List Expr)) λr37=>
 aB (cK (⟨p0.numbering,b10⟩:Builder) p1 k9) λr38=>
 aB (cG b25) λr39=>
 aB (dJ ([r38,r39]:List Expr)) λr40=>
 aB (cG ([r37,r40]:List Expr)) λr41=>
 aB (cC (⟨p0.numbering,b10⟩:Builder) r32 r41) λr42=>
 aD (I64 (k9 - (1:Int))) <|
 some (.inl ((k9 - (1:Int)),r42.rungs))
 else
 aI (
 some b10)) ((r4 - (1:Int)),p0.rungs)) λb2=>
 aB (cH p0.numbering p1 (1:Int)) λr45=>
 aB (eP (⟨p0.numbering,b2⟩:Builder) p1) λr46=>
 aB (cC (⟨p0.numbering,b2⟩:Builder) r45 r46) λr47=>
 aB (cH p0.numbering p1 (2:Int)) λr48=>
 aB (aV p0.numbering p1 (1:Int)) λr49=>
 aB (bZ r49) λr50=>
 aB (cC (⟨p0.numbering,r47.rungs⟩:Builder) r48 r50) λr51=>
 aB (cH p0.numbering p1 (3:Int)) λr52=>
 aB (aV p0.numbering p1 (2:Int)) λr53=>
 aB (bZ r53) λr54=>
 aB (cC (⟨p0.numbering,r51.rungs⟩:Builder) r52 r54) λr55=>
 some (⟨p0.numbering,r55.rungs⟩:Builder)
def bQ (p0:Int) (p1:Builder) (p2:Int) (p3:Bool) (p4:(List Int)):Option (Bool×(List Int)):=
 aB (
 if p0 < (0:Int) then
 some true
 else
 aB (bH p1.numbering p2) λr4=>
 some (decide (p0=r4))) λx1=>
 if x1=true then
 some (true,p4)
 else
 aB (dR p4 p0) λr6=>
 if (!(r6))=true then
 aD ((p4++([p0]:List Int)).length≤1000000000) <|
 some (p3,(p4++([p0]:List Int)))
 else
 some (p3,p4)
def fR (p0:Builder) (p1:Int) (p2:Int):Option (Bool×(List Int)):=
 aT p0.numbering.t.routes p1 λe1=>
 aT p0.numbering.t.routes p2 λe2=>
 aB (eO e2 e1) λr3=>
 aB (eO e1 e2) λr4=>
 aB (
 aQ (λ(x12,c13,b14)=>
 if x12 < (e1.sections.length:Int) then
 aT e1.sections x12 λe17=>
 aB (
 aB (dC e2.sections e17) λr21=>
 if (0:Int)≤r21 then
 aB (bQ r21 p0 p2 c13 b14) λ(r24,r25)=>
 some (r24,r25)
 else
 some (c13,b14)) λ(c18,b19)=>
 if c18=true then
 aD (I64 (x12+(1:Int))) <|
 some (.inl ((x12+(1:Int)),true,b19))
 else
 aB (dR e2.overSections e17) λr27=>
 if r27=true then
 aD (I64 (x12+(1:Int))) <|
 some (.inl ((x12+(1:Int)),!(r3),b19))
 else
 aD (I64 (x12+(1:Int))) <|
 some (.inl ((x12+(1:Int)),false,b19))
 else
 aI (
 some (c13,b14))) ((0:Int),false,([]:List Int))) λ(c5,b6)=>
 aB (
 aQ (λ(x40,c41,b42)=>
 if x40 < (e1.overSections.length:Int) then
 aT e1.overSections x40 λe45=>
 aB (
 aB (dC e2.sections e45) λr49=>
 if ((decide ((0:Int)≤r49))&&(!(r4)))=true then
 aB (bQ r49 p0 p2 c41 b42) λ(r53,r54)=>
 some (r53,r54)
 else
 some (c41,b42)) λ(c46,b47)=>
 if c46=true then
 aD (I64 (x40+(1:Int))) <|
 some (.inl ((x40+(1:Int)),true,b47))
 else
 aB (dR e2.overSections e45) λr56=>
 if r56=true then
 if (!(r3))=true then
 aD (I64 (x40+(1:Int))) <|
 some (.inl ((x40+(1:Int)),!(r4),b47))
 else
 aD (I64 (x40+(1:Int))) <|
 some (.inl ((x40+(1:Int)),false,b47))
 else
 aD (I64 (x40+(1:Int))) <|
 some (.inl ((x40+(1:Int)),false,b47))
 else
 aI (
 some (c41,b42))) ((0:Int),c5,b6)) λ(c33,b34)=>
 aB (
 aB (eI e1) λr67=>
 aQ (λ(x72,c73,b74)=>
 if x72 < (r67.length:Int) then
 aT r67 x72 λe77=>
 aD (I64 ((3:Int) - e77.pos)) <|
 aB (
 aB (cA e2.overPoints (⟨e77.el,((3:Int) - e77.pos)⟩:Setting)) λr81=>
 if r81=true then
 some true
 else
 aB (cA e2.flank (⟨e77.el,((3:Int) - e77.pos)⟩:Setting)) λr83=>
 some r83) λx79=>
 if x79=true then
 aD (I64 (x72+(1:Int))) <|
 some (.inl ((x72+(1:Int)),true,b74))
 else
 aB (cA e2.points (⟨e77.el,((3:Int) - e77.pos)⟩:Setting)) λr86=>
 if r86=true then
 aB (fF p0.numbering.t e77.el) λr88=>
 aT p0.numbering.t.homes r88 λe89=>
 aB (dC e2.sections e89) λr90=>
 aB (bQ r90 p0 p2 c73 b74) λ(r92,r93)=>
 aD (I64 (x72+(1:Int))) <|
 some (.inl ((x72+(1:Int)),r92,r93))
 else
 aD (I64 (x72+(1:Int))) <|
 some (.inl ((x72+(1:Int)),c73,b74))
 else
 aI (
 some (c73,b74))) ((0:Int),c33,b34)) λ(c64,b65)=>
 some (c64,b65)
def fZ (p0:Builder) (p1:Int) (p2:Int):Option ((List Expr)):=
 aB (fR p0 p1 p2) λ(r2,r3)=>
 aB (aV p0.numbering p2 (3:Int)) λr4=>
 aB (bZ r4) λr5=>
 aB (
 if p2 < p1 then
 aB (aV p0.numbering p2 (4:Int)) λr11=>
 aB (bZ r11) λr12=>
 aB (dJ ([r5,r12]:List Expr)) λr13=>
 some (r13.op,r13.var,r13.args)
 else
 some (r5.op,r5.var,r5.args)) λ(c6,c7,c8)=>
 if r2=true then
 aB (cP (⟨c6,c7,c8⟩:Expr)) λr15=>
 some ([r15]:List Expr)
 else
 if (r3.length:Int)=(0:Int) then
 some ([]:List Expr)
 else
 aB (cP (⟨c6,c7,c8⟩:Expr)) λr17=>
 aB (
 aQ (λ(x23,b24)=>
 if x23 < (r3.length:Int) then
 aT r3 x23 λe27=>
 aB (cK p0 p2 e27) λr28=>
 aD ((b24++([r28]:List Expr)).length≤1000000000) <|
 aD (I64 (x23+(1:Int))) <|
 some (.inl ((x23+(1:Int)),(b24++([r28]:List Expr))))
 else
 aI (
 some b24)) ((0:Int),([]:List Expr))) λb18=>
 aB (cG b18) λr32=>
 aD ((([r17]:List Expr)++([r32]:List Expr)).length≤1000000000) <|
 aB (dJ (([r17]:List Expr)++([r32]:List Expr))) λr34=>
 some ([r34]:List Expr)
def fS (p0:Builder) (p1:Int):Option Expr:=
 aT p0.numbering.t.routes p1 λe1=>
 aB (bL p0 p1 (2:Int)) λr2=>
 aB (aV p0.numbering p1 (3:Int)) λr3=>
 aB (bZ r3) λr4=>
 aB (cP r4) λr5=>
 aB (
 aB (fN ([e1.sections,e1.overSections]:List (List Int))) λr8=>
 aQ (λ(x12,b13)=>
 if x12 < (r8.length:Int) then
 aT r8 x12 λe16=>
 aB (dU p0.numbering e16 (1:Int)) λr17=>
 aB (bZ r17) λr18=>
 aD ((b13++([r18]:List Expr)).length≤1000000000) <|
 aD (I64 (x12+(1:Int))) <|
 some (.inl ((x12+(1:Int)),(b13++([r18]:List Expr))))
 else
 aI (
 some b13)) ((0:Int),([r2,r5]:List Expr))) λb6=>
 aB (
 aQ (λ(x27,b28)=>
 if x27 < (p0.numbering.t.routes.length:Int) then
 if x27=p1 then
 aD (I64 (x27+(1:Int))) <|
 some (.inl ((x27+(1:Int)),b28))
 else
 aB (fZ p0 p1 x27) λr32=>
 aD ((b28++r32).length≤1000000000) <|
 aD (I64 (x27+(1:Int))) <|
 some (.inl ((x27+(1:Int)),(b28++r32)))
 else
 aI (
 some b28)) ((0:Int),b6)) λb22=>
 aB (
 aB (eI e1) λr39=>
 aQ (λ(x43,b44)=>
 if x43 < (r39.length:Int) then
 aT r39 x43 λe47=>
 aB (fF p0.numbering.t e47.el) λr48=>
 aB (eC p0.numbering r48) λr49=>
 aB (bZ r49) λr50=>
 aB (
 if e47.pos=(1:Int) then
 aB (cP r50) λr56=>
 some (r56.op,r56.var,r56.args)
 else
 some (r50.op,r50.var,r50.args)) λ(c51,c52,c53)=>
 aT p0.numbering.t.homes r48 λe57=>
 aB (bP p0 e57) λr58=>
 aB (dJ ([(⟨c51,c52,c53⟩:Expr),r58]:List Expr)) λr59=>
 aD ((b44++([r59]:List Expr)).length≤1000000000) <|
 aD (I64 (x43+(1:Int))) <|
 some (.inl ((x43+(1:Int)),(b44++([r59]:List Expr))))
 else
 aI (
 some b44)) ((0:Int),b22)) λb37=>
 aB (cG b37) λr63=>
 some r63
def gL (p0:Builder) (p1:Int):Option Expr:=
 aB (
 aQ (λ(x8,b9,b10)=>
 if x8 < (p0.numbering.t.routes.length:Int) then
 aB (
 aT p0.numbering.t.routes x8 λe16=>
 aB (eI e16) λr17=>
 aQ (λ(x22,b23,b24)=>
 if x22 < (r17.length:Int) then
 aT r17 x22 λe27=>
 aT p0.numbering.t.points p1 λe28=>
 if e27.el=e28 then
 if e27.pos=(2:Int) then
 aB (aV p0.numbering x8 (4:Int)) λr32=>
 aB (bZ r32) λr33=>
 aD ((b24++([r33]:List Expr)).length≤1000000000) <|
 aD (I64 (x22+(1:Int))) <|
 some (.inl ((x22+(1:Int)),b23,(b24++([r33]:List Expr))))
 else
 aB (aV p0.numbering x8 (4:Int)) λr36=>
 aB (bZ r36) λr37=>
 aD ((b23++([r37]:List Expr)).length≤1000000000) <|
 aD (I64 (x22+(1:Int))) <|
 some (.inl ((x22+(1:Int)),(b23++([r37]:List Expr)),b24))
 else
 aD (I64 (x22+(1:Int))) <|
 some (.inl ((x22+(1:Int)),b23,b24))
 else
 aI (
 some (b23,b24))) ((0:Int),b9,b10)) λ(b13,b14)=>
 aD (I64 (x8+(1:Int))) <|
 some (.inl ((x8+(1:Int)),b13,b14))
 else
 aI (
 some (b9,b10))) ((0:Int),([]:List Expr),([]:List Expr))) λ(b1,b2)=>
 aB (dJ b2) λr43=>
 aB (eC p0.numbering p1) λr44=>
 aB (bZ r44) λr45=>
 aB (dJ b1) λr46=>
 aB (cP r46) λr47=>
 aB (cG ([r45,r47]:List Expr)) λr48=>
 aB (dJ ([r43,r48]:List Expr)) λr49=>
 some r49
def gS (p0:Table):Option (Program×Int):=
 aB (iW p0) λ(r2,r3)=>
 if r3=(0:Int) then
 aB (
 aQ (λ(x10,b11)=>
 if x10 < (p0.routes.length:Int) then
 aB (fQ (⟨r2,b11⟩:Builder) x10) λr14=>
 aD (I64 (x10+(1:Int))) <|
 some (.inl ((x10+(1:Int)),r14.rungs))
 else
 aI (
 some b11)) ((0:Int),([]:List Rung))) λb5=>
 aB (
 aQ (λ(x22,b23)=>
 if x22 < (p0.routes.length:Int) then
 aB (fE (⟨r2,b23⟩:Builder) x22) λr26=>
 aD (I64 (x22+(1:Int))) <|
 some (.inl ((x22+(1:Int)),r26.rungs))
 else
 aI (
 some b23)) ((0:Int),b5)) λb17=>
 aB (
 aQ (λ(x34,b35)=>
 if x34 < (p0.routes.length:Int) then
 aB (fY (⟨r2,b35⟩:Builder) x34) λr38=>
 aD (I64 (x34+(1:Int))) <|
 some (.inl ((x34+(1:Int)),r38.rungs))
 else
 aI (
 some b35)) ((0:Int),b17)) λb29=>
 aB (
 aQ (λ(x46,b47)=>
 if x46 < (p0.routes.length:Int) then
 aB (aV r2 x46 (4:Int)) λr50=>
 aB (fS (⟨r2,b47⟩:Builder) x46) λr51=>
 aB (cC (⟨r2,b47⟩:Builder) r50 r51) λr52=>
 aD (I64 (x46+(1:Int))) <|
 some (.inl ((x46+(1:Int)),r52.rungs))
 else
 aI (
 some b47)) ((0:Int),b29)) λb41=>
 aB (
 aQ (λ(x60,b61)=>
 if x60 < (p0.points.length:Int) then
 aB (eC r2 x60) λr64=>
 aB (gL (⟨r2,b61⟩:Builder) x60) λr65=>
 aB (cC (⟨r2,b61⟩:Builder) r64 r65) λr66=>
 aD (I64 (x60+(1:Int))) <|
 some (.inl ((x60+(1:Int)),r66.rungs))
 else
 aI (
 some b61)) ((0:Int),b41)) λb55=>
 aB (
 aQ (λ(x74,b75)=>
 if x74 < (p0.routes.length:Int) then
 aB (cH r2 x74 (0:Int)) λr78=>
 aB (aV r2 x74 (0:Int)) λr79=>
 aB (bZ r79) λr80=>
 aB (aV r2 x74 (4:Int)) λr81=>
 aB (bZ r81) λr82=>
 aB (dJ ([r80,r82]:List Expr)) λr83=>
 aB (cC (⟨r2,b75⟩:Builder) r78 r83) λr84=>
 aD (I64 (x74+(1:Int))) <|
 some (.inl ((x74+(1:Int)),r84.rungs))
 else
 aI (
 some b75)) ((0:Int),b55)) λb69=>
 aB (fJ r2) λr87=>
 some ((⟨r87,r2.inputs,b69⟩:Program),(0:Int))
 else
 some ((⟨([]:List ByteArray),(0:Int),([]:List Rung)⟩:Program),r3)
def jZ (p0:ByteArray) (p1:ByteArray) (p2:(List Int)):Option ByteArray:=
 aB (
 aQ (λ(word5,x6)=>
 if x6 < (p2.length:Int) then
 aT p2 x6 λe9=>
 aB (iI e9) λr10=>
 aD (p1.size+r10.size≤9223372036854775807) <|
 aD (word5.size+(p1++r10).size≤9223372036854775807) <|
 aD (I64 (x6+(1:Int))) <|
 some (.inl ((word5++(p1++r10)),(x6+(1:Int))))
 else
 aI (
 some word5)) (p0,(0:Int))) λword1=>
 some word1
def lD (p0:(List Expr)):Option Expr:=
 some (⟨(6:Int),(0:Int),p0⟩:Expr)
def fO (p0:Expr):Option Expr:=
 some (⟨(4:Int),(0:Int),([p0]:List Expr)⟩:Expr)
def iO (p0:(List Expr)):Option Expr:=
 some (⟨(5:Int),(0:Int),p0⟩:Expr)
def aY (p0:Collector) (p1:ByteArray) (p2:(List Int)):Option Expr:=
 aB (jZ p1 (⟨#[46]⟩:ByteArray) p2) λr1=>
 aD (p0.vars.map (·.1)).Nodup <|
 some (⟨(3:Int),((gC p0.vars r1).getD (0:Int)),([]:List Expr)⟩:Expr)
def cL (p0:Collector) (p1:Int):Option Expr:=
 aB (aY p0 (⟨#[115,101,116]⟩:ByteArray) ([p1]:List Int)) λr1=>
 aB (aY p0 (⟨#[99,108,101,97,114]⟩:ByteArray) ([p1]:List Int)) λr2=>
 aB (aY p0 (⟨#[117,115,101,100]⟩:ByteArray) ([p1]:List Int)) λr3=>
 aB (aY p0 (⟨#[104,101,108,100]⟩:ByteArray) ([p1]:List Int)) λr4=>
 aB (lD ([r1,r2,r3,r4]:List Expr)) λr5=>
 some r5
def cQ (p0:Collector) (p1:Int) (p2:Int):Option Expr:=
 aT p0.table.routes p1 λe1=>
 aD (I64 ((e1.sections.length:Int) - (1:Int))) <|
 if p2=((e1.sections.length:Int) - (1:Int)) then
 aB (cL p0 p1) λr4=>
 some r4
 else
 aB (cL p0 p1) λr5=>
 aB (aY p0 (⟨#[114,101,108]⟩:ByteArray) ([p1,p2]:List Int)) λr6=>
 aB (fO r6) λr7=>
 aB (iO ([r5,r7]:List Expr)) λr8=>
 some r8
def dE (p0:Collector) (p1:Expr) (p2:ByteArray) (p3:(List Int)):Option Collector:=
 aB (jZ p2 (⟨#[32]⟩:ByteArray) p3) λr1=>
 aD ((p0.list++([(⟨r1,p1⟩:Obligation)]:List Obligation)).length≤1000000000) <|
 some (⟨p0.table,p0.vars,(p0.list++([(⟨r1,p1⟩:Obligation)]:List Obligation))⟩:Collector)
def eL (p0:Collector):Option Collector:=
 aQ (λ(x4,b5)=>
 if x4 < (p0.table.routes.length:Int) then
 aB (
 aD (I64 (x4+(1:Int))) <|
 aQ (λ(b14,b15)=>
 if b14 < (p0.table.routes.length:Int) then
 aB (
 aT p0.table.routes x4 λe20=>
 aQ (λ(x24,b25)=>
 if x24 < (e20.sections.length:Int) then
 aT e20.sections x24 λe28=>
 aT p0.table.routes b14 λe29=>
 aB (dC e29.sections e28) λr30=>
 if (0:Int)≤r30 then
 aB (cQ (⟨p0.table,p0.vars,b25⟩:Collector) x4 x24) λr32=>
 aB (cQ (⟨p0.table,p0.vars,b25⟩:Collector) b14 r30) λr33=>
 aB (iO ([r32,r33]:List Expr)) λr34=>
 aB (fO r34) λr35=>
 aB (dE (⟨p0.table,p0.vars,b25⟩:Collector) r35 (⟨#[112,97,116,104]⟩:ByteArray) ([x4,b14,e28]:List Int)) λr36=>
 aD (I64 (x24+(1:Int))) <|
 some (.inl ((x24+(1:Int)),r36.list))
 else
 aD (I64 (x24+(1:Int))) <|
 some (.inl ((x24+(1:Int)),b25))
 else
 aI (
 some b25)) ((0:Int),b15)) λb18=>
 aD (I64 (b14+(1:Int))) <|
 some (.inl ((b14+(1:Int)),b18))
 else
 aI (
 some b15)) ((x4+(1:Int)),b5)) λb8=>
 aD (I64 (x4+(1:Int))) <|
 some (.inl ((x4+(1:Int)),b8))
 else
 aI (
 some (⟨p0.table,p0.vars,b5⟩:Collector))) ((0:Int),p0.list)
def dT (p0:Collector):Option Collector:=
 aQ (λ(x4,b5)=>
 if x4 < (p0.table.routes.length:Int) then
 aB (
 aT p0.table.routes x4 λe10=>
 aQ (λ(x14,b15)=>
 if x14 < (p0.table.routes.length:Int) then
 aB (
 aT p0.table.routes x14 λe20=>
 aB (
 if x4=x14 then
 some true
 else
 aB (eO e10 e20) λr24=>
 some r24) λx21=>
 if x21=true then
 some b15
 else
 aQ (λ(x29,b30)=>
 if x29 < (e10.overSections.length:Int) then
 aT e10.overSections x29 λe33=>
 aB (dC e20.sections e33) λr34=>
 if (0:Int)≤r34 then
 aB (cL (⟨p0.table,p0.vars,b30⟩:Collector) x4) λr36=>
 aB (cQ (⟨p0.table,p0.vars,b30⟩:Collector) x14 r34) λr37=>
 aB (iO ([r36,r37]:List Expr)) λr38=>
 aB (fO r38) λr39=>
 aB (dE (⟨p0.table,p0.vars,b30⟩:Collector) r39 (⟨#[111,118,101,114]⟩:ByteArray) ([x4,x14,e33]:List Int)) λr40=>
 aD (I64 (x29+(1:Int))) <|
 some (.inl ((x29+(1:Int)),r40.list))
 else
 aD (I64 (x29+(1:Int))) <|
 some (.inl ((x29+(1:Int)),b30))
 else
 aI (
 some b30)) ((0:Int),b15)) λb18=>
 aD (I64 (x14+(1:Int))) <|
 some (.inl ((x14+(1:Int)),b18))
 else
 aI (
 some b15)) ((0:Int),b5)) λb8=>
 aD (I64 (x4+(1:Int))) <|
 some (.inl ((x4+(1:Int)),b8))
 else
 aI (
 some (⟨p0.table,p0.vars,b5⟩:Collector))) ((0:Int),p0.list)
def eM (p0:Collector) (p1:Int) (p2:Setting):Option Expr:=
 aT p0.table.routes p1 λe1=>
 aB (fF p0.table p2.el) λr2=>
 aT p0.table.homes r2 λe3=>
 aB (dC e1.sections e3) λr4=>
 aB (
 if r4 < (0:Int) then
 some true
 else
 aB (cA e1.overPoints p2) λr8=>
 if r8=true then
 some true
 else
 aB (cA e1.flank p2) λr10=>
 some r10) λx5=>
 if x5=true then
 aB (cL p0 p1) λr12=>
 some r12
 else
 aB (cQ p0 p1 r4) λr13=>
 some r13
def eY (p0:Collector) (p1:Int):Option Collector:=
 aT p0.table.routes p1 λe1=>
 aB (eI e1) λr2=>
 aQ (λ(x6,b7)=>
 if x6 < (r2.length:Int) then
 aT r2 x6 λe10=>
 aB (fF p0.table e10.el) λr11=>
 aB (aY (⟨p0.table,p0.vars,b7⟩:Collector) (⟨#[108,105,101]⟩:ByteArray) ([r11]:List Int)) λr12=>
 aB (
 if e10.pos=(1:Int) then
 aB (fO r12) λr18=>
 some (r18.op,r18.var,r18.args)
 else
 some (r12.op,r12.var,r12.args)) λ(c13,c14,c15)=>
 aB (eM (⟨p0.table,p0.vars,b7⟩:Collector) p1 e10) λr19=>
 aB (fO r19) λr20=>
 aB (lD ([r20,(⟨c13,c14,c15⟩:Expr)]:List Expr)) λr21=>
 aB (dE (⟨p0.table,p0.vars,b7⟩:Collector) r21 (⟨#[108,105,101]⟩:ByteArray) ([p1,r11]:List Int)) λr22=>
 aD (I64 (x6+(1:Int))) <|
 some (.inl ((x6+(1:Int)),r22.list))
 else
 aI (
 some (⟨p0.table,p0.vars,b7⟩:Collector))) ((0:Int),p0.list)
def eE (p0:Collector) (p1:Int):Option Collector:=
 aT p0.table.routes p1 λe1=>
 aB (
 aB (fN ([e1.sections,e1.overSections]:List (List Int))) λr4=>
 aQ (λ(x8,b9)=>
 if x8 < (r4.length:Int) then
 aT r4 x8 λe12=>
 aB (aY p0 (⟨#[102,114,101,101]⟩:ByteArray) ([e12]:List Int)) λr13=>
 aD ((b9++([r13]:List Expr)).length≤1000000000) <|
 aD (I64 (x8+(1:Int))) <|
 some (.inl ((x8+(1:Int)),(b9++([r13]:List Expr))))
 else
 aI (
 some b9)) ((0:Int),([]:List Expr))) λb2=>
 aB (
 aB (eI e1) λr19=>
 aQ (λ(x23,b24)=>
 if x23 < (r19.length:Int) then
 aT r19 x23 λe27=>
 aB (
 if e27.pos=(2:Int) then
 some (⟨#[114,101,118,101,114,115,101]⟩:ByteArray)
 else
 some (⟨#[110,111,114,109,97,108]⟩:ByteArray)) λword28=>
 aB (fF p0.table e27.el) λr31=>
 aB (aY p0 word28 ([r31]:List Int)) λr32=>
 aD ((b24++([r32]:List Expr)).length≤1000000000) <|
 aD (I64 (x23+(1:Int))) <|
 some (.inl ((x23+(1:Int)),(b24++([r32]:List Expr))))
 else
 aI (
 some b24)) ((0:Int),b2)) λb17=>
 aB (aY p0 (⟨#[99,108,101,97,114]⟩:ByteArray) ([p1]:List Int)) λr36=>
 aB (fO r36) λr37=>
 aB (iO b17) λr38=>
 aB (lD ([r37,r38]:List Expr)) λr39=>
 aB (dE p0 r39 (⟨#[112,114,111,118,101,100]⟩:ByteArray) ([p1]:List Int)) λr40=>
 some (⟨p0.table,p0.vars,r40.list⟩:Collector)
def fI (p0:Collector) (p1:Int):Option Collector:=
 aB (
 aQ (λ(x6,b7)=>
 if x6 < (4:Int) then
 aB (
 aT ([(⟨#[115,101,116]⟩:ByteArray),(⟨#[99,108,101,97,114]⟩:ByteArray),(⟨#[117,115,101,100]⟩:ByteArray),(⟨#[104,101,108,100]⟩:ByteArray)]:List ByteArray) x6 λe12=>
 aD (0≤(0:Int)∧(0:Int)≤x6∧x6≤4) <|
 aQ (λ(x17,b18)=>
 if x17 < ((sub ([(⟨#[115,101,116]⟩:ByteArray),(⟨#[99,108,101,97,114]⟩:ByteArray),(⟨#[117,115,101,100]⟩:ByteArray),(⟨#[104,101,108,100]⟩:ByteArray)]:List ByteArray) (0:Int) x6).length:Int) then
 aT (sub ([(⟨#[115,101,116]⟩:ByteArray),(⟨#[99,108,101,97,114]⟩:ByteArray),(⟨#[117,115,101,100]⟩:ByteArray),(⟨#[104,101,108,100]⟩:ByteArray)]:List ByteArray) (0:Int) x6) x17 λe21=>
 aB (aY p0 e12 ([p1]:List Int)) λr22=>
 aB (aY p0 e21 ([p1]:List Int)) λr23=>
 aB (iO ([r22,r23]:List Expr)) λr24=>
 aB (fO r24) λr25=>
 aD ((b18++([r25]:List Expr)).length≤1000000000) <|
 aD (I64 (x17+(1:Int))) <|
 some (.inl ((x17+(1:Int)),(b18++([r25]:List Expr))))
 else
 aI (
 some b18)) ((0:Int),b7)) λb10=>
 aD (I64 (x6+(1:Int))) <|
 some (.inl ((x6+(1:Int)),b10))
 else
 aI (
 some b7)) ((0:Int),([]:List Expr))) λb1=>
 aB (iO b1) λr31=>
 aB (dE p0 r31 (⟨#[111,110,101]⟩:ByteArray) ([p1]:List Int)) λr32=>
 some (⟨p0.table,p0.vars,r32.list⟩:Collector)
def eX (p0:Collector) (p1:Int):Option Collector:=
 aB (
 aQ (λ(k6,b7)=>
 aT p0.table.routes p1 λe9=>
 aD (I64 ((e9.sections.length:Int) - (1:Int))) <|
 if k6 < ((e9.sections.length:Int) - (1:Int)) then
 aB (aY p0 (⟨#[114,101,108]⟩:ByteArray) ([p1,k6]:List Int)) λr12=>
 aB (fO r12) λr13=>
 aD (I64 (k6 - (1:Int))) <|
 aB (aY p0 (⟨#[114,101,108]⟩:ByteArray) ([p1,(k6 - (1:Int))]:List Int)) λr15=>
 aB (lD ([r13,r15]:List Expr)) λr16=>
 aD ((b7++([r16]:List Expr)).length≤1000000000) <|
 aD (I64 (k6+(1:Int))) <|
 some (.inl ((k6+(1:Int)),(b7++([r16]:List Expr))))
 else
 aI (
 some b7)) ((1:Int),([]:List Expr))) λb1=>
 aB (iO b1) λr20=>
 aB (dE p0 r20 (⟨#[114,101,108]⟩:ByteArray) ([p1]:List Int)) λr21=>
 some (⟨p0.table,p0.vars,r21.list⟩:Collector)
def mJ (p0:Table):Option ((List Obligation)×Int):=
 aB (gS p0) λ(r2,r3)=>
 if r3=(0:Int) then
 aB (
 aQ (λ(x10,b11)=>
 if x10 < (r2.names.length:Int) then
 aT r2.names x10 λe14=>
 aD (b11.map (·.1)).Nodup <|
 aD (I64 (x10+(1:Int))) <|
 some (.inl ((x10+(1:Int)),(qJA b11 e14 x10)))
 else
 aI (
 some b11)) ((0:Int),([]:List (ByteArray×Int)))) λm5=>
 aB (eL (⟨p0,m5,([]:List Obligation)⟩:Collector)) λr18=>
 aB (dT (⟨p0,m5,r18.list⟩:Collector)) λr19=>
 aB (
 aQ (λ(x25,b26)=>
 if x25 < (p0.routes.length:Int) then
 aB (eY (⟨p0,m5,b26⟩:Collector) x25) λr29=>
 aD (I64 (x25+(1:Int))) <|
 some (.inl ((x25+(1:Int)),r29.list))
 else
 aI (
 some b26)) ((0:Int),r19.list)) λb20=>
 aB (
 aQ (λ(x37,b38)=>
 if x37 < (p0.routes.length:Int) then
 aB (eE (⟨p0,m5,b38⟩:Collector) x37) λr41=>
 aD (I64 (x37+(1:Int))) <|
 some (.inl ((x37+(1:Int)),r41.list))
 else
 aI (
 some b38)) ((0:Int),b20)) λb32=>
 aB (
 aQ (λ(x49,b50)=>
 if x49 < (p0.routes.length:Int) then
 aB (fI (⟨p0,m5,b50⟩:Collector) x49) λr53=>
 aD (I64 (x49+(1:Int))) <|
 some (.inl ((x49+(1:Int)),r53.list))
 else
 aI (
 some b50)) ((0:Int),b32)) λb44=>
 aB (
 aQ (λ(x61,b62)=>
 if x61 < (p0.routes.length:Int) then
 aB (eX (⟨p0,m5,b62⟩:Collector) x61) λr65=>
 aD (I64 (x61+(1:Int))) <|
 some (.inl ((x61+(1:Int)),r65.list))
 else
 aI (
 some b62)) ((0:Int),b44)) λb56=>
 some (b56,(0:Int))
 else
 some (([]:List Obligation),r3)
def sQ (p0:Int):Option Expr:=
 some (⟨(3:Int),p0,([]:List Expr)⟩:Expr)
def lU:Nat→Expr→Int→Int→Int→Option (Bool×Int)
 | 0,_,_,_,_=>none
 | fu+1,p0,p1,p2,p3=>
 if ((decide ((12:Int) < p2))||(decide (p3=(0:Int))))=true then
 some (false,p3)
 else
 aD (I64 (p3 - (1:Int))) <|
 cR (
 aB (
 if p0.op=(1:Int) then
 some (decide (p0.op=(1:Int)))
 else
 some (decide (p0.op=(2:Int)))) λx5=>
 if x5=true then
 aI (
 some (((decide (p0.var=(0:Int)))&&(decide ((p0.args.length:Int)=(0:Int)))),(p3 - (1:Int))))
 else
 if p0.op=(3:Int) then
 aI (
 some (((decide ((0:Int)≤p0.var))&&((decide (p0.var < p1))&&(decide ((p0.args.length:Int)=(0:Int))))),(p3 - (1:Int))))
 else
 if p0.op=(4:Int) then
 if (p0.args.length:Int)=(1:Int) then
 some (.inl ())
 else
 aI (
 some (false,(p3 - (1:Int))))
 else
 if p0.op=(5:Int) then
 some (.inl ())
 else
 if p0.op=(6:Int) then
 some (.inl ())
 else
 aI (
 some (false,(p3 - (1:Int))))) λ_=>
 if p0.var=(0:Int) then
 cR (
 aQ (λ(x27,c28)=>
 if x27 < (p0.args.length:Int) then
 aT p0.args x27 λe31=>
 aD (I64 (p2+(1:Int))) <|
 aB ((lU fu) e31 p1 (p2+(1:Int)) c28) λ(r34,r35)=>
 if (!(r34))=true then
 aI (
 aI (
 some (false,r35)))
 else
 aD (I64 (x27+(1:Int))) <|
 some (.inl ((x27+(1:Int)),r35))
 else
 aI (
 some (.inl c28))) ((0:Int),(p3 - (1:Int)))) λc22=>
 some (true,c22)
 else
 some (false,(p3 - (1:Int)))
def qEP (p0:Expr) (p1:Int) (p2:Int) (p3:Int):Option (Bool×Int):=lU eU p0 p1 p2 p3
def pG (p0:Expr) (p1:Int):Option Bool:=
 aB (qEP p0 p1 (1:Int) (20000:Int)) λ(r2,r3)=>
 some r2
def qR (p0:Program) (p1:Rung):Option Bool:=
 cR (
 if p1.kind=(1:Int) then
 if p1.preset=(0:Int) then
 some (.inl ())
 else
 aI (
 some false)
 else
 if p1.kind=(2:Int) then
 if ((decide (p1.preset < (1:Int)))||(decide ((1073741824:Int) < p1.preset)))=true then
 aI (
 some false)
 else
 some (.inl ())
 else
 aI (
 some false)) λ_=>
 aB (
 if p0.inputs≤p1.var then
 if p1.var < (p0.names.length:Int) then
 aB (pG p1.expr (p0.names.length:Int)) λr14=>
 some r14
 else
 some false
 else
 some false) λx10=>
 some x10
def qAJ (p0:Program):Option Int:=
 if (2000:Int) < (p0.names.length:Int) then
 some (2:Int)
 else
 if ((decide (p0.inputs < (0:Int)))||(decide ((p0.names.length:Int) < p0.inputs)))=true then
 some (1:Int)
 else
 cR (
 aQ (λx6=>
 if x6 < (p0.rungs.length:Int) then
 aT p0.rungs x6 λe9=>
 aB (qR p0 e9) λr10=>
 if (!(r10))=true then
 aI (
 aI (
 some (1:Int)))
 else
 aD (I64 (x6+(1:Int))) <|
 some (.inl (x6+(1:Int)))
 else
 aI (
 some (.inl ()))) (0:Int)) λ_=>
 aD (0≤(p0.names.length:Int)∧(p0.names.length:Int)≤1000000000) <|
 cR (
 aQ (λ(x22,b23)=>
 if x22 < (p0.rungs.length:Int) then
 aT p0.rungs x22 λe26=>
 aT b23 e26.var λe27=>
 if e27=true then
 aI (
 aI (
 some (8:Int)))
 else
 aT b23 e26.var λe31=>
 aD (I64 (x22+(1:Int))) <|
 some (.inl ((x22+(1:Int)),(b23.set e26.var.toNat true)))
 else
 aI (
 some (.inl b23))) ((0:Int),(List.replicate (p0.names.length:Int).toNat false))) λb17=>
 some (0:Int)
def lW:Nat→Expr→Option Expr
 | 0,_=>none
 | fu+1,p0=>
 aB (
 aQ (λ(x6,b7)=>
 if x6 < (p0.args.length:Int) then
 aT p0.args x6 λe10=>
 aB ((lW fu) e10) λr11=>
 aD ((b7++([r11]:List Expr)).length≤1000000000) <|
 aD (I64 (x6+(1:Int))) <|
 some (.inl ((x6+(1:Int)),(b7++([r11]:List Expr))))
 else
 aI (
 some b7)) ((0:Int),([]:List Expr))) λb1=>
 some (⟨p0.op,p0.var,b1⟩:Expr)
def qEQ (p0:Expr):Option Expr:=lW eU p0
def lV:Nat→Expr→Option Expr
 | 0,_=>none
 | fu+1,p0=>
 aB (
 aQ (λ(x6,b7)=>
 if x6 < (p0.args.length:Int) then
 aT p0.args x6 λe10=>
 aB (qEQ e10) λr11=>
 aD ((b7++([r11]:List Expr)).length≤1000000000) <|
 aD (I64 (x6+(1:Int))) <|
 some (.inl ((x6+(1:Int)),(b7++([r11]:List Expr))))
 else
 aI (
 some b7)) ((0:Int),([]:List Expr))) λb1=>
 some (⟨p0.op,p0.var,b1⟩:Expr)
def zC (p0:Expr):Option Expr:=lV eU p0
def jX:Nat→Expr→Int→Expr→Option Expr
 | 0,_,_,_=>none
 | fu+1,p0,p1,p2=>
 if ((decide (p0.op=(3:Int)))&&(decide (p0.var=p1)))=true then
 aB (zC p2) λr3=>
 some r3
 else
 aB (
 aQ (λ(x9,b10)=>
 if x9 < (p0.args.length:Int) then
 aT p0.args x9 λe13=>
 aB ((jX fu) e13 p1 p2) λr14=>
 aD ((b10++([r14]:List Expr)).length≤1000000000) <|
 aD (I64 (x9+(1:Int))) <|
 some (.inl ((x9+(1:Int)),(b10++([r14]:List Expr))))
 else
 aI (
 some b10)) ((0:Int),([]:List Expr))) λb4=>
 some (⟨p0.op,p0.var,b4⟩:Expr)
def sU (p0:Expr) (p1:Int) (p2:Expr):Option Expr:=jX eU p0 p1 p2
def nI:Nat→Expr→Option Int
 | 0,_=>none
 | fu+1,p0=>
 aB (
 aQ (λ(n5,x6)=>
 if x6 < (p0.args.length:Int) then
 aT p0.args x6 λe9=>
 aB ((nI fu) e9) λr10=>
 aD (I64 (n5+r10)) <|
 aD (I64 (x6+(1:Int))) <|
 some (.inl ((n5+r10),(x6+(1:Int))))
 else
 aI (
 some n5)) ((1:Int),(0:Int))) λn1=>
 some n1
def qAW (p0:Expr):Option Int:=nI eU p0
def jG:Nat→Expr→Int→Option Int
 | 0,_,_=>none
 | fu+1,p0,p1=>
 aB (
 if ((decide (p0.op=(3:Int)))&&(decide (p0.var=p1)))=true then
 some (1:Int)
 else
 some (0:Int)) λn1=>
 aB (
 aQ (λ(n9,x10)=>
 if x10 < (p0.args.length:Int) then
 aT p0.args x10 λe13=>
 aB ((jG fu) e13 p1) λr14=>
 aD (I64 (n9+r14)) <|
 aD (I64 (x10+(1:Int))) <|
 some (.inl ((n9+r14),(x10+(1:Int))))
 else
 aI (
 some n9)) (n1,(0:Int))) λn5=>
 some n5
def wO (p0:Expr) (p1:Int):Option Int:=jG eU p0 p1
def lN:Nat→Expr→Expr→Option Bool
 | 0,_,_=>none
 | fu+1,p0,p1=>
 if ((!(decide (p0.op=p1.op)))||((!(decide (p0.var=p1.var)))||(!(decide ((p0.args.length:Int)=(p1.args.length:Int))))))=true then
 some false
 else
 cR (
 aQ (λi6=>
 if i6 < (p0.args.length:Int) then
 aT p0.args i6 λe9=>
 aT p1.args i6 λe10=>
 aB ((lN fu) e9 e10) λr11=>
 if (!(r11))=true then
 aI (
 aI (
 some false))
 else
 aD (I64 (i6+(1:Int))) <|
 some (.inl (i6+(1:Int)))
 else
 aI (
 some (.inl ()))) (0:Int)) λ_=>
 some true
def xA (p0:Expr) (p1:Expr):Option Bool:=lN eU p0 p1
def nH (p0:Expr):Option If_node:=
 if p0.op=(3:Int) then
 some (⟨200,p0⟩:If_node)
 else
 if p0.op=(4:Int) then
 if (0:Int) < (p0.args.length:Int) then
 some (⟨201,p0⟩:If_node)
 else
 some (⟨232,p0⟩:If_node)
 else
 if p0.op=(5:Int) then
 some (⟨202,p0⟩:If_node)
 else
 if p0.op=(6:Int) then
 some (⟨203,p0⟩:If_node)
 else
 some (⟨232,p0⟩:If_node)
def hU:Nat→Expr→(List Bool)→Option Bool
 | 0,_,_=>none
 | fu+1,p0,p1=>
 cR (
 aB (nH p0) λr2=>
 if r2.tid=200 then
 aB (
 if (0:Int)≤r2.e.var then
 if r2.e.var < (p1.length:Int) then
 aT p1 r2.e.var λe8=>
 some e8
 else
 some false
 else
 some false) λx4=>
 aI (
 some x4)
 else
 if r2.tid=201 then
 aT r2.e.args (0:Int) λe11=>
 aB ((hU fu) e11 p1) λr12=>
 aI (
 some (!(r12)))
 else
 if r2.tid=202 then
 cR (
 aQ (λx17=>
 if x17 < (r2.e.args.length:Int) then
 aT r2.e.args x17 λe20=>
 aB ((hU fu) e20 p1) λr21=>
 if (!(r21))=true then
 aI (
 aI (
 aI (
 some false)))
 else
 aD (I64 (x17+(1:Int))) <|
 some (.inl (x17+(1:Int)))
 else
 aI (
 some (.inl ()))) (0:Int)) λ_=>
 aI (
 some true)
 else
 if r2.tid=203 then
 cR (
 aQ (λx32=>
 if x32 < (r2.e.args.length:Int) then
 aT r2.e.args x32 λe35=>
 aB ((hU fu) e35 p1) λr36=>
 if r36=true then
 aI (
 aI (
 aI (
 some true)))
 else
 aD (I64 (x32+(1:Int))) <|
 some (.inl (x32+(1:Int)))
 else
 aI (
 some (.inl ()))) (0:Int)) λ_=>
 aI (
 some false)
 else
 some (.inl ())) λ_=>
 some (decide (p0.op=(2:Int)))
def qAU (p0:Expr) (p1:(List Bool)):Option Bool:=hU eU p0 p1
def rQ (p0:Expr) (p1:(List Bool)):Option Bool:=
 aB (qAU p0 p1) λr1=>
 some r1
def jH (p0:Obligation) (p1:Machine):Option Bool:=
 aB (rQ p0.expr p1.vars) λr1=>
 some (!(r1))
def fK (p0:(List Obligation)) (p1:Obligation→Option Bool):Option Int:=
 cR (
 aQ (λx3=>
 if x3 < (p0.length:Int) then
 aT p0 x3 λe6=>
 aB (p1 e6) λr7=>
 if r7=true then
 aI (
 aI (
 some x3))
 else
 aD (I64 (x3+(1:Int))) <|
 some (.inl (x3+(1:Int)))
 else
 aI (
 some (.inl ()))) (0:Int)) λ_=>
 some (-1:Int)
def iZ (p0:(List Obligation)) (p1:Machine):Option Int:=
 aB (fK p0 (λa0=>jH a0 p1)) λr1=>
 some r1
def kQ (p0:Program) (p1:Expr):Option (Expr×Int):=
 aB (
 aB (qAJ p0) λr3=>
 if r3=(0:Int) then
 aB (pG p1 (p0.names.length:Int)) λr5=>
 some (!(r5))
 else
 some true) λx1=>
 if x1=true then
 some ((⟨(0:Int),(0:Int),([]:List Expr)⟩:Expr),(1:Int))
 else
 aD (I64 ((p0.names.length:Int)+(p0.rungs.length:Int))) <|
 aB (sU p1 (-1:Int) (⟨(0:Int),(0:Int),([]:List Expr)⟩:Expr)) λr8=>
 cR (
 aD (I64 ((p0.rungs.length:Int) - (1:Int))) <|
 aQ (λ(i19,c20,c21,c22)=>
 if (0:Int)≤i19 then
 aT p0.rungs i19 λe25=>
 aB (
 if e25.kind=(2:Int) then
 aD (I64 ((p0.names.length:Int)+i19)) <|
 some ((3:Int),((p0.names.length:Int)+i19),([]:List Expr))
 else
 some (e25.expr.op,e25.expr.var,e25.expr.args)) λ(c26,c27,c28)=>
 aB (qAW (⟨c20,c21,c22⟩:Expr)) λr32=>
 aB (wO (⟨c20,c21,c22⟩:Expr) e25.var) λr33=>
 aB (qAW (⟨c26,c27,c28⟩:Expr)) λr34=>
 aD (I64 (r34 - (1:Int))) <|
 aD (I64 (r33 * (r34 - (1:Int)))) <|
 aD (I64 (r32+(r33 * (r34 - (1:Int))))) <|
 if (20000:Int) < (r32+(r33 * (r34 - (1:Int)))) then
 aI (
 aI (
 some ((⟨(0:Int),(0:Int),([]:List Expr)⟩:Expr),(2:Int))))
 else
 aB (sU (⟨c20,c21,c22⟩:Expr) e25.var (⟨c26,c27,c28⟩:Expr)) λr41=>
 aB (pG r41 ((p0.names.length:Int)+(p0.rungs.length:Int))) λr42=>
 if (!(r42))=true then
 aI (
 aI (
 some ((⟨(0:Int),(0:Int),([]:List Expr)⟩:Expr),(2:Int))))
 else
 aD (I64 (i19 - (1:Int))) <|
 some (.inl ((i19 - (1:Int)),r41.op,r41.var,r41.args))
 else
 aI (
 some (.inl (c20,c21,c22)))) (((p0.rungs.length:Int) - (1:Int)),r8.op,r8.var,r8.args)) λ(c9,c10,c11)=>
 some ((⟨c9,c10,c11⟩:Expr),(0:Int))
def lE:Option Bool:=
 aB (xQ) λr1=>
 aB (tP r1) λ(r3,r4)=>
 aB (mJ r3) λ(r6,r7)=>
 aB (sQ (0:Int)) λr8=>
 aB (sQ (1:Int)) λr9=>
 aB (kQ (⟨([(⟨#[97]⟩:ByteArray),(⟨#[98]⟩:ByteArray)]:List ByteArray),(1:Int),([(⟨(1:Int),(1:Int),(0:Int),r8⟩:Rung)]:List Rung)⟩:Program) r9) λ(r11,r12)=>
 aT ([(⟨(1:Int),(1:Int),(0:Int),r8⟩:Rung)]:List Rung) (0:Int) λe13=>
 aT (([(⟨(1:Int),(1:Int),(0:Int),r8⟩:Rung)]:List Rung).set (0:Int).toNat (⟨(2:Int),e13.var,e13.preset,e13.expr⟩:Rung)) (0:Int) λe14=>
 aB (sQ (1:Int)) λr15=>
 aB (kQ (⟨([(⟨#[97]⟩:ByteArray),(⟨#[98]⟩:ByteArray)]:List ByteArray),(1:Int),((([(⟨(1:Int),(1:Int),(0:Int),r8⟩:Rung)]:List Rung).set (0:Int).toNat (⟨(2:Int),e13.var,e13.preset,e13.expr⟩:Rung)).set (0:Int).toNat (⟨e14.kind,e14.var,(2:Int),e14.expr⟩:Rung))⟩:Program) r15) λ(r17,r18)=>
 aB (
 if r7=(0:Int) then
 if (r6.length:Int)=(6:Int) then
 aT r6 (0:Int) λe23=>
 if e23.name=(⟨#[112,114,111,118,101,100,32,48]⟩:ByteArray) then
 aT r6 (5:Int) λe25=>
 if e25.name=(⟨#[114,101,108,32,49]⟩:ByteArray) then
 if r12=(0:Int) then
 aB (sQ (0:Int)) λr28=>
 aB (xA r11 r28) λr29=>
 if r29=true then
 if r18=(0:Int) then
 aB (sQ (2:Int)) λr32=>
 aB (xA r17 r32) λr33=>
 if r33=true then
 aB (iZ r6 (⟨([]:List Bool),([]:List Int),false⟩:Machine)) λr35=>
 some (decide (r35=(-1:Int)))
 else
 some false
 else
 some false
 else
 some false
 else
 some false
 else
 some false
 else
 some false
 else
 some false
 else
 some false) λx19=>
 some x19
def jT (p0:Table) (p1:(List Int)):Option Bool:=
 cR (
 aQ (λx3=>
 if x3 < (p1.length:Int) then
 cR (
 aT p1 x3 λe7=>
 if ((decide (e7 < (0:Int)))||(decide (p0.sections≤e7)))=true then
 aI (
 aI (
 aI (
 some false)))
 else
 aQ (λx14=>
 if x14 < x3 then
 aT p1 x14 λe17=>
 if e17=e7 then
 aI (
 aI (
 aI (
 aI (
 some false))))
 else
 aD (I64 (x14+(1:Int))) <|
 some (.inl (x14+(1:Int)))
 else
 aI (
 some (.inl ()))) (0:Int)) λ_=>
 aD (I64 (x3+(1:Int))) <|
 some (.inl (x3+(1:Int)))
 else
 aI (
 some (.inl ()))) (0:Int)) λ_=>
 some true
def lC (p0:Table) (p1:Route):Option Bool:=
 if ((decide (p1.entry < (0:Int)))||((decide (p0.signals≤p1.entry))||((decide (p1.exit < (-1:Int)))||((decide (p0.signals≤p1.exit))||((decide ((p1.path.length:Int) < (1:Int)))||((decide ((12:Int) < (p1.path.length:Int)))||(decide (p1.length < (1:Int)))))))))=true then
 some false
 else
 aD ((([]:List Int)++p1.sections).length≤1000000000) <|
 aD (((([]:List Int)++p1.sections)++p1.overSections).length≤1000000000) <|
 aB (
 if (0:Int) < (p1.sections.length:Int) then
 aB (jT p0 ((([]:List Int)++p1.sections)++p1.overSections)) λr13=>
 if r13=true then
 if (0:Int)≤p1.approach then
 some (decide (p1.approach < p0.sections))
 else
 some false
 else
 some false
 else
 some false) λx10=>
 some x10
def mZ (p0:Table) (p1:Int):Option Int:=
 cR (
 aQ (λx3=>
 if x3 < (p0.points.length:Int) then
 aT p0.points x3 λe6=>
 if e6=p1 then
 aI (
 aI (
 some x3))
 else
 aD (I64 (x3+(1:Int))) <|
 some (.inl (x3+(1:Int)))
 else
 aI (
 some (.inl ()))) (0:Int)) λ_=>
 some (-1:Int)
def fB (p0:Table) (p1:(List Setting)):Option Bool:=
 cR (
 aQ (λx3=>
 if x3 < (p1.length:Int) then
 aT p1 x3 λe6=>
 aB (
 aB (mZ p0 e6.el) λr9=>
 if r9 < (0:Int) then
 some true
 else
 if e6.pos < (1:Int) then
 some true
 else
 if (2:Int) < e6.pos then
 some true
 else
 if (0:Int) < x3 then
 aD (I64 (x3 - (1:Int))) <|
 aT p1 (x3 - (1:Int)) λe15=>
 some (decide (e6.el≤e15.el))
 else
 some false) λx7=>
 if x7=true then
 aI (
 aI (
 some false))
 else
 aD (I64 (x3+(1:Int))) <|
 some (.inl (x3+(1:Int)))
 else
 aI (
 some (.inl ()))) (0:Int)) λ_=>
 some true
def gY (p0:(List Setting)) (p1:(List Setting)):Option Bool:=
 cR (
 aQ (λx3=>
 if x3 < (p0.length:Int) then
 cR (
 aT p0 x3 λe7=>
 aQ (λx9=>
 if x9 < (p1.length:Int) then
 aT p1 x9 λe12=>
 if ((decide (e7.el=e12.el))&&(!(decide (e7.pos=e12.pos))))=true then
 aI (
 aI (
 aI (
 aI (
 some false))))
 else
 aD (I64 (x9+(1:Int))) <|
 some (.inl (x9+(1:Int)))
 else
 aI (
 some (.inl ()))) (0:Int)) λ_=>
 aD (I64 (x3+(1:Int))) <|
 some (.inl (x3+(1:Int)))
 else
 aI (
 some (.inl ()))) (0:Int)) λ_=>
 some true
def mG (p0:Table) (p1:ByteArray):Option Int:=
 cR (
 aQ (λx3=>
 if x3 < (p0.routes.length:Int) then
 aT p0.routes x3 λe6=>
 if e6.name=p1 then
 aI (
 aI (
 some x3))
 else
 aD (I64 (x3+(1:Int))) <|
 some (.inl (x3+(1:Int)))
 else
 aI (
 some (.inl ()))) (0:Int)) λ_=>
 some (-1:Int)
def nA (p0:Table):Option Int:=
 if ((decide ((48:Int) < (p0.routes.length:Int)))||((decide ((32:Int) < (p0.points.length:Int)))||((decide (p0.sections < (0:Int)))||((decide ((24:Int) < p0.sections))||((decide (p0.signals < (0:Int)))||(decide ((20:Int) < p0.signals)))))))=true then
 some (2:Int)
 else
 if (p0.homes.length:Int)=(p0.points.length:Int) then
 cR (
 aQ (λx10=>
 if x10 < (p0.points.length:Int) then
 aT p0.points x10 λe13=>
 aB (
 if e13 < (0:Int) then
 some true
 else
 if (0:Int) < x10 then
 aD (I64 (x10 - (1:Int))) <|
 aT p0.points (x10 - (1:Int)) λe22=>
 if e13≤e22 then
 some true
 else
 aT p0.homes x10 λe24=>
 if e24 < (0:Int) then
 some true
 else
 aT p0.homes x10 λe26=>
 some (decide (p0.sections≤e26))
 else
 aT p0.homes x10 λe18=>
 if e18 < (0:Int) then
 some true
 else
 aT p0.homes x10 λe20=>
 some (decide (p0.sections≤e20))) λx14=>
 if x14=true then
 aI (
 aI (
 some (1:Int)))
 else
 aD (I64 (x10+(1:Int))) <|
 some (.inl (x10+(1:Int)))
 else
 aI (
 some (.inl ()))) (0:Int)) λ_=>
 cR (
 aQ (λx34=>
 if x34 < (p0.routes.length:Int) then
 aT p0.routes x34 λe37=>
 aB (
 aB (lC p0 e37) λr40=>
 if (!(r40))=true then
 some true
 else
 aB (fB p0 e37.points) λr42=>
 if (!(r42))=true then
 some true
 else
 aB (fB p0 e37.overPoints) λr44=>
 if (!(r44))=true then
 some true
 else
 aB (fB p0 e37.flank) λr46=>
 some (!(r46))) λx38=>
 if x38=true then
 aI (
 aI (
 some (1:Int)))
 else
 aD (I64 (x34+(1:Int))) <|
 some (.inl (x34+(1:Int)))
 else
 aI (
 some (.inl ()))) (0:Int)) λ_=>
 cR (
 aQ (λx54=>
 if x54 < (p0.routes.length:Int) then
 aT p0.routes x54 λe57=>
 aB (
 aB (gY e57.points e57.overPoints) λr60=>
 if (!(r60))=true then
 some true
 else
 aB (gY e57.points e57.flank) λr62=>
 if (!(r62))=true then
 some true
 else
 aB (gY e57.overPoints e57.flank) λr64=>
 some (!(r64))) λx58=>
 if x58=true then
 aI (
 aI (
 some (10:Int)))
 else
 aD (I64 (x54+(1:Int))) <|
 some (.inl (x54+(1:Int)))
 else
 aI (
 some (.inl ()))) (0:Int)) λ_=>
 cR (
 aQ (λx72=>
 if x72 < (p0.routes.length:Int) then
 aT p0.routes x72 λe75=>
 aB (mG p0 e75.name) λr76=>
 if r76=x72 then
 aD (I64 (x72+(1:Int))) <|
 some (.inl (x72+(1:Int)))
 else
 aI (
 aI (
 some (8:Int)))
 else
 aI (
 some (.inl ()))) (0:Int)) λ_=>
 some (0:Int)
 else
 some (1:Int)
def jS (p0:Table):Option Places:=
 aD (I64 ((2:Int) * p0.sections)) <|
 aD (I64 ((2:Int) * (p0.points.length:Int))) <|
 aD (I64 (((2:Int) * p0.sections)+((2:Int) * (p0.points.length:Int)))) <|
 aD (I64 ((4:Int) * (p0.routes.length:Int))) <|
 aD (I64 ((((2:Int) * p0.sections)+((2:Int) * (p0.points.length:Int)))+((4:Int) * (p0.routes.length:Int)))) <|
 aD (I64 (((((2:Int) * p0.sections)+((2:Int) * (p0.points.length:Int)))+((4:Int) * (p0.routes.length:Int)))+(p0.points.length:Int))) <|
 aB (
 aQ (λ(at15,i16,b17)=>
 if i16 < (p0.routes.length:Int) then
 aD ((b17++([at15]:List Int)).length≤1000000000) <|
 aD (I64 (at15+(6:Int))) <|
 aT p0.routes i16 λe22=>
 aD (I64 ((e22.sections.length:Int) - (1:Int))) <|
 aD (I64 ((at15+(6:Int))+(max (0:Int) ((e22.sections.length:Int) - (1:Int))))) <|
 aD (I64 (i16+(1:Int))) <|
 some (.inl (((at15+(6:Int))+(max (0:Int) ((e22.sections.length:Int) - (1:Int)))),(i16+(1:Int)),(b17++([at15]:List Int))))
 else
 aI (
 some (at15,b17))) ((((((2:Int) * p0.sections)+((2:Int) * (p0.points.length:Int)))+((4:Int) * (p0.routes.length:Int)))+(p0.points.length:Int)),(0:Int),([]:List Int))) λ(at7,b8)=>
 aD (I64 ((5:Int) * (p0.routes.length:Int))) <|
 aD (I64 (at7+((5:Int) * (p0.routes.length:Int)))) <|
 some (⟨((2:Int) * p0.sections),(((2:Int) * p0.sections)+((2:Int) * (p0.points.length:Int))),((((2:Int) * p0.sections)+((2:Int) * (p0.points.length:Int)))+((4:Int) * (p0.routes.length:Int))),at7,(at7+((5:Int) * (p0.routes.length:Int))),b8⟩:Places)
def jO (p0:Table):Option Bool:=
 aB (
 aB (nE p0) λr3=>
 if (!(r3))=true then
 some true
 else
 aB (nA p0) λr5=>
 some (!(decide (r5=(0:Int))))) λx1=>
 if x1=true then
 aB (lE) λr7=>
 some r7
 else
 aB (mJ p0) λ(r9,r10)=>
 if r10=(0:Int) then
 aB (jS p0) λr16=>
 cR (
 aQ (λx19=>
 if x19 < (p0.routes.length:Int) then
 cR (
 aT p0.routes x19 λe23=>
 aQ (λb25=>
 if b25 < x19 then
 cR (
 aB (
 aQ (λ(common33,x34)=>
 if x34 < (e23.sections.length:Int) then
 aB (
 aT e23.sections x34 λe39=>
 aT p0.routes b25 λe40=>
 aQ (λ(common43,x44)=>
 if x44 < (e40.sections.length:Int) then
 aT e40.sections x44 λe47=>
 if common43=true then
 aD (I64 (x44+(1:Int))) <|
 some (.inl (true,(x44+(1:Int))))
 else
 aD (I64 (x44+(1:Int))) <|
 some (.inl (decide (e39=e47),(x44+(1:Int))))
 else
 aI (
 some common43)) (common33,(0:Int))) λcommon37=>
 aD (I64 (x34+(1:Int))) <|
 some (.inl (common37,(x34+(1:Int))))
 else
 aI (
 some common33)) (false,(0:Int))) λcommon29=>
 aD (0≤r16.all∧r16.all≤1000000000) <|
 aT r16.states x19 λe55=>
 aT (List.replicate r16.all.toNat false) e55 λe56=>
 aT r16.states b25 λe57=>
 aT ((List.replicate r16.all.toNat false).set e55.toNat true) e57 λe58=>
 aB (
 if common29=true then
 aB (iZ r9 (⟨(((List.replicate r16.all.toNat false).set e55.toNat true).set e57.toNat true),([]:List Int),false⟩:Machine)) λr62=>
 some (decide (r62 < (0:Int)))
 else
 some false) λx59=>
 if x59=true then
 aI (
 aI (
 aI (
 aI (
 aI (
 some false)))))
 else
 some (.inl ())) λ_=>
 aD (I64 (b25+(1:Int))) <|
 some (.inl (b25+(1:Int)))
 else
 aI (
 some (.inl ()))) (0:Int)) λ_=>
 aD (I64 (x19+(1:Int))) <|
 some (.inl (x19+(1:Int)))
 else
 aI (
 some (.inl ()))) (0:Int)) λ_=>
 aB (lE) λr73=>
 some r73
 else
 aB (
 if r10=(2:Int) then
 aB (lE) λr15=>
 some r15
 else
 some false) λx12=>
 some x12
@[simp] theorem aC {α:Type} {p:Prop} [Decidable p] {k:Option α} (h:p):aD p k=k:=if_pos h
@[simp] theorem aA {α β:Type} (a:α) (k:α→Option β):aB (some a) k=k a:=rfl
@[simp] theorem oK {α β:Type} (a:α) (k:α→Option β):cR (some (.inl a)) k=k a:=rfl
@[simp] theorem qHR {α β:Type} (b:β) (k:α→Option β):cR (some (.inr b)) k=some b:=rfl
@[simp] theorem fT {α β:Type} (b:β):(aI (some b):Option (α ⊕ β))=some (.inr b):=rfl
theorem aX {α β:Type} {l:List α} {i:Nat} {e:α} {k:α→Option β} (h:l[i]?=some e):aT l (i:Int) k=k e:=by simp [aT,h]
theorem qMT {α β:Type} {l:List α} {i:Int} {e:α} {k:α→Option β} (h0:0≤i) (h:l[i.toNat]?=some e):aT l i k=k e:=by simp [aT,h0,h]
@[simp] theorem ite_bindM {α β:Type} {p:Prop} [Decidable p] (a b:α) (k:α→Option β):aB (if p then some a else some b) k=k (if p then a else b):=by split<;>rfl
theorem jJ {α β:Type} {p:Prop} [Decidable p] (a b:Option α) (k:α→Option β):aB (if p then a else b) k=if p then aB a k else aB b k:=by split<;>rfl
theorem qEH {α:Type} {p:Prop} [Decidable p] (a b:α):(if p then some a else some b)=some (if p then a else b):=by split<;>rfl
theorem qNK {p:Prop} [Decidable p] {a b:Bool}:((if p then a else b)=true)=((p∧a=true)∨(¬ p∧b=true)):=by split<;>simp_all
variable {σ ρ:Type}
theorem qMN {f:σ→Option (σ ⊕ ρ)} (B:Nat→σ) {o:ρ}:∀ (n k:Nat),(∀ i,k≤i→i < k+n→f (B i)=some (.inl (B (i+1))))→f (B (k+n))=some (.inr o)→mB f (n+1) (B k)=some o
 | 0,k,_,he=>by simp only [Nat.add_zero] at he;simp [mB,he]
 | n+1,k,hf,he=>by
  simp only [mB];rw [hf k (zQW _) (by omega)];exact qMN B n (k+1) (λi h1 h2=>hf i (by omega) (by omega)) (by rw [show k+1+n=k+(n+1) by omega];exact he)
theorem kR {f:σ→Option (σ ⊕ ρ)} (B:Nat→σ) (n:Nat) {o:ρ} {s:σ} (hs:s=B 0) (hn:n≤9223372036854775807) (hf:∀ i,i < n→f (B i)=some (.inl (B (i+1)))) (he:f (B n)=some (.inr o)):aQ f s=some o:=by
 subst hs;exact uK (qMN B n 0 (λi _ h=>hf i (by omega)) (by rw [Nat.zero_add];exact he)) (by unfold eU;omega)
theorem qMF {f : Int → Option (Int ⊕ ρ)} (n : Nat) (c : Nat → Option ρ) (o : ρ) (hn : n ≤ 9223372036854775807) (hf : ∀ i, i < n → f (i : Int) = match c i with
  | some r => some (.inr r)
  | none => some (.inl ((i : Int) + 1))) (he : f (n : Int) = some (.inr o)) : aQ f 0 = some (((List.range n).findSome? c).getD o) := by
 cases h:(List.range n).findSome? c with
 | none=>
  rw [List.findSome?_eq_none_iff] at h;refine kR (λi=>(i:Int)) n rfl hn (λi hi=>?_) he;rw [hf i hi,h i (List.mem_range.2 hi)];rfl
 | some r=>
  rw [List.findSome?_eq_some_iff] at h;obtain⟨l1,a,l2,h1,h2,h3⟩:=h
  have ha:l1.length=a∧a < n:=by
   have hlen:l1.length < (List.range n).length:=by rw [h1];simp
   have:(List.range n)[l1.length]?=some a:=by rw [h1];simp
   simp only [List.length_range] at hlen;simp [hlen] at this;exact⟨this,by omega⟩
  obtain⟨ha1,ha2⟩:=ha;refine kR (λi=>(i:Int)) a rfl (by omega) (λi hi=>?_) ?_
  ·have hm:i∈l1:=by
    have:(List.range n)[i]?=some i:=List.getElem?_range (by omega);rw [h1,List.getElem?_append_left (by omega)] at this;exact zQM this
   rw [hf i (by omega),h3 i hm];rfl
  rw [hf a ha2,h2];rfl
theorem qEM {α β:Type} (l:List α) (c:Nat→Option β) (d:α→Option β) (h:∀ (i:Nat) (e:α),l[i]?=some e→c i=d e):(List.range l.length).findSome? c=l.findSome? d:=by
 induction l generalizing c with
 | nil=>rfl
 | cons x r ih=>
  rw [List.length_cons,List.range_succ_eq_map,List.findSome?_cons,List.findSome?_map,List.findSome?_cons,h 0 x rfl]
  cases d x with
  | some b=>rfl
  | none=>exact ih (c ∘ Nat.succ) λi e he=>h (i+1) e (by simpa using he)
theorem qSQ {α : Type} {f : Int → Option (Int ⊕ ρ)} (l : List α) (d : α → Option ρ) (o : ρ) (hn : l.length ≤ 9223372036854775807) (hf : ∀ (i : Nat) (e : α), l[i]? = some e → f (i : Int) = match d e with
  | some r => some (.inr r)
  | none => some (.inl ((i : Int) + 1))) (he : f (l.length : Int) = some (.inr o)) : aQ f 0 = some ((l.findSome? d).getD o) := by
 rw [qMF l.length (λi=>(l[i]?).bind d) o hn (λi hi=>?_) he,qEM l _ d (λi e he=>by simp [he])];rw [hf i l[i] (by simp),zQR hi];rfl
theorem yZ {α β:Type} (l:List α) (c:α→Bool) (v:β):l.findSome? (λe=>if c e=true then some v else none)=if l.any c=true then some v else none:=by
 induction l with
 | nil=>rfl
 | cons x r ih=>
  rw [List.findSome?_cons,List.any_cons,ih];cases c x<;>simp
theorem lT {α:Type} {f:Int→Option (Int ⊕ ρ)} (l:List α) (c:α→Bool) (v o:ρ) (hn:l.length≤9223372036854775807) (hf:∀ (i:Nat) (e:α),l[i]?=some e→f (i:Int)=if c e=true then some (.inr v) else some (.inl ((i:Int)+1))) (he:f (l.length:Int)=some (.inr o)):aQ f 0=some (if l.any c=true then v else o):=by
 rw [qSQ l (λe=>if c e=true then some v else none) o hn (λi e h=>by rw [hf i e h];cases c e<;>simp) he,yZ];split<;>rfl
theorem kA {f:Int→Option (Int ⊕ ρ)} (n:Nat) (c:Nat→Bool) (v o:ρ) (hn:n≤9223372036854775807) (hf:∀ i,i < n→f (i:Int)=if c i=true then some (.inr v) else some (.inl ((i:Int)+1))) (he:f (n:Int)=some (.inr o)):aQ f 0=some (if (List.range n).any c=true then v else o):=by
 rw [qMF n (λe=>if c e=true then some v else none) o hn (λi h=>by rw [hf i h];cases c i<;>simp) he,yZ];split<;>rfl
theorem vO {α:Type} {f:Int→Option (Int ⊕ ρ)} (l:List α) (c:α→Bool) (w:Nat→ρ) (o:ρ) (hn:l.length≤9223372036854775807) (hf:∀ (i:Nat) (e:α),l[i]?=some e→f (i:Int)=if c e=true then some (.inr (w i)) else some (.inl ((i:Int)+1))) (he:f (l.length:Int)=some (.inr o)):aQ f 0=some (match l.findIdx? c with|some i=>w i|none=>o):=by
 cases h:l.findIdx? c with
 | none=>
  rw [List.findIdx?_eq_none_iff] at h;refine kR (λi=>(i:Int)) l.length rfl hn (λi hi=>?_) he;rw [hf i l[i] (by simp),if_neg (by rw [h l[i] (by simp)];simp)];rfl
 | some k=>
  rw [List.findIdx?_eq_some_iff_getElem] at h;obtain⟨hk,h1,h2⟩:=h;refine kR (λi=>(i:Int)) k rfl (by omega) (λi hi=>?_) ?_
  ·have hl : i < l.length := by omega
   have:=h2 i hi;rw [hf i l[i] (by simp),if_neg (by simpa using this)];rfl
  rw [hf k l[k] (by simp),if_pos h1]
theorem jW {β:Type} {f:Int×β→Option ((Int×β) ⊕ ρ)} (n:Nat) (B:Nat→β) {o:ρ} {b:β} (hb:b=B 0) (hn:n≤9223372036854775807) (hf:∀ i,i < n→f ((i:Int),B i)=some (.inl ((i:Int)+1,B (i+1)))) (he:f ((n:Int),B n)=some (.inr o)):aQ f (0,b)=some o:=
 kR (λi=>((i:Int),B i)) n (by rw [hb];rfl) hn (λi hi=>by rw [hf i hi];rfl) he
theorem qHI {β:Type} {f:Int×β→Option ((Int×β) ⊕ ρ)} (n:Nat) (B:Nat→β) (c:Nat→Bool) (v o:ρ) {b:β} (hb:b=B 0) (hn:n≤9223372036854775807) (hf:∀ i,i < n→(∀ j,j < i→c j=false)→f ((i:Int),B i)=if c i=true then some (.inr v) else some (.inl ((i:Int)+1,B (i+1)))) (he:(∀ j,j < n→c j=false)→f ((n:Int),B n)=some (.inr o)):aQ f (0,b)=some (if (List.range n).any c=true then v else o):=by
 cases h:(List.range n).findIdx? c with
 | none=>
  rw [List.findIdx?_eq_none_iff] at h;have hall:∀ j,j < n→c j=false:=λj hj=>by simpa using h j (List.mem_range.2 hj)
  have hno:¬ (List.range n).any c=true:=by
   rw [zQU];rintro⟨j,hj,hc⟩;rw [hall j (List.mem_range.1 hj)] at hc;cases hc
  rw [if_neg hno];exact jW n B hb hn (λi hi=>by rw [hf i hi (λj hj=>hall j (by omega)),hall i hi];rfl) (he hall)
 | some k=>
  rw [List.findIdx?_eq_some_iff_getElem] at h;obtain⟨hk,h1,h2⟩:=h;simp only [List.length_range] at hk;simp only [List.getElem_range] at h1;have hb':∀ j,j < k→c j=false:=λj hj=>by have:=h2 j hj;simpa using this
  have hyes:(List.range n).any c=true:=zQU.2 ⟨k,List.mem_range.2 hk,h1⟩;rw [if_pos hyes];exact jW k B hb (by omega) (λi hi=>by rw [hf i (by omega) (λj hj=>hb' j (by omega)),hb' i hi];rfl) (by rw [hf k hk hb',h1];rfl)
theorem bG {i n:Nat} (h:i < n) (hn:n≤9223372036854775807):I64 ((i:Int)+1):=by unfold I64;omega
def sgn (x y:Int):Int:=if x < y then -1 else if y < x then 1 else 0
theorem qPJ (x y:Int):iG x y=some (sgn x y):=by
 simp only [iG,kN,decide_true,Bool.not_true,aA,Bool.false_eq_true,if_false,sgn];split
 ·rfl
 split<;>rfl
theorem or_eq (x y:Int):pJ [x,y]=some (if x=0 then y else x):=by
 unfold pJ;by_cases hx:x=0
 ·by_cases hy:y=0
  ·rw [uK (n := 3) (r := (.inl () : Unit ⊕ Int)) (by simp [mB, aT, aD, I64, hx, hy, aI]) (by decide)];simp [cR,hx,hy]
  rw [uK (n := 3) (r := (.inr y : Unit ⊕ Int)) (by simp [mB, aT, aD, I64, hx, hy, aI]) (by decide)];simp [cR,hx]
 rw [uK (n := 3) (r := (.inr x : Unit ⊕ Int)) (by simp [mB, aT, aD, I64, hx, aI]) (by decide)];simp [cR,hx]
theorem oU (x y:Setting):dF x y=some (if sgn x.el y.el=0 then sgn x.pos y.pos else sgn x.el y.el):=by
 simp only [dF,qPJ,aA,or_eq]
theorem lK:SortOk dF:=by
 have hl:∀ x y,ltM dF x y=decide (x.el < y.el∨x.el=y.el∧x.pos < y.pos):=by
  intro x y;simp only [ltM,oU,Option.getD_some,sgn];rw [decide_eq_decide];split<;>split<;>(try split)<;>(try split)<;>omega
 refine⟨λx y=>⟨_,oU x y⟩,λx=>?_,λx y z h1 h2=>?_,λx y z h1 h2=>?_,λx y h1 h2=>?_⟩
 ·rw [hl];simp
 ·rw [hl,decide_eq_true_eq] at *; omega
 ·rw [hl,decide_eq_false_iff_not] at *; omega
 rw [hl,decide_eq_false_iff_not] at *;obtain⟨a,b⟩:=x;obtain⟨c,d⟩:=y;simp only at h1 h2;have h3:a=c:=by omega
 have h4:b=d:=by omega
 rw [h3,h4]
end Go.Proofs.YtldaknhjmhlefaaGreatDoor
