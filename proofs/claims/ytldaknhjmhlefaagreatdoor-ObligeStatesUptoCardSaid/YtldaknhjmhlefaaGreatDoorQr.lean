/- Texts of this proof, joined, without what it does not use. No condition. -/
import Derived.Lib.ItoaNum
import Derived.Test.YtldaknhjmhlefaaGreatDoorQq

set_option maxHeartbeats 8000000
set_option linter.unusedSimpArgs false
set_option linter.unusedVariables false
set_option maxRecDepth 20000
namespace Go.Proofs.YtldaknhjmhlefaaGreatDoor
open Go Go.TL
def qBL (p0:Am):Option Bool:=
 if ((decide ((80:Int) < (p0.Ac.length:Int)))||((decide ((80:Int) < (p0.Ae.length:Int)))||(decide ((80:Int) < (p0.As.length:Int)))))=true then
 some false
 else
 eE (
 aW (λx6=>
 if x6 < (p0.Ac.length:Int) then
 bC p0.Ac x6 λe9=>
 if ((decide ((80:Int) < (e9.path.length:Int)))||((decide ((80:Int) < (e9.Ae.length:Int)))||((decide ((80:Int) < (e9.Aa.length:Int)))||((decide ((80:Int) < (e9.over.length:Int)))||((decide ((80:Int) < (e9.Ar.length:Int)))||((decide ((80:Int) < (e9.Ah.length:Int)))||((decide ((80:Int) < (e9.Az.length:Int)))||((decide ((80:Int) < (e9.guards.length:Int)))||(decide ((80:Int) < (e9.gaps.length:Int)))))))))))=true then
 aY (
 aY (
 some false))
 else
 aD (I64 (x6+(1:Int))) <|
 some (.inl (x6+(1:Int)))
 else
 aY (
 some (.inl ()))) (0:Int)) λ_=>
 some true
def rL (p0:Am):Option Bool:=
 aC (
 aC (qBL p0) λr3=>
 if r3=true then
 some (decide ((p0.Ac.length:Int)<=(14:Int)))
 else
 some false) λx1=>
 some x1
def qDL:Option Aw:=
 aC (
 aW (λ(x6,b7)=>
 if x6 < (([(⟨#[97]⟩:BA),(⟨#[98]⟩:BA),(⟨#[99]⟩:BA)]:List BA).length:Int) then
 bC ([(⟨#[97]⟩:BA),(⟨#[98]⟩:BA),(⟨#[99]⟩:BA)]:List BA) x6 λe10=>
 aD ((b7++([(⟨e10,(1:Int),(20000:Int),(0:Int),(3000:Int),(0:Int),x6⟩:A5)]:List A5)).length<=1000000000) <|
 aD (I64 (x6+(1:Int))) <|
 some (.inl ((x6+(1:Int)),(b7++([(⟨e10,(1:Int),(20000:Int),(0:Int),(3000:Int),(0:Int),x6⟩:A5)]:List A5))))
 else
 aY (
 some b7)) ((0:Int),([]:List A5))) λb1=>
 some (⟨(⟨#[108,105,110,101]⟩:BA),([(⟨#[120]⟩:BA),(⟨#[121]⟩:BA),(⟨#[122]⟩:BA)]:List BA),b1,([(⟨(⟨(0:Int),(1:Int)⟩:End),(⟨(1:Int),(0:Int)⟩:End)⟩:Bc),(⟨(⟨(1:Int),(1:Int)⟩:End),(⟨(2:Int),(0:Int)⟩:End)⟩:Bc)]:List Bc),([(⟨(⟨#[115,49]⟩:BA),(⟨(0:Int),(1:Int)⟩:End),(0:Int)⟩:A8),(⟨(⟨#[115,50]⟩:BA),(⟨(1:Int),(1:Int)⟩:End),(0:Int)⟩:A8)]:List A8),([]:List Bb)⟩:Aw)
def zP (p0:Aw):Option Ba:=
 aD ((([]:List BA)++p0.Aa).length<=1000000000) <|
 aC (
 aW (λ(x7,b8)=>
 if x7 < (p0.A0.length:Int) then
 bC p0.A0 x7 λe11=>
 aD ((b8++([e11.name]:List BA)).length<=1000000000) <|
 aD (I64 (x7+(1:Int))) <|
 some (.inl ((x7+(1:Int)),(b8++([e11.name]:List BA))))
 else
 aY (
 some b8)) ((0:Int),([]:List BA))) λb2=>
 aC (
 aW (λ(x20,b21)=>
 if x20 < (p0.Al.length:Int) then
 bC p0.Al x20 λe24=>
 aD ((b21++([e24.name]:List BA)).length<=1000000000) <|
 aD (I64 (x20+(1:Int))) <|
 some (.inl ((x20+(1:Int)),(b21++([e24.name]:List BA))))
 else
 aY (
 some b21)) ((0:Int),([]:List BA))) λb15=>
 some (⟨(([]:List BA)++p0.Aa),b2,b15⟩:Ba)
def qDG (p0:BA):Option Bool:=
 eE (
 aW (λi3=>
 if i3 < (p0.size:Int) then
 aC (
 bC p0.data.toList i3 λe8=>
 if (97:Int)<=(e8.toNat:Int) then
 bC p0.data.toList i3 λe10=>
 some (decide ((e10.toNat:Int)<=(122:Int)))
 else
 some false) λletter6=>
 aC (
 bC p0.data.toList i3 λe13=>
 if (48:Int)<=(e13.toNat:Int) then
 bC p0.data.toList i3 λe16=>
 if (e16.toNat:Int)<=(57:Int) then
 some true
 else
 bC p0.data.toList i3 λe18=>
 some (decide ((e18.toNat:Int)=(95:Int)))
 else
 bC p0.data.toList i3 λe15=>
 some (decide ((e15.toNat:Int)=(95:Int)))) λdigit11=>
 if ((!(letter6))&&((!(digit11))||(decide (i3=(0:Int)))))=true then
 none
 else
 aD (I64 (i3+(1:Int))) <|
 some (.inl (i3+(1:Int)))
 else
 aY (
 some (.inl ()))) (0:Int)) λ_=>
 some ((decide ((1:Int)<=(p0.size:Int)))&&(decide ((p0.size:Int)<=(12:Int))))
def rJ (p0:(List BA)):Option Bool:=
 eE (
 aW (λx3=>
 if x3 < (p0.length:Int) then
 eE (
 aW (λx8=>
 if x8 < x3 then
 bC p0 x3 λe11=>
 bC p0 x8 λe12=>
 if e11=e12 then
 none
 else
 aD (I64 (x8+(1:Int))) <|
 some (.inl (x8+(1:Int)))
 else
 aY (
 some (.inl ()))) (0:Int)) λ_=>
 aD (I64 (x3+(1:Int))) <|
 some (.inl (x3+(1:Int)))
 else
 aY (
 some (.inl ()))) (0:Int)) λ_=>
 some false
def zQ (p0:Aw):Option Int:=
 if ((decide ((p0.A0.length:Int) < (1:Int)))||((decide ((32:Int) < (p0.A0.length:Int)))||((decide ((p0.Aa.length:Int) < (1:Int)))||((decide ((24:Int) < (p0.Aa.length:Int)))||((decide ((20:Int) < (p0.Al.length:Int)))||(decide ((24:Int) < (p0.balises.length:Int))))))))=true then
 none
 else
 aC (zP p0) λr7=>
 eE (
 aD ((([p0.name]:List BA)++r7.a0).length<=1000000000) <|
 aD (((([p0.name]:List BA)++r7.a0)++r7.a1).length<=1000000000) <|
 aD ((((([p0.name]:List BA)++r7.a0)++r7.a1)++r7.a2).length<=1000000000) <|
 aW (λx13=>
 if x13 < ((((([p0.name]:List BA)++r7.a0)++r7.a1)++r7.a2).length:Int) then
 bC (((([p0.name]:List BA)++r7.a0)++r7.a1)++r7.a2) x13 λe16=>
 aC (qDG e16) λr17=>
 if (!(r17))=true then
 none
 else
 aD (I64 (x13+(1:Int))) <|
 some (.inl (x13+(1:Int)))
 else
 aY (
 some (.inl ()))) (0:Int)) λ_=>
 aC (
 aC (rJ r7.a0) λr23=>
 if r23=true then
 some true
 else
 aC (rJ r7.a1) λr25=>
 if r25=true then
 some true
 else
 aC (rJ r7.a2) λr27=>
 some r27) λx21=>
 if x21=true then
 none
 else
 some (0:Int)
def zO (p0:Aw) (p1:A5):Option Bool:=
 if ((decide (p1.kind < (1:Int)))||((decide ((3:Int) < p1.kind))||((decide (p1.length < (500:Int)))||((decide ((1000000:Int) < p1.length))||((decide (p1.grade < (-50:Int)))||((decide ((50:Int) < p1.grade))||((decide (p1.speed < (100:Int)))||((decide ((10000:Int) < p1.speed))||((decide (p1.A6 < (0:Int)))||(decide ((p0.Aa.length:Int)<=p1.A6)))))))))))=true then
 none
 else
 if p1.kind=(2:Int) then
 none
 else
 some (decide (p1.slow=(0:Int)))
def vL (p0:Aw) (p1:Int):Option ((List Int)):=
 aC (
 aW (λ(x6,b7)=>
 if x6 < (p0.A0.length:Int) then
 bC p0.A0 x6 λe10=>
 if ((decide (e10.A6=p1))&&((decide ((0:Int)<=p1))&&(decide (p1 < (p0.Aa.length:Int)))))=true then
 aD ((b7++([x6]:List Int)).length<=1000000000) <|
 aD (I64 (x6+(1:Int))) <|
 some (.inl ((x6+(1:Int)),(b7++([x6]:List Int))))
 else
 aD (I64 (x6+(1:Int))) <|
 some (.inl ((x6+(1:Int)),b7))
 else
 aY (
 some b7)) ((0:Int),([]:List Int))) λb1=>
 some b1
def uQ (p0:Int):Option Int:=
 if p0=(1:Int) then
 some (2:Int)
 else
 none
def pL (p0:Aw) (p1:End):Option Bool:=
 aC (
 if (0:Int)<=p1.el then
 if p1.el < (p0.A0.length:Int) then
 if (0:Int)<=p1.side then
 bC p0.A0 p1.el λe6=>
 aC (uQ e6.kind) λr7=>
 some (decide (p1.side < r7))
 else
 some false
 else
 some false
 else
 some false) λx1=>
 some x1
def xT (p0:(List End)):Option Bool:=
 eE (
 aW (λx3=>
 if x3 < (p0.length:Int) then
 eE (
 aW (λx8=>
 if x8 < x3 then
 bC p0 x3 λe11=>
 bC p0 x8 λe12=>
 aD (End.ok e11/\End.ok e12) <|
 if e11=e12 then
 none
 else
 aD (I64 (x8+(1:Int))) <|
 some (.inl (x8+(1:Int)))
 else
 aY (
 some (.inl ()))) (0:Int)) λ_=>
 aD (I64 (x3+(1:Int))) <|
 some (.inl (x3+(1:Int)))
 else
 aY (
 some (.inl ()))) (0:Int)) λ_=>
 some false
def tK (p0:Aw):Option Int:=
 eE (
 aW (λx3=>
 if x3 < (p0.A0.length:Int) then
 bC p0.A0 x3 λe6=>
 aC (zO p0 e6) λr7=>
 if (!(r7))=true then
 none
 else
 aD (I64 (x3+(1:Int))) <|
 some (.inl (x3+(1:Int)))
 else
 aY (
 some (.inl ()))) (0:Int)) λ_=>
 eE (
 aW (λx13=>
 if x13 < (p0.Aa.length:Int) then
 aC (vL p0 x13) λr16=>
 if (r16.length:Int)=(0:Int) then
 none
 else
 aD (I64 (x13+(1:Int))) <|
 some (.inl (x13+(1:Int)))
 else
 aY (
 some (.inl ()))) (0:Int)) λ_=>
 eE (
 aW (λ(x25,b26)=>
 if x25 < (p0.joints.length:Int) then
 bC p0.joints x25 λe29=>
 aC (
 aC (pL p0 e29.a) λr32=>
 if (!(r32))=true then
 some true
 else
 aC (pL p0 e29.b) λr34=>
 if (!(r34))=true then
 some true
 else
 aD (End.ok e29.a/\End.ok e29.b) <|
 some (decide (e29.a=e29.b))) λx30=>
 if x30=true then
 none
 else
 aD ((b26++([e29.a,e29.b]:List End)).length<=1000000000) <|
 aD (I64 (x25+(1:Int))) <|
 some (.inl ((x25+(1:Int)),(b26++([e29.a,e29.b]:List End))))
 else
 aY (
 some (.inl b26))) ((0:Int),([]:List End))) λb20=>
 aC (xT b20) λr42=>
 if r42=true then
 none
 else
 some (0:Int)
def mJ (p0:Aw) (p1:End):Option (End×Bool):=
 eE (
 aW (λx3=>
 if x3 < (p0.joints.length:Int) then
 bC p0.joints x3 λe6=>
 aD (End.ok e6.a/\End.ok p1) <|
 if e6.a=p1 then
 aY (
 aY (
 some (e6.b,true)))
 else
 aD (End.ok e6.b/\End.ok p1) <|
 if e6.b=p1 then
 none
 else
 aD (I64 (x3+(1:Int))) <|
 some (.inl (x3+(1:Int)))
 else
 aY (
 some (.inl ()))) (0:Int)) λ_=>
 some ((⟨(0:Int),(0:Int)⟩:End),false)
def vH (p0:Aw):Option Int:=
 eE (
 aW (λ(x6,b7)=>
 if x6 < (p0.Al.length:Int) then
 bC p0.Al x6 λe10=>
 aC (
 aC (pL p0 e10.atV) λr13=>
 if (!(r13))=true then
 some true
 else
 if e10.overlap < (0:Int) then
 some true
 else
 some (decide ((1000000:Int) < e10.overlap))) λx11=>
 if x11=true then
 none
 else
 aD ((b7++([e10.atV]:List End)).length<=1000000000) <|
 aD (I64 (x6+(1:Int))) <|
 some (.inl ((x6+(1:Int)),(b7++([e10.atV]:List End))))
 else
 aY (
 some (.inl b7))) ((0:Int),([]:List End))) λb1=>
 aC (xT b1) λr20=>
 if r20=true then
 none
 else
 eE (
 aW (λx24=>
 if x24 < (b1.length:Int) then
 bC b1 x24 λe27=>
 aC (mJ p0 e27) λ(r29,r30)=>
 aC (
 if (!(r30))=true then
 some true
 else
 bC p0.A0 r29.el λe34=>
 bC p0.A0 e27.el λe35=>
 some (decide (e34.A6=e35.A6))) λx31=>
 if x31=true then
 none
 else
 aD (I64 (x24+(1:Int))) <|
 some (.inl (x24+(1:Int)))
 else
 aY (
 some (.inl ()))) (0:Int)) λ_=>
 some (0:Int)
def vI (p0:(List Int)):Option Bool:=
 eE (
 aW (λx3=>
 if x3 < (p0.length:Int) then
 none
 else
 aY (
 some (.inl ()))) (0:Int)) λ_=>
 some false
def vJ (p0:Aw):Option Int:=
 eE (
 aW (λx3=>
 if x3 < (p0.balises.length:Int) then
 none
 else
 aY (
 some (.inl ()))) (0:Int)) λ_=>
 aC (vI ([]:List Int)) λr7=>
 if r7=true then
 none
 else
 some (0:Int)
def zR (p0:Aw):Option Int:=
 aC (zQ p0) λr1=>
 if r1=(0:Int) then
 aC (tK p0) λr3=>
 if r3=(0:Int) then
 aC (vH p0) λr5=>
 if r5=(0:Int) then
 aC (vJ p0) λr7=>
 some r7
 else
 none
 else
 none
 else
 none
def nQ (p0:Aw) (p1:Int):Option Bool:=
 some ((decide ((0:Int)<=p1))&&(decide (p1 < (p0.A0.length:Int))))
def qI (p0:Int) (p1:Int) (p2:Int):Option (Int×Bool):=
 if ((decide (p0=(1:Int)))||(decide (p0=(3:Int))))=true then
 some ((0:Int),(bif decide ((min p1 p2)=(0:Int)) then ((decide ((max p1 p2)=(1:Int)))||((decide (p0=(3:Int)))&&((decide ((min p1 p2)=(2:Int)))&&(decide ((max p1 p2)=(3:Int)))))) else ((decide (p0=(3:Int)))&&((decide ((min p1 p2)=(2:Int)))&&(decide ((max p1 p2)=(3:Int)))))))
 else
 none
def qDF (p0:Int) (p1:Int):Option ((List Int)):=
 aC (
 aW (λ(side6,b7)=>
 if side6 < (4:Int) then
 aC (qI p0 p1 side6) λ(r11,r12)=>
 if r12=true then
 aD ((b7++([side6]:List Int)).length<=1000000000) <|
 aD (I64 (side6+(1:Int))) <|
 some (.inl ((side6+(1:Int)),(b7++([side6]:List Int))))
 else
 aD (I64 (side6+(1:Int))) <|
 some (.inl ((side6+(1:Int)),b7))
 else
 aY (
 some b7)) ((0:Int),([]:List Int))) λb1=>
 some b1
def tI (p0:Aw) (p1:End):Option ((List Ay)):=
 aC (nQ p0 p1.el) λr1=>
 if (!(r1))=true then
 none
 else
 bC p0.A0 p1.el λe3=>
 aC (qDF e3.kind p1.side) λr4=>
 aC (
 aW (λ(i10,b11)=>
 if i10 < (r4.length:Int) then
 bC r4 i10 λe14=>
 aD ((b11++([(⟨p1.el,p1.side,e14⟩:Ay)]:List Ay)).length<=1000000000) <|
 aD (I64 (i10+(1:Int))) <|
 some (.inl ((i10+(1:Int)),(b11++([(⟨p1.el,p1.side,e14⟩:Ay)]:List Ay))))
 else
 aY (
 some b11)) ((0:Int),([]:List Ay))) λb5=>
 some b5
def tH (p0:Aw) (p1:Ay):Option (Int×Bool):=
 aC (nQ p0 p1.el) λr1=>
 if (!(r1))=true then
 none
 else
 bC p0.A0 p1.el λe3=>
 aC (qI e3.kind p1.inV p1.out) λ(r5,r6)=>
 some (r5,r6)
def xS (p0:Aw) (p1:Ay):Option (End×Bool):=
 aC (mJ p0 (⟨p1.el,p1.out⟩:End)) λ(r2,r3)=>
 some (r2,r3)
def zM (p0:Aw) (p1:(List Ay)):Option Bool:=
 if ((decide ((p1.length:Int)=(0:Int)))||(decide ((64:Int) < (p1.length:Int))))=true then
 none
 else
 eE (
 aW (λi5=>
 if i5 < (p1.length:Int) then
 eE (
 bC p1 i5 λe9=>
 aC (tH p0 e9) λ(r11,r12)=>
 if (!(r12))=true then
 none
 else
 eE (
 if (0:Int) < i5 then
 none
 else
 some (.inl ())) λ_=>
 aW (λk17=>
 if k17 < i5 then
 none
 else
 aY (
 some (.inl ()))) (0:Int)) λ_=>
 aD (I64 (i5+(1:Int))) <|
 some (.inl (i5+(1:Int)))
 else
 aY (
 some (.inl ()))) (0:Int)) λ_=>
 some true
def vK (p0:Aw) (p1:Int):Option Int:=
 if ((decide (p1 < (0:Int)))||(decide ((p0.A0.length:Int)<=p1)))=true then
 none
 else
 bC p0.A0 p1 λe3=>
 some e3.A6
def qFZ (p0:(List Int)) (p1:Int):Option Bool:=
 eE (
 aW (λi3=>
 if i3 < (p0.length:Int) then
 none
 else
 aY (
 some (.inl ()))) (0:Int)) λ_=>
 some false
def nJ (p0:Aw) (p1:(List Ay)):Option ((List Int)):=
 aC (
 aW (λ(i6,b7)=>
 if i6 < (p1.length:Int) then
 aC (
 bC p1 i6 λe12=>
 aC (nQ p0 e12.el) λr13=>
 if r13=true then
 bC p1 i6 λe15=>
 bC p0.A0 e15.el λe16=>
 aC (qFZ b7 e16.A6) λr17=>
 some (!(r17))
 else
 some false) λx10=>
 if x10=true then
 bC p1 i6 λe19=>
 bC p0.A0 e19.el λe20=>
 aD ((b7++([e20.A6]:List Int)).length<=1000000000) <|
 aD (I64 (i6+(1:Int))) <|
 some (.inl ((i6+(1:Int)),(b7++([e20.A6]:List Int))))
 else
 none
 else
 aY (
 some b7)) ((0:Int),([]:List Int))) λb1=>
 some b1
def qDE (p0:Aw) (p1:End) (p2:(List Ay)):Option Bool:=
 aC (
 if (p2.length:Int)=(0:Int) then
 some true
 else
 if (12:Int) < (p2.length:Int) then
 some true
 else
 bC p2 (0:Int) λe5=>
 if e5.el=p1.el then
 bC p2 (0:Int) λe7=>
 if e7.inV=p1.side then
 aC (zM p0 p2) λr9=>
 some (!(r9))
 else
 some true
 else
 some true) λx1=>
 if x1=true then
 none
 else
 aC (
 aW (λ(changes15,i16)=>
 if i16 < (p2.length:Int) then
 none
 else
 aY (
 some changes15)) ((1:Int),(1:Int))) λchanges11=>
 aC (nJ p0 p2) λr20=>
 some (decide (changes11=(r20.length:Int)))
def xU (p0:Aw) (p1:End):Option Int:=
 eE (
 aW (λx3=>
 if x3 < (p0.Al.length:Int) then
 bC p0.Al x3 λe6=>
 aD (End.ok e6.atV/\End.ok p1) <|
 if e6.atV=p1 then
 aY (
 aY (
 some x3))
 else
 aD (I64 (x3+(1:Int))) <|
 some (.inl (x3+(1:Int)))
 else
 aY (
 some (.inl ()))) (0:Int)) λ_=>
 some (-1:Int)
def tG (p0:Aw) (p1:Ay):Option (Int×Bool):=
 aC (xU p0 (⟨p1.el,p1.out⟩:End)) λr1=>
 aC (xS p0 p1) λ(r3,r4)=>
 some (r1,((decide ((0:Int)<=r1))||(!(r4))))
def qDC (p0:Aw) (p1:Int) (p2:Int):Option BA:=
 if p2 < (0:Int) then
 bC p0.Al p1 λe2=>
 aD (e2.name.size+(⟨#[45,101,110,100]⟩:BA).size<=9223372036854775807) <|
 some (e2.name++(⟨#[45,101,110,100]⟩:BA))
 else
 bC p0.Al p1 λe4=>
 aD (e4.name.size+(⟨#[45]⟩:BA).size<=9223372036854775807) <|
 bC p0.Al p2 λe6=>
 aD ((e4.name++(⟨#[45]⟩:BA)).size+e6.name.size<=9223372036854775807) <|
 some ((e4.name++(⟨#[45]⟩:BA))++e6.name)
def pK (p0:Aw) (p1:(List Ay)):Option ((List Ag)):=
 aC (
 aW (λ(out5,i6)=>
 if i6 < (p1.length:Int) then
 bC p1 i6 λe9=>
 aC (tH p0 e9) λ(r11,r12)=>
 if (r12&&(!(decide (r11=(0:Int)))))=true then
 none
 else
 aD (I64 (i6+(1:Int))) <|
 some (.inl (out5,(i6+(1:Int))))
 else
 aY (
 some out5)) (([]:List Ag),(0:Int))) λout1=>
 some out1
def sF (p0:Aw) (p1:(List Ay)):Option Int:=
 aC (
 aW (λ(sum5,i6)=>
 if i6 < (p1.length:Int) then
 bC p1 i6 λe9=>
 aC (nQ p0 e9.el) λr10=>
 if r10=true then
 bC p1 i6 λe12=>
 bC p0.A0 e12.el λe13=>
 aD (I64 (sum5+e13.length)) <|
 aD (I64 (i6+(1:Int))) <|
 some (.inl ((sum5+e13.length),(i6+(1:Int))))
 else
 none
 else
 aY (
 some sum5)) ((0:Int),(0:Int))) λsum1=>
 some sum1
def lI:Nat->Bf->Aw->End->End->(List Ay)->Option Bf
 | 0,_,_,_,_,_=>none
 | fu+1,p0,p1,p2,p3,p4=>
 aC (tI p1 p3) λr1=>
 aW (λ(i5,b6)=>
 if i5 < (r1.length:Int) then
 aD ((([]:List Ay)++p4).length<=1000000000) <|
 bC r1 i5 λe10=>
 aD (((([]:List Ay)++p4)++([e10]:List Ay)).length<=1000000000) <|
 aC (qDE p1 p2 ((([]:List Ay)++p4)++([e10]:List Ay))) λr12=>
 if (!(r12))=true then
 none
 else
 bC r1 i5 λe14=>
 aC (tG p1 e14) λ(r16,r17)=>
 if r17=true then
 aD ((b6++([((([]:List Ay)++p4)++([e10]:List Ay))]:List (List Ay))).length<=1000000000) <|
 aD (I64 (i5+(1:Int))) <|
 some (.inl ((i5+(1:Int)),(b6++([((([]:List Ay)++p4)++([e10]:List Ay))]:List (List Ay)))))
 else
 none
 else
 aY (
 some (⟨b6⟩:Bf))) ((0:Int),p0.l)
def tF (p0:Bf) (p1:Aw) (p2:End) (p3:End) (p4:(List Ay)):Option Bf:=lI eR p0 p1 p2 p3 p4
def qDD (p0:Aw) (p1:Int):Option ((List Aj)):=
 if ((decide (p1 < (0:Int)))||(decide ((p0.Al.length:Int)<=p1)))=true then
 none
 else
 bC p0.Al p1 λe3=>
 aC (mJ p0 e3.atV) λ(r5,r6)=>
 if (!(r6))=true then
 none
 else
 aC (tF (⟨([]:List (List Ay))⟩:Bf) p0 r5 r5 []) λr8=>
 aC (
 aW (λ(i14,b15)=>
 if i14 < (r8.l.length:Int) then
 aC (
 bC r8.l i14 λe20=>
 aD (I64 ((e20.length:Int) - (1:Int))) <|
 bC e20 ((e20.length:Int) - (1:Int)) λe22=>
 aC (tG p0 e22) λ(r24,r25)=>
 aC (qDC p0 p1 r24) λr26=>
 aC (pK p0 e20) λr27=>
 aC (nJ p0 e20) λr28=>
 aC (sF p0 e20) λr29=>
 bC p0.Al p1 λe30=>
 aC (vK p0 e30.atV.el) λr31=>
 aC (
 aW (λ(before36,k37)=>
 if k37 < i14 then
 none
 else
 aY (
 some before36)) ((1:Int),(0:Int))) λbefore32=>
 aC (
 if (1:Int) < before32 then
 none
 else
 some ()) λ_=>
 aD ((b15++([(⟨r26,p1,r24,e20,r27,r28,r31,r29,([]:List Ay),([]:List Ag),([]:List Int),([]:List Ag),([]:List Int),([]:List End)⟩:Aj)]:List Aj)).length<=1000000000) <|
 some (b15++([(⟨r26,p1,r24,e20,r27,r28,r31,r29,([]:List Ay),([]:List Ag),([]:List Int),([]:List Ag),([]:List Int),([]:List End)⟩:Aj)]:List Aj))) λb18=>
 aD (I64 (i14+(1:Int))) <|
 some (.inl ((i14+(1:Int)),b18))
 else
 aY (
 some b15)) ((0:Int),([]:List Aj))) λb9=>
 some b9
def qFY (p0:Aw):Option ((List Aj)×Int):=
 aC (zR p0) λr1=>
 if r1=(0:Int) then
 aC (
 aW (λ(i8,b9)=>
 if i8 < (p0.Al.length:Int) then
 aC (qDD p0 i8) λr12=>
 aD ((b9++r12).length<=1000000000) <|
 aD (I64 (i8+(1:Int))) <|
 some (.inl ((i8+(1:Int)),(b9++r12)))
 else
 aY (
 some b9)) ((0:Int),([]:List Aj))) λb3=>
 if (48:Int) < (b3.length:Int) then
 none
 else
 some (b3,(0:Int))
 else
 none
def xV (p0:Aw):Option ((List Int)):=
 aC (
 aW (λx3=>
 if x3 < (p0.A0.length:Int) then
 bC p0.A0 x3 λe6=>
 if e6.kind=(2:Int) then
 none
 else
 aD (I64 (x3+(1:Int))) <|
 some (.inl (x3+(1:Int)))
 else
 aY (
 some ())) (0:Int)) λ_=>
 some ([]:List Int)
def qDA (p0:Aw) (p1:Aj):Option (A8×Bool):=
 if ((decide (p1.exit < (0:Int)))||(decide ((p0.Al.length:Int)<=p1.exit)))=true then
 some ((⟨(⟨#[]⟩:BA),(⟨(0:Int),(0:Int)⟩:End),(0:Int)⟩:A8),false)
 else
 bC p0.Al p1.exit λe3=>
 some (e3,true)
def vF (p0:Aw) (p1:Aj) (p2:(List Ay)) (p3:Int):Option Bool:=
 aW (λx2=>
 if x2 < (p2.length:Int) then
 none
 else
 none) (0:Int)
def qDB (p0:Aw) (p1:Aj):Option Aj:=
 aC (qDA p0 (⟨p1.name,p1.entry,p1.exit,p1.path,p1.Ae,p1.Aa,p1.A4,p1.length,([]:List Ay),([]:List Ag),([]:List Int),p1.Az,p1.guards,p1.gaps⟩:Aj)) λ(r2,r3)=>
 if (!(r3))=true then
 some (⟨p1.name,p1.entry,p1.exit,p1.path,p1.Ae,p1.Aa,p1.A4,p1.length,([]:List Ay),([]:List Ag),([]:List Int),p1.Az,p1.guards,p1.gaps⟩:Aj)
 else
 aC (mJ p0 r2.atV) λ(r6,r7)=>
 aC (
 aW (λjoined10=>
 aC (
 if joined10=true then
 aC (sF p0 ([]:List Ay)) λr15=>
 if r15 < r2.overlap then
 if (([]:List Ay).length:Int) < (12:Int) then
 aC (vF p0 (⟨p1.name,p1.entry,p1.exit,p1.path,p1.Ae,p1.Aa,p1.A4,p1.length,([]:List Ay),([]:List Ag),([]:List Int),p1.Az,p1.guards,p1.gaps⟩:Aj) ([]:List Ay) r6.el) λr18=>
 some (!(r18))
 else
 some false
 else
 some false
 else
 some false) λx12=>
 if x12=true then
 none
 else
 aY (
 some ())) r7) λ_=>
 aC (pK p0 ([]:List Ay)) λr21=>
 aC (nJ p0 ([]:List Ay)) λr22=>
 some (⟨p1.name,p1.entry,p1.exit,p1.path,p1.Ae,p1.Aa,p1.A4,p1.length,([]:List Ay),r21,r22,p1.Az,p1.guards,p1.gaps⟩:Aj)
def xR (p0:Aw) (p1:Ay):Option ((List End)):=
 if ((decide (p1.el < (0:Int)))||(decide ((p0.A0.length:Int)<=p1.el)))=true then
 none
 else
 bC p0.A0 p1.el λe3=>
 aC (qI e3.kind p1.inV p1.out) λ(r5,r6)=>
 aC (
 aW (λside9=>
 aC (uQ e3.kind) λr11=>
 if side9 < r11 then
 if (r6&&((!(decide (side9=p1.inV)))&&(!(decide (side9=p1.out)))))=true then
 none
 else
 aD (I64 (side9+(1:Int))) <|
 some (.inl (side9+(1:Int)))
 else
 aY (
 some ())) (0:Int)) λ_=>
 some ([]:List End)
def zK (p0:Aw) (p1:Aj):Option ((List End)):=
 aC (
 aW (λ(i6,b7)=>
 if i6 < (p1.path.length:Int) then
 bC p1.path i6 λe10=>
 aC (xR p0 e10) λr11=>
 aD ((b7++r11).length<=1000000000) <|
 aD (I64 (i6+(1:Int))) <|
 some (.inl ((i6+(1:Int)),(b7++r11)))
 else
 aY (
 some b7)) ((0:Int),([]:List End))) λb1=>
 aC (
 aW (λi17=>
 if i17 < (p1.over.length:Int) then
 none
 else
 aY (
 some ())) (0:Int)) λ_=>
 some b1
def wL (p0:(List Int)) (p1:Int):Option Bool:=
 eE (
 aW (λi3=>
 if i3 < (p0.length:Int) then
 bC p0 i3 λe6=>
 if e6=p1 then
 aY (
 aY (
 some true))
 else
 aD (I64 (i3+(1:Int))) <|
 some (.inl (i3+(1:Int)))
 else
 aY (
 some (.inl ()))) (0:Int)) λ_=>
 some false
def qCZ (p0:Aw) (p1:Aj):Option Aj:=
 aC (zK p0 (⟨p1.name,p1.entry,p1.exit,p1.path,p1.Ae,p1.Aa,p1.A4,p1.length,p1.over,p1.Ar,p1.Ah,([]:List Ag),([]:List Int),([]:List End)⟩:Aj)) λr1=>
 aC (
 aW (λi4=>
 if i4 < (r1.length:Int) then
 none
 else
 aY (
 some ())) (0:Int)) λ_=>
 some (⟨p1.name,p1.entry,p1.exit,p1.path,p1.Ae,p1.Aa,p1.A4,p1.length,p1.over,p1.Ar,p1.Ah,([]:List Ag),([]:List Int),([]:List End)⟩:Aj)
def zJ (p0:Aw):Option (Am×Int):=
 aC (qFY p0) λ(r2,r3)=>
 if r3=(0:Int) then
 aC (xV p0) λr5=>
 aC (
 aW (λ(x11,b12)=>
 if x11 < (r2.length:Int) then
 bC r2 x11 λe15=>
 aC (qDB p0 e15) λr16=>
 aC (qCZ p0 r16) λr17=>
 aD ((b12++([r17]:List Aj)).length<=1000000000) <|
 aD (I64 (x11+(1:Int))) <|
 some (.inl ((x11+(1:Int)),(b12++([r17]:List Aj))))
 else
 aY (
 some b12)) ((0:Int),([]:List Aj))) λb6=>
 aC (
 aW (λx23=>
 if x23 < (r5.length:Int) then
 none
 else
 aY (
 some ())) (0:Int)) λ_=>
 some ((⟨b6,r5,([]:List Int),(p0.Aa.length:Int),(p0.Al.length:Int)⟩:Am),(0:Int))
 else
 none
def fH (p0:Int) (p1:Int):Option Bool:=
 some ((decide ((0:Int)<=p0))&&(decide (p0 < p1)))
def lE (p0:Am):Option Bool:=
 if (p0.As.length:Int)=(p0.Ae.length:Int) then
 eE (
 aW (λx4=>
 if x4 < (p0.Ae.length:Int) then
 bC p0.Ae x4 λe7=>
 aC (
 if e7 < (0:Int) then
 some true
 else
 if (0:Int) < x4 then
 aD (I64 (x4 - (1:Int))) <|
 bC p0.Ae (x4 - (1:Int)) λe15=>
 if e7<=e15 then
 some true
 else
 bC p0.As x4 λe17=>
 aC (fH e17 p0.Aa) λr18=>
 some (!(r18))
 else
 bC p0.As x4 λe12=>
 aC (fH e12 p0.Aa) λr13=>
 some (!(r13))) λx8=>
 if x8=true then
 aY (
 aY (
 some false))
 else
 aD (I64 (x4+(1:Int))) <|
 some (.inl (x4+(1:Int)))
 else
 aY (
 some (.inl ()))) (0:Int)) λ_=>
 some true
 else
 some false
def iO (p0:List (List Int)):Option (List Int):=
 aD (p0.length<=1000/\p0.flatten.length<=1000000000) <|
 some p0.flatten
def kS (p0:Am) (p1:Aj):Option Bool:=
 aC (
 aC (fH p1.entry p0.Al) λr3=>
 if (!(r3))=true then
 some true
 else
 if p1.exit=(-1:Int) then
 some false
 else
 aC (fH p1.exit p0.Al) λr6=>
 some (!(r6))) λx1=>
 if x1=true then
 some false
 else
 if ((decide ((p1.path.length:Int) < (1:Int)))||((decide ((12:Int) < (p1.path.length:Int)))||(decide ((p1.Aa.length:Int)=(0:Int)))))=true then
 some false
 else
 eE (
 aC (iO ([p1.Aa,p1.Ah]:List (List Int))) λr13=>
 aW (λ(x17,b18)=>
 if x17 < (r13.length:Int) then
 bC r13 x17 λe21=>
 aC (
 aC (fH e21 p0.Aa) λr24=>
 if (!(r24))=true then
 some true
 else
 aD (e21 < 24) <|
 bC b18 e21 λe26=>
 some e26) λx22=>
 if x22=true then
 aY (
 aY (
 some false))
 else
 aD (e21 < 24) <|
 bC b18 e21 λe31=>
 aD (I64 (x17+(1:Int))) <|
 some (.inl ((x17+(1:Int)),(b18.set e21.toNat true)))
 else
 aY (
 some (.inl b18))) ((0:Int),(List.replicate 24 false))) λb11=>
 aC (
 aC (fH p1.A4 p0.Aa) λr37=>
 if r37=true then
 some (decide ((1:Int)<=p1.length))
 else
 some false) λx35=>
 some x35
def eD (p0:(List Int)) (p1:Int):Option Int:=
 eE (
 aW (λx3=>
 if x3 < (p0.length:Int) then
 bC p0 x3 λe6=>
 if p1=e6 then
 aY (
 aY (
 some x3))
 else
 aD (I64 (x3+(1:Int))) <|
 some (.inl (x3+(1:Int)))
 else
 aY (
 some (.inl ()))) (0:Int)) λ_=>
 some (-1:Int)
def iD (p0:Am) (p1:Int):Option Int:=
 aC (eD p0.Ae p1) λr1=>
 some r1
def eW (p0:Am) (p1:(List Ag)):Option Bool:=
 eE (
 aW (λx3=>
 if x3 < (p1.length:Int) then
 bC p1 x3 λe6=>
 aC (
 if (0:Int) < x3 then
 aD (I64 (x3 - (1:Int))) <|
 bC p1 (x3 - (1:Int)) λe12=>
 if e6.el<=e12.el then
 some true
 else
 aC (iD p0 e6.el) λr14=>
 some (decide (r14 < (0:Int)))
 else
 aC (iD p0 e6.el) λr10=>
 some (decide (r10 < (0:Int)))) λx7=>
 if x7=true then
 aY (
 aY (
 some false))
 else
 if ((!(decide (e6.pos=(1:Int))))&&(!(decide (e6.pos=(2:Int)))))=true then
 aY (
 aY (
 some false))
 else
 aD (I64 (x3+(1:Int))) <|
 some (.inl (x3+(1:Int)))
 else
 aY (
 some (.inl ()))) (0:Int)) λ_=>
 some true
def iA (p0:(List Ag)) (p1:(List Ag)):Option Bool:=
 eE (
 aW (λx3=>
 if x3 < (p0.length:Int) then
 eE (
 bC p0 x3 λe7=>
 aW (λx9=>
 if x9 < (p1.length:Int) then
 bC p1 x9 λe12=>
 if ((decide (e7.el=e12.el))&&(!(decide (e7.pos=e12.pos))))=true then
 aY (
 aY (
 aY (
 aY (
 some false))))
 else
 aD (I64 (x9+(1:Int))) <|
 some (.inl (x9+(1:Int)))
 else
 aY (
 some (.inl ()))) (0:Int)) λ_=>
 aD (I64 (x3+(1:Int))) <|
 some (.inl (x3+(1:Int)))
 else
 aY (
 some (.inl ()))) (0:Int)) λ_=>
 some true
def rC (p0:Am):Option Int:=
 aC (
 if (48:Int) < (p0.Ac.length:Int) then
 some true
 else
 if (32:Int) < (p0.Ae.length:Int) then
 some true
 else
 aC (fH p0.Aa (25:Int)) λr5=>
 if (!(r5))=true then
 some true
 else
 aC (fH p0.Al (21:Int)) λr7=>
 some (!(r7))) λx1=>
 if x1=true then
 some (2:Int)
 else
 aC (lE p0) λr9=>
 if (!(r9))=true then
 some (1:Int)
 else
 eE (
 aW (λx13=>
 if x13 < (p0.Ac.length:Int) then
 bC p0.Ac x13 λe16=>
 aC (kS p0 e16) λr17=>
 if (!(r17))=true then
 aY (
 aY (
 some (1:Int)))
 else
 aD (I64 (x13+(1:Int))) <|
 some (.inl (x13+(1:Int)))
 else
 aY (
 some (.inl ()))) (0:Int)) λ_=>
 eE (
 aW (λx25=>
 if x25 < (p0.Ac.length:Int) then
 bC p0.Ac x25 λe28=>
 aC (
 aC (eW p0 e28.Ae) λr31=>
 if (!(r31))=true then
 some true
 else
 aC (eW p0 e28.Ar) λr33=>
 if (!(r33))=true then
 some true
 else
 aC (eW p0 e28.Az) λr35=>
 some (!(r35))) λx29=>
 if x29=true then
 aY (
 aY (
 some (1:Int)))
 else
 aD (I64 (x25+(1:Int))) <|
 some (.inl (x25+(1:Int)))
 else
 aY (
 some (.inl ()))) (0:Int)) λ_=>
 eE (
 aW (λx43=>
 if x43 < (p0.Ac.length:Int) then
 bC p0.Ac x43 λe46=>
 aC (
 aC (iA e46.Ae e46.Ar) λr49=>
 if (!(r49))=true then
 some true
 else
 aC (iA e46.Ae e46.Az) λr51=>
 if (!(r51))=true then
 some true
 else
 aC (iA e46.Ar e46.Az) λr53=>
 some (!(r53))) λx47=>
 if x47=true then
 aY (
 aY (
 some (10:Int)))
 else
 aD (I64 (x43+(1:Int))) <|
 some (.inl (x43+(1:Int)))
 else
 aY (
 some (.inl ()))) (0:Int)) λ_=>
 eE (
 aW (λ(x64,b65)=>
 if x64 < (p0.Ac.length:Int) then
 bC p0.Ac x64 λe68=>
 aD (b65.map (·.1)).Nodup <|
 if (((jJ b65 e68.name).getD false))=true then
 aY (
 aY (
 some (8:Int)))
 else
 aD (b65.map (·.1)).Nodup <|
 aD (I64 (x64+(1:Int))) <|
 some (.inl ((x64+(1:Int)),(qQC b65 e68.name true)))
 else
 aY (
 some (.inl b65))) ((0:Int),([]:List (BA×Bool)))) λm59=>
 some (0:Int)
def cB (p0:Ax) (p1:Int):Option Int:=
 bC p0.t.Ac p1 λe1=>
 aD (I64 ((e1.Aa.length:Int) - (1:Int))) <|
 some ((e1.Aa.length:Int) - (1:Int))
def mD (p0:Am):Option (Ax×Int):=
 aC (rC p0) λr1=>
 if r1=(0:Int) then
 aD (I64 ((2:Int) * p0.Aa)) <|
 aD (I64 ((2:Int) * (p0.Ae.length:Int))) <|
 aD (I64 (((2:Int) * p0.Aa)+((2:Int) * (p0.Ae.length:Int)))) <|
 aD (I64 ((4:Int) * (p0.Ac.length:Int))) <|
 aD (I64 ((((2:Int) * p0.Aa)+((2:Int) * (p0.Ae.length:Int)))+((4:Int) * (p0.Ac.length:Int)))) <|
 aD (I64 (((((2:Int) * p0.Aa)+((2:Int) * (p0.Ae.length:Int)))+((4:Int) * (p0.Ac.length:Int)))+(p0.Ae.length:Int))) <|
 aC (
 aW (λ(x16,c17,b18)=>
 if x16 < (p0.Ac.length:Int) then
 aD ((b18++([c17]:List Int)).length<=1000000000) <|
 aC (cB (⟨p0,((((2:Int) * p0.Aa)+((2:Int) * (p0.Ae.length:Int)))+((4:Int) * (p0.Ac.length:Int))),(b18++([c17]:List Int)),c17,(0:Int)⟩:Ax) x16) λr22=>
 aD (I64 ((4:Int)+r22)) <|
 aD (I64 (((4:Int)+r22)+(2:Int))) <|
 aD (I64 (c17+(((4:Int)+r22)+(2:Int)))) <|
 aD (I64 (x16+(1:Int))) <|
 some (.inl ((x16+(1:Int)),(c17+(((4:Int)+r22)+(2:Int))),(b18++([c17]:List Int))))
 else
 aY (
 some (c17,b18))) ((0:Int),(((((2:Int) * p0.Aa)+((2:Int) * (p0.Ae.length:Int)))+((4:Int) * (p0.Ac.length:Int)))+(p0.Ae.length:Int)),([]:List Int))) λ(c9,b10)=>
 aD (I64 ((5:Int) * (p0.Ac.length:Int))) <|
 aD (I64 (c9+((5:Int) * (p0.Ac.length:Int)))) <|
 if (2000:Int) < (c9+((5:Int) * (p0.Ac.length:Int))) then
 some ((⟨(⟨([]:List Aj),([]:List Int),([]:List Int),(0:Int),(0:Int)⟩:Am),(0:Int),([]:List Int),(0:Int),(0:Int)⟩:Ax),(2:Int))
 else
 some ((⟨p0,((((2:Int) * p0.Aa)+((2:Int) * (p0.Ae.length:Int)))+((4:Int) * (p0.Ac.length:Int))),b10,c9,(c9+((5:Int) * (p0.Ac.length:Int)))⟩:Ax),(0:Int))
 else
 some ((⟨(⟨([]:List Aj),([]:List Int),([]:List Int),(0:Int),(0:Int)⟩:Am),(0:Int),([]:List Int),(0:Int),(0:Int)⟩:Ax),r1)
def dM (p0:Ax) (p1:Int) (p2:Int):Option Int:=
 bC p0.A1 p1 λe1=>
 aD (I64 (e1+p2)) <|
 some (e1+p2)
def fR (p0:Ax) (p1:Int):Option Int:=
 aC (cB p0 p1) λr1=>
 aD (I64 ((4:Int)+r1)) <|
 aC (dM p0 p1 ((4:Int)+r1)) λr3=>
 some r3
def dD (p0:Int):Option Ad:=
 some (⟨(3:Int),p0,([]:List Ad)⟩:Ad)
def jB (p0:Ax) (p1:Int) (p2:Int):Option Int:=
 aD (I64 ((2:Int) * p0.t.Aa)) <|
 aD (I64 ((2:Int) * (p0.t.Ae.length:Int))) <|
 aD (I64 (((2:Int) * p0.t.Aa)+((2:Int) * (p0.t.Ae.length:Int)))) <|
 aD (I64 ((4:Int) * p1)) <|
 aD (I64 ((((2:Int) * p0.t.Aa)+((2:Int) * (p0.t.Ae.length:Int)))+((4:Int) * p1))) <|
 aD (I64 (((((2:Int) * p0.t.Aa)+((2:Int) * (p0.t.Ae.length:Int)))+((4:Int) * p1))+p2)) <|
 some (((((2:Int) * p0.t.Aa)+((2:Int) * (p0.t.Ae.length:Int)))+((4:Int) * p1))+p2)
def fO (p0:Ax) (p1:Int) (p2:Int):Option Int:=
 aD (I64 ((2:Int) * p1)) <|
 aD (I64 (((2:Int) * p1)+p2)) <|
 some (((2:Int) * p1)+p2)
def eS (p0:(List Ad)):Option Ad:=
 some (⟨(6:Int),(0:Int),p0⟩:Ad)
def dL (p0:(List Ad)):Option Ad:=
 some (⟨(5:Int),(0:Int),p0⟩:Ad)
def gA (p0:Ax) (p1:Int):Option Int:=
 aC (fR p0 p1) λr1=>
 aD (I64 (r1+(1:Int))) <|
 some (r1+(1:Int))
def dV (p0:Ad):Option Ad:=
 some (⟨(4:Int),(0:Int),([p0]:List Ad)⟩:Ad)
def bI (p0:Ax) (p1:Int) (p2:Int):Option Int:=
 aD (I64 ((5:Int) * p1)) <|
 aD (I64 (p0.extra+((5:Int) * p1))) <|
 aD (I64 ((p0.extra+((5:Int) * p1))+p2)) <|
 some ((p0.extra+((5:Int) * p1))+p2)
def kY (p0:List (List Ag)):Option (List Ag):=
 aD (p0.length<=1000/\p0.flatten.length<=1000000000) <|
 some p0.flatten
def oF (p0:Int):Option Bool:=
 some (!(decide (p0=p0)))
def lC (p0:Int) (p1:Int):Option Int:=
 aC (oF p0) λr1=>
 aC (oF p1) λr2=>
 if r1=true then
 if r2=true then
 some (0:Int)
 else
 some (-1:Int)
 else
 if r2=true then
 some (1:Int)
 else
 if p0 < p1 then
 some (-1:Int)
 else
 if p1 < p0 then
 some (1:Int)
 else
 some (0:Int)
def tV (p0:(List Int)):Option Int:=
 eE (
 aW (λx3=>
 if x3 < (p0.length:Int) then
 bC p0 x3 λe6=>
 if e6=(0:Int) then
 aD (I64 (x3+(1:Int))) <|
 some (.inl (x3+(1:Int)))
 else
 aY (
 aY (
 some e6))
 else
 aY (
 some (.inl ()))) (0:Int)) λ_=>
 some (0:Int)
def eK (p0:Ag) (p1:Ag):Option Int:=
 aC (lC p0.el p1.el) λr1=>
 aC (lC p0.pos p1.pos) λr2=>
 aC (tV ([r1,r2]:List Int)) λr3=>
 some r3
def gC (p0:Aj):Option ((List Ag)):=
 aC (kY ([p0.Ae,p0.Ar,p0.Az]:List (List Ag))) λr1=>
 aD (r1.length<=1000000000) <|
 aC (
 aW (λ(x8,b9)=>
 if x8 < ((uK eK r1).length:Int) then
 bC (uK eK r1) x8 λe12=>
 aC (
 if x8=(0:Int) then
 some true
 else
 aD (I64 (x8 - (1:Int))) <|
 bC (uK eK r1) (x8 - (1:Int)) λe17=>
 aD (Ag.ok e12/\Ag.ok e17) <|
 some (!(decide (e12=e17)))) λx13=>
 if x13=true then
 aD ((b9++([e12]:List Ag)).length<=1000000000) <|
 aD (I64 (x8+(1:Int))) <|
 some (.inl ((x8+(1:Int)),(b9++([e12]:List Ag))))
 else
 aD (I64 (x8+(1:Int))) <|
 some (.inl ((x8+(1:Int)),b9))
 else
 aY (
 some b9)) ((0:Int),([]:List Ag))) λb3=>
 some b3
def jP (p0:Ax) (p1:Int) (p2:Int):Option Int:=
 aD (I64 ((2:Int) * p0.t.Aa)) <|
 aD (I64 ((2:Int) * p1)) <|
 aD (I64 (((2:Int) * p0.t.Aa)+((2:Int) * p1))) <|
 aD (I64 ((((2:Int) * p0.t.Aa)+((2:Int) * p1))+p2)) <|
 some ((((2:Int) * p0.t.Aa)+((2:Int) * p1))+p2)
def gO (p0:Aj) (p1:Aj):Option Bool:=
 some ((decide ((0:Int)<=p0.exit))&&(decide (p1.entry=p0.exit)))
def fI (p0:(List Int)) (p1:Int):Option Bool:=
 aC (eD p0 p1) λr1=>
 some (decide ((0:Int)<=r1))
def jT (p0:(List Ag)) (p1:Ag):Option Int:=
 eE (
 aW (λx3=>
 if x3 < (p0.length:Int) then
 bC p0 x3 λe6=>
 aD (Ag.ok p1/\Ag.ok e6) <|
 if p1=e6 then
 aY (
 aY (
 some x3))
 else
 aD (I64 (x3+(1:Int))) <|
 some (.inl (x3+(1:Int)))
 else
 aY (
 some (.inl ()))) (0:Int)) λ_=>
 some (-1:Int)
def dF (p0:(List Ag)) (p1:Ag):Option Bool:=
 aC (jT p0 p1) λr1=>
 some (decide ((0:Int)<=r1))
def fX (p0:Ax) (p1:Int):Option Int:=
 aD (I64 (p0.inputs+p1)) <|
 some (p0.inputs+p1)
def nL (n:Nat):BA:=⟨(Go.Lib.decDigits n).toArray⟩
def lF (p0:Int):Option BA:=aD (0<=p0/\p0 < 100) <| some (nL p0.toNat)
def cK (p0:Int) (p1:(List BA)) (p2:(List BA)):Option ((List BA)):=
 aW (λ(x4,b5)=>
 if x4 < (p1.length:Int) then
 bC p1 x4 λe8=>
 aD (e8.size+(⟨#[46]⟩:BA).size<=9223372036854775807) <|
 aC (lF p0) λr10=>
 aD ((e8++(⟨#[46]⟩:BA)).size+r10.size<=9223372036854775807) <|
 aD ((b5++([((e8++(⟨#[46]⟩:BA))++r10)]:List BA)).length<=1000000000) <|
 aD (I64 (x4+(1:Int))) <|
 some (.inl ((x4+(1:Int)),(b5++([((e8++(⟨#[46]⟩:BA))++r10)]:List BA))))
 else
 aY (
 some b5)) ((0:Int),p2)
def iJ (p0:Ax):Option ((List BA)):=
 aC (
 aW (λ(x6,b7)=>
 if x6 < p0.t.Aa then
 aC (cK x6 ([(⟨#[102,114,101,101]⟩:BA),(⟨#[111,112,101,110]⟩:BA)]:List BA) b7) λr10=>
 aD (I64 (x6+(1:Int))) <|
 some (.inl ((x6+(1:Int)),r10))
 else
 aY (
 some b7)) ((0:Int),([]:List BA))) λb1=>
 aC (
 aW (λ(x18,b19)=>
 if x18 < (p0.t.Ae.length:Int) then
 aC (cK x18 ([(⟨#[110,111,114,109,97,108]⟩:BA),(⟨#[114,101,118,101,114,115,101]⟩:BA)]:List BA) b19) λr22=>
 aD (I64 (x18+(1:Int))) <|
 some (.inl ((x18+(1:Int)),r22))
 else
 aY (
 some b19)) ((0:Int),b1)) λb13=>
 aC (
 aW (λ(x30,b31)=>
 if x30 < (p0.t.Ac.length:Int) then
 aC (cK x30 ([(⟨#[117,110,99,108,97,105,109,101,100]⟩:BA),(⟨#[112,97,115,115,101,100]⟩:BA),(⟨#[99,97,108,108]⟩:BA),(⟨#[99,97,110,99,101,108]⟩:BA)]:List BA) b31) λr34=>
 aD (I64 (x30+(1:Int))) <|
 some (.inl ((x30+(1:Int)),r34))
 else
 aY (
 some b31)) ((0:Int),b13)) λb25=>
 aC (
 aW (λ(x42,b43)=>
 if x42 < (p0.t.Ae.length:Int) then
 aC (cK x42 ([(⟨#[108,105,101]⟩:BA)]:List BA) b43) λr46=>
 aD (I64 (x42+(1:Int))) <|
 some (.inl ((x42+(1:Int)),r46))
 else
 aY (
 some b43)) ((0:Int),b25)) λb37=>
 aC (
 aW (λ(x54,b55)=>
 if x54 < (p0.t.Ac.length:Int) then
 aC (
 aC (cK x54 ([(⟨#[115,101,116]⟩:BA),(⟨#[99,108,101,97,114]⟩:BA),(⟨#[117,115,101,100]⟩:BA),(⟨#[104,101,108,100]⟩:BA)]:List BA) b55) λr60=>
 aC (
 aC (cB p0 x54) λr63=>
 aW (λ(x67,b68)=>
 if x67 < r63 then
 aC (lF x54) λr71=>
 aD ((⟨#[114,101,108,46]⟩:BA).size+r71.size<=9223372036854775807) <|
 aC (cK x67 ([((⟨#[114,101,108,46]⟩:BA)++r71)]:List BA) b68) λr73=>
 aD (I64 (x67+(1:Int))) <|
 some (.inl ((x67+(1:Int)),r73))
 else
 aY (
 some b68)) ((0:Int),r60)) λb61=>
 aC (cK x54 ([(⟨#[119,97,105,116]⟩:BA),(⟨#[115,116,97,110,100]⟩:BA)]:List BA) b61) λr76=>
 some r76) λb58=>
 aD (I64 (x54+(1:Int))) <|
 some (.inl ((x54+(1:Int)),b58))
 else
 aY (
 some b55)) ((0:Int),b37)) λb49=>
 aC (
 aW (λ(x84,b85)=>
 if x84 < (p0.t.Ac.length:Int) then
 aC (cK x84 ([(⟨#[107,101,101,112]⟩:BA),(⟨#[117,115,101]⟩:BA),(⟨#[104,111,108,100]⟩:BA),(⟨#[97,99,116]⟩:BA),(⟨#[99,97,108,108,101,100]⟩:BA)]:List BA) b85) λr88=>
 aD (I64 (x84+(1:Int))) <|
 some (.inl ((x84+(1:Int)),r88))
 else
 aY (
 some b85)) ((0:Int),b49)) λb79=>
 some b79
def cC (p0:Au) (p1:Int) (p2:Int):Option Ad:=
 aC (dM p0.Ab p1 p2) λr1=>
 aC (dD r1) λr2=>
 some r2
def cH (p0:Au) (p1:Int) (p2:Int):Option Ad:=
 aC (jB p0.Ab p1 p2) λr1=>
 aC (dD r1) λr2=>
 some r2
def dP (p0:Au) (p1:Int) (p2:Int):Option Ad:=
 aD (I64 ((4:Int)+p2)) <|
 aC (dM p0.Ab p1 ((4:Int)+p2)) λr2=>
 aC (dD r2) λr3=>
 some r3
def cO (p0:Au) (p1:Int):Option Ad:=
 aC (fO p0.Ab p1 (0:Int)) λr1=>
 aC (dD r1) λr2=>
 some r2
def fK (p0:Au) (p1:Int):Option Ad:=
 aC (
 bC p0.Ab.t.Ac p1 λe3=>
 aW (λ(x7,b8)=>
 if x7 < (e3.Aa.length:Int) then
 bC e3.Aa x7 λe11=>
 aC (cB p0.Ab p1) λr12=>
 if x7 < r12 then
 aC (dP p0 p1 x7) λr14=>
 aC (cO p0 e11) λr15=>
 aC (eS ([r14,r15]:List Ad)) λr16=>
 aD ((b8++([r16]:List Ad)).length<=1000000000) <|
 aD (I64 (x7+(1:Int))) <|
 some (.inl ((x7+(1:Int)),(b8++([r16]:List Ad))))
 else
 aC (cO p0 e11) λr19=>
 aD ((b8++([r19]:List Ad)).length<=1000000000) <|
 aD (I64 (x7+(1:Int))) <|
 some (.inl ((x7+(1:Int)),(b8++([r19]:List Ad))))
 else
 aY (
 some b8)) ((0:Int),([]:List Ad))) λb1=>
 aC (dL b1) λr23=>
 some r23
def gQ (p0:Au) (p1:Int):Option Ad:=
 aC (cB p0.Ab p1) λr1=>
 if r1=(0:Int) then
 aC (dL []) λr3=>
 some r3
 else
 aC (cB p0.Ab p1) λr4=>
 aD (I64 (r4 - (1:Int))) <|
 aC (dP p0 p1 (r4 - (1:Int))) λr6=>
 some r6
def iT (p0:Au) (p1:Int):Option Au:=
 bC p0.Ab.t.Ac p1 λe1=>
 aC (fR p0.Ab p1) λr2=>
 aC (cC p0 p1 (3:Int)) λr3=>
 aC (cH p0 p1 (0:Int)) λr4=>
 aC (fK p0 p1) λr5=>
 aC (dL ([r3,r4,r5]:List Ad)) λr6=>
 aC (gA p0.Ab p1) λr7=>
 aC (cC p0 p1 (2:Int)) λr8=>
 aC (cH p0 p1 (0:Int)) λr9=>
 aC (gQ p0 p1) λr10=>
 aC (cB p0.Ab p1) λr11=>
 bC e1.Aa r11 λe12=>
 aC (cO p0 e12) λr13=>
 aC (dV r13) λr14=>
 aC (dL ([r8,r9,r10,r14]:List Ad)) λr15=>
 aD ((p0.An++([(⟨(2:Int),r2,(12:Int),r6⟩:At),(⟨(2:Int),r7,(4:Int),r15⟩:At)]:List At)).length<=1000000000) <|
 some (⟨p0.Ab,(p0.An++([(⟨(2:Int),r2,(12:Int),r6⟩:At),(⟨(2:Int),r7,(4:Int),r15⟩:At)]:List At))⟩:Au)
def fS (p0:Au) (p1:Int):Option Ad:=
 bC p0.Ab.t.Ac p1 λe1=>
 aC (
 aC (iO ([e1.Aa,e1.Ah]:List (List Int))) λr4=>
 aW (λ(x8,b9)=>
 if x8 < (r4.length:Int) then
 bC r4 x8 λe12=>
 aC (cO p0 e12) λr13=>
 aD ((b9++([r13]:List Ad)).length<=1000000000) <|
 aD (I64 (x8+(1:Int))) <|
 some (.inl ((x8+(1:Int)),(b9++([r13]:List Ad))))
 else
 aY (
 some b9)) ((0:Int),([]:List Ad))) λb2=>
 aC (
 aC (gC e1) λr19=>
 aW (λ(x23,b24)=>
 if x23 < (r19.length:Int) then
 bC r19 x23 λe27=>
 aC (
 if e27.pos=(2:Int) then
 some (1:Int)
 else
 some (0:Int)) λkind28=>
 aC (iD p0.Ab.t e27.el) λr31=>
 aC (jP p0.Ab r31 kind28) λr32=>
 aC (dD r32) λr33=>
 aD ((b24++([r33]:List Ad)).length<=1000000000) <|
 aD (I64 (x23+(1:Int))) <|
 some (.inl ((x23+(1:Int)),(b24++([r33]:List Ad))))
 else
 aY (
 some b24)) ((0:Int),b2)) λb17=>
 aC (dL b17) λr37=>
 some r37
def dG (p0:Au) (p1:Int) (p2:Ad):Option Au:=
 aD ((p0.An++([(⟨(1:Int),p1,(0:Int),p2⟩:At)]:List At)).length<=1000000000) <|
 some (⟨p0.Ab,(p0.An++([(⟨(1:Int),p1,(0:Int),p2⟩:At)]:List At))⟩:Au)
def gB (p0:Au) (p1:Int):Option Ad:=
 aC (
 bC p0.Ab.t.Ac p1 λe3=>
 aW (λ(x7,b8)=>
 if x7 < (e3.Aa.length:Int) then
 bC e3.Aa x7 λe11=>
 aC (cO p0 e11) λr12=>
 aC (
 if (0:Int) < x7 then
 aD (I64 (x7 - (1:Int))) <|
 aC (dP p0 p1 (x7 - (1:Int))) λr17=>
 aD ((([r12]:List Ad)++([r17]:List Ad)).length<=1000000000) <|
 some (([r12]:List Ad)++([r17]:List Ad))
 else
 some ([r12]:List Ad)) λb13=>
 aC (
 aC (cB p0.Ab p1) λr21=>
 if x7 < r21 then
 aC (dP p0 p1 x7) λr23=>
 aC (dV r23) λr24=>
 aD ((b13++([r24]:List Ad)).length<=1000000000) <|
 some (b13++([r24]:List Ad))
 else
 some b13) λb19=>
 aC (dL b19) λr26=>
 aD ((b8++([r26]:List Ad)).length<=1000000000) <|
 aD (I64 (x7+(1:Int))) <|
 some (.inl ((x7+(1:Int)),(b8++([r26]:List Ad))))
 else
 aY (
 some b8)) ((0:Int),([]:List Ad))) λb1=>
 aC (eS b1) λr30=>
 some r30
def gP (p0:Au) (p1:Int):Option Ad:=
 aC (cC p0 p1 (0:Int)) λr1=>
 aC (cC p0 p1 (1:Int)) λr2=>
 aC (eS ([r1,r2]:List Ad)) λr3=>
 aC (cH p0 p1 (3:Int)) λr4=>
 aC (dV r4) λr5=>
 aC (fS p0 p1) λr6=>
 aC (dL ([r3,r5,r6]:List Ad)) λr7=>
 some r7
def iB (p0:Au) (p1:Int):Option Au:=
 bC p0.Ab.t.Ac p1 λe1=>
 bC e1.Aa (0:Int) λe2=>
 aC (cB p0.Ab p1) λr3=>
 bC e1.Aa r3 λe4=>
 aC (bI p0.Ab p1 (0:Int)) λr5=>
 aC (cC p0 p1 (0:Int)) λr6=>
 aC (cH p0 p1 (3:Int)) λr7=>
 aC (dV r7) λr8=>
 aC (fS p0 p1) λr9=>
 aC (dV r9) λr10=>
 aC (dL ([r6,r8,r10]:List Ad)) λr11=>
 aC (dG p0 r5 r11) λr12=>
 aC (bI p0.Ab p1 (1:Int)) λr13=>
 aC (cC (⟨p0.Ab,r12.An⟩:Au) p1 (1:Int)) λr14=>
 aC (cO (⟨p0.Ab,r12.An⟩:Au) e2) λr15=>
 aC (dV r15) λr16=>
 aC (dL ([r14,r16]:List Ad)) λr17=>
 aC (cC (⟨p0.Ab,r12.An⟩:Au) p1 (2:Int)) λr18=>
 aC (cH (⟨p0.Ab,r12.An⟩:Au) p1 (0:Int)) λr19=>
 aC (dV r19) λr20=>
 aC (cH (⟨p0.Ab,r12.An⟩:Au) p1 (3:Int)) λr21=>
 aC (fK (⟨p0.Ab,r12.An⟩:Au) p1) λr22=>
 aC (dL ([r21,r22]:List Ad)) λr23=>
 aC (dV r23) λr24=>
 aC (gQ (⟨p0.Ab,r12.An⟩:Au) p1) λr25=>
 aC (cO (⟨p0.Ab,r12.An⟩:Au) e4) λr26=>
 aC (dL ([r25,r26]:List Ad)) λr27=>
 aC (dV r27) λr28=>
 aC (gA p0.Ab p1) λr29=>
 aC (dD r29) λr30=>
 aC (dV r30) λr31=>
 aC (dL ([r24,r28,r31]:List Ad)) λr32=>
 aC (eS ([r20,r32]:List Ad)) λr33=>
 aC (dL ([r18,r33]:List Ad)) λr34=>
 aC (cC (⟨p0.Ab,r12.An⟩:Au) p1 (3:Int)) λr35=>
 aC (gB (⟨p0.Ab,r12.An⟩:Au) p1) λr36=>
 aC (dV r36) λr37=>
 aC (dL ([r35,r37]:List Ad)) λr38=>
 aC (eS ([r17,r34,r38]:List Ad)) λr39=>
 aC (dG (⟨p0.Ab,r12.An⟩:Au) r13 r39) λr40=>
 aC (bI p0.Ab p1 (2:Int)) λr41=>
 aC (cC (⟨p0.Ab,r40.An⟩:Au) p1 (1:Int)) λr42=>
 aC (cO (⟨p0.Ab,r40.An⟩:Au) e2) λr43=>
 aC (cH (⟨p0.Ab,r40.An⟩:Au) p1 (3:Int)) λr44=>
 aC (cH (⟨p0.Ab,r40.An⟩:Au) p1 (0:Int)) λr45=>
 aC (cO (⟨p0.Ab,r40.An⟩:Au) e1.A4) λr46=>
 aC (dL ([r44,r45,r46]:List Ad)) λr47=>
 aC (dV r47) λr48=>
 aC (cH (⟨p0.Ab,r40.An⟩:Au) p1 (3:Int)) λr49=>
 aC (fS (⟨p0.Ab,r40.An⟩:Au) p1) λr50=>
 aC (dV r50) λr51=>
 aC (eS ([r49,r51]:List Ad)) λr52=>
 aC (dL ([r42,r43,r48,r52]:List Ad)) λr53=>
 aC (cC (⟨p0.Ab,r40.An⟩:Au) p1 (2:Int)) λr54=>
 aC (cH (⟨p0.Ab,r40.An⟩:Au) p1 (0:Int)) λr55=>
 aC (cH (⟨p0.Ab,r40.An⟩:Au) p1 (3:Int)) λr56=>
 aC (fK (⟨p0.Ab,r40.An⟩:Au) p1) λr57=>
 aC (dL ([r54,r55,r56,r57]:List Ad)) λr58=>
 aC (cC (⟨p0.Ab,r40.An⟩:Au) p1 (3:Int)) λr59=>
 aC (gB (⟨p0.Ab,r40.An⟩:Au) p1) λr60=>
 aC (fR p0.Ab p1) λr61=>
 aC (dD r61) λr62=>
 aC (dV r62) λr63=>
 aC (dL ([r59,r60,r63]:List Ad)) λr64=>
 aC (eS ([r53,r58,r64]:List Ad)) λr65=>
 aC (dG (⟨p0.Ab,r40.An⟩:Au) r41 r65) λr66=>
 aC (bI p0.Ab p1 (3:Int)) λr67=>
 aC (bI p0.Ab p1 (0:Int)) λr68=>
 aC (dD r68) λr69=>
 aC (gP (⟨p0.Ab,r66.An⟩:Au) p1) λr70=>
 aC (bI p0.Ab p1 (1:Int)) λr71=>
 aC (dD r71) λr72=>
 aC (bI p0.Ab p1 (2:Int)) λr73=>
 aC (dD r73) λr74=>
 aC (eS ([r69,r70,r72,r74]:List Ad)) λr75=>
 aC (dG (⟨p0.Ab,r66.An⟩:Au) r67 r75) λr76=>
 some (⟨p0.Ab,r76.An⟩:Au)
def jE (p0:Au) (p1:Int):Option Au:=
 bC p0.Ab.t.Ac p1 λe1=>
 aC (
 aC (cB p0.Ab p1) λr4=>
 aD (I64 (r4 - (1:Int))) <|
 aW (λ(k9,b10)=>
 if (0:Int)<=k9 then
 aC (cC (⟨p0.Ab,b10⟩:Au) p1 (2:Int)) λr13=>
 aC (bI p0.Ab p1 (1:Int)) λr14=>
 aC (dD r14) λr15=>
 aC (cH (⟨p0.Ab,b10⟩:Au) p1 (0:Int)) λr16=>
 bC e1.Aa k9 λe17=>
 aC (cO (⟨p0.Ab,b10⟩:Au) e17) λr18=>
 aD (I64 (k9+(1:Int))) <|
 bC e1.Aa (k9+(1:Int)) λe20=>
 aC (cO (⟨p0.Ab,b10⟩:Au) e20) λr21=>
 aC (dV r21) λr22=>
 aC (cH (⟨p0.Ab,b10⟩:Au) p1 (1:Int)) λr23=>
 aC (eS ([r22,r23]:List Ad)) λr24=>
 aC (
 if (0:Int) < k9 then
 aD (I64 (k9 - (1:Int))) <|
 aC (dP (⟨p0.Ab,b10⟩:Au) p1 (k9 - (1:Int))) λr29=>
 aD ((([r13,r15,r16,r18,r24]:List Ad)++([r29]:List Ad)).length<=1000000000) <|
 some (([r13,r15,r16,r18,r24]:List Ad)++([r29]:List Ad))
 else
 some ([r13,r15,r16,r18,r24]:List Ad)) λb25=>
 aD (I64 ((4:Int)+k9)) <|
 aC (dM p0.Ab p1 ((4:Int)+k9)) λr32=>
 aC (bI p0.Ab p1 (1:Int)) λr33=>
 aC (dD r33) λr34=>
 aC (bI p0.Ab p1 (2:Int)) λr35=>
 aC (dD r35) λr36=>
 aC (eS ([r34,r36]:List Ad)) λr37=>
 aC (dP (⟨p0.Ab,b10⟩:Au) p1 k9) λr38=>
 aC (dL b25) λr39=>
 aC (eS ([r38,r39]:List Ad)) λr40=>
 aC (dL ([r37,r40]:List Ad)) λr41=>
 aC (dG (⟨p0.Ab,b10⟩:Au) r32 r41) λr42=>
 aD (I64 (k9 - (1:Int))) <|
 some (.inl ((k9 - (1:Int)),r42.An))
 else
 aY (
 some b10)) ((r4 - (1:Int)),p0.An)) λb2=>
 aC (dM p0.Ab p1 (1:Int)) λr45=>
 aC (gP (⟨p0.Ab,b2⟩:Au) p1) λr46=>
 aC (dG (⟨p0.Ab,b2⟩:Au) r45 r46) λr47=>
 aC (dM p0.Ab p1 (2:Int)) λr48=>
 aC (bI p0.Ab p1 (1:Int)) λr49=>
 aC (dD r49) λr50=>
 aC (dG (⟨p0.Ab,r47.An⟩:Au) r48 r50) λr51=>
 aC (dM p0.Ab p1 (3:Int)) λr52=>
 aC (bI p0.Ab p1 (2:Int)) λr53=>
 aC (dD r53) λr54=>
 aC (dG (⟨p0.Ab,r51.An⟩:Au) r52 r54) λr55=>
 some (⟨p0.Ab,r55.An⟩:Au)
def cQ (p0:Int) (p1:Au) (p2:Int) (p3:Bool) (p4:(List Int)):Option (Bool×(List Int)):=
 aC (
 if p0 < (0:Int) then
 some true
 else
 aC (cB p1.Ab p2) λr4=>
 some (decide (p0=r4))) λx1=>
 if x1=true then
 some (true,p4)
 else
 aC (fI p4 p0) λr6=>
 if (!(r6))=true then
 aD ((p4++([p0]:List Int)).length<=1000000000) <|
 some (p3,(p4++([p0]:List Int)))
 else
 some (p3,p4)
def iU (p0:Au) (p1:Int) (p2:Int):Option (Bool×(List Int)):=
 bC p0.Ab.t.Ac p1 λe1=>
 bC p0.Ab.t.Ac p2 λe2=>
 aC (gO e2 e1) λr3=>
 aC (gO e1 e2) λr4=>
 aC (
 aW (λ(x12,c13,b14)=>
 if x12 < (e1.Aa.length:Int) then
 bC e1.Aa x12 λe17=>
 aC (
 aC (eD e2.Aa e17) λr21=>
 if (0:Int)<=r21 then
 aC (cQ r21 p0 p2 c13 b14) λ(r24,r25)=>
 some (r24,r25)
 else
 some (c13,b14)) λ(c18,b19)=>
 if c18=true then
 aD (I64 (x12+(1:Int))) <|
 some (.inl ((x12+(1:Int)),true,b19))
 else
 aC (fI e2.Ah e17) λr27=>
 if r27=true then
 aD (I64 (x12+(1:Int))) <|
 some (.inl ((x12+(1:Int)),!(r3),b19))
 else
 aD (I64 (x12+(1:Int))) <|
 some (.inl ((x12+(1:Int)),false,b19))
 else
 aY (
 some (c13,b14))) ((0:Int),false,([]:List Int))) λ(c5,b6)=>
 aC (
 aW (λ(x40,c41,b42)=>
 if x40 < (e1.Ah.length:Int) then
 bC e1.Ah x40 λe45=>
 aC (
 aC (eD e2.Aa e45) λr49=>
 if ((decide ((0:Int)<=r49))&&(!(r4)))=true then
 aC (cQ r49 p0 p2 c41 b42) λ(r53,r54)=>
 some (r53,r54)
 else
 some (c41,b42)) λ(c46,b47)=>
 if c46=true then
 aD (I64 (x40+(1:Int))) <|
 some (.inl ((x40+(1:Int)),true,b47))
 else
 aC (fI e2.Ah e45) λr56=>
 if r56=true then
 if (!(r3))=true then
 aD (I64 (x40+(1:Int))) <|
 some (.inl ((x40+(1:Int)),!(r4),b47))
 else
 aD (I64 (x40+(1:Int))) <|
 some (.inl ((x40+(1:Int)),false,b47))
 else
 aD (I64 (x40+(1:Int))) <|
 some (.inl ((x40+(1:Int)),false,b47))
 else
 aY (
 some (c41,b42))) ((0:Int),c5,b6)) λ(c33,b34)=>
 aC (
 aC (gC e1) λr67=>
 aW (λ(x72,c73,b74)=>
 if x72 < (r67.length:Int) then
 bC r67 x72 λe77=>
 aD (I64 ((3:Int) - e77.pos)) <|
 aC (
 aC (dF e2.Ar (⟨e77.el,((3:Int) - e77.pos)⟩:Ag)) λr81=>
 if r81=true then
 some true
 else
 aC (dF e2.Az (⟨e77.el,((3:Int) - e77.pos)⟩:Ag)) λr83=>
 some r83) λx79=>
 if x79=true then
 aD (I64 (x72+(1:Int))) <|
 some (.inl ((x72+(1:Int)),true,b74))
 else
 aC (dF e2.Ae (⟨e77.el,((3:Int) - e77.pos)⟩:Ag)) λr86=>
 if r86=true then
 aC (iD p0.Ab.t e77.el) λr88=>
 bC p0.Ab.t.As r88 λe89=>
 aC (eD e2.Aa e89) λr90=>
 aC (cQ r90 p0 p2 c73 b74) λ(r92,r93)=>
 aD (I64 (x72+(1:Int))) <|
 some (.inl ((x72+(1:Int)),r92,r93))
 else
 aD (I64 (x72+(1:Int))) <|
 some (.inl ((x72+(1:Int)),c73,b74))
 else
 aY (
 some (c73,b74))) ((0:Int),c33,b34)) λ(c64,b65)=>
 some (c64,b65)
def jF (p0:Au) (p1:Int) (p2:Int):Option ((List Ad)):=
 aC (iU p0 p1 p2) λ(r2,r3)=>
 aC (bI p0.Ab p2 (3:Int)) λr4=>
 aC (dD r4) λr5=>
 aC (
 if p2 < p1 then
 aC (bI p0.Ab p2 (4:Int)) λr11=>
 aC (dD r11) λr12=>
 aC (eS ([r5,r12]:List Ad)) λr13=>
 some (r13.op,r13.var,r13.args)
 else
 some (r5.op,r5.var,r5.args)) λ(c6,c7,c8)=>
 if r2=true then
 aC (dV (⟨c6,c7,c8⟩:Ad)) λr15=>
 some ([r15]:List Ad)
 else
 if (r3.length:Int)=(0:Int) then
 some ([]:List Ad)
 else
 aC (dV (⟨c6,c7,c8⟩:Ad)) λr17=>
 aC (
 aW (λ(x23,b24)=>
 if x23 < (r3.length:Int) then
 bC r3 x23 λe27=>
 aC (dP p0 p2 e27) λr28=>
 aD ((b24++([r28]:List Ad)).length<=1000000000) <|
 aD (I64 (x23+(1:Int))) <|
 some (.inl ((x23+(1:Int)),(b24++([r28]:List Ad))))
 else
 aY (
 some b24)) ((0:Int),([]:List Ad))) λb18=>
 aC (dL b18) λr32=>
 aD ((([r17]:List Ad)++([r32]:List Ad)).length<=1000000000) <|
 aC (eS (([r17]:List Ad)++([r32]:List Ad))) λr34=>
 some ([r34]:List Ad)
def iV (p0:Au) (p1:Int):Option Ad:=
 bC p0.Ab.t.Ac p1 λe1=>
 aC (cH p0 p1 (2:Int)) λr2=>
 aC (bI p0.Ab p1 (3:Int)) λr3=>
 aC (dD r3) λr4=>
 aC (dV r4) λr5=>
 aC (
 aC (iO ([e1.Aa,e1.Ah]:List (List Int))) λr8=>
 aW (λ(x12,b13)=>
 if x12 < (r8.length:Int) then
 bC r8 x12 λe16=>
 aC (fO p0.Ab e16 (1:Int)) λr17=>
 aC (dD r17) λr18=>
 aD ((b13++([r18]:List Ad)).length<=1000000000) <|
 aD (I64 (x12+(1:Int))) <|
 some (.inl ((x12+(1:Int)),(b13++([r18]:List Ad))))
 else
 aY (
 some b13)) ((0:Int),([r2,r5]:List Ad))) λb6=>
 aC (
 aW (λ(x27,b28)=>
 if x27 < (p0.Ab.t.Ac.length:Int) then
 if x27=p1 then
 aD (I64 (x27+(1:Int))) <|
 some (.inl ((x27+(1:Int)),b28))
 else
 aC (jF p0 p1 x27) λr32=>
 aD ((b28++r32).length<=1000000000) <|
 aD (I64 (x27+(1:Int))) <|
 some (.inl ((x27+(1:Int)),(b28++r32)))
 else
 aY (
 some b28)) ((0:Int),b6)) λb22=>
 aC (
 aC (gC e1) λr39=>
 aW (λ(x43,b44)=>
 if x43 < (r39.length:Int) then
 bC r39 x43 λe47=>
 aC (iD p0.Ab.t e47.el) λr48=>
 aC (fX p0.Ab r48) λr49=>
 aC (dD r49) λr50=>
 aC (
 if e47.pos=(1:Int) then
 aC (dV r50) λr56=>
 some (r56.op,r56.var,r56.args)
 else
 some (r50.op,r50.var,r50.args)) λ(c51,c52,c53)=>
 bC p0.Ab.t.As r48 λe57=>
 aC (cO p0 e57) λr58=>
 aC (eS ([(⟨c51,c52,c53⟩:Ad),r58]:List Ad)) λr59=>
 aD ((b44++([r59]:List Ad)).length<=1000000000) <|
 aD (I64 (x43+(1:Int))) <|
 some (.inl ((x43+(1:Int)),(b44++([r59]:List Ad))))
 else
 aY (
 some b44)) ((0:Int),b22)) λb37=>
 aC (dL b37) λr63=>
 some r63
def jW (p0:Au) (p1:Int):Option Ad:=
 aC (
 aW (λ(x8,b9,b10)=>
 if x8 < (p0.Ab.t.Ac.length:Int) then
 aC (
 bC p0.Ab.t.Ac x8 λe16=>
 aC (gC e16) λr17=>
 aW (λ(x22,b23,b24)=>
 if x22 < (r17.length:Int) then
 bC r17 x22 λe27=>
 bC p0.Ab.t.Ae p1 λe28=>
 if e27.el=e28 then
 if e27.pos=(2:Int) then
 aC (bI p0.Ab x8 (4:Int)) λr32=>
 aC (dD r32) λr33=>
 aD ((b24++([r33]:List Ad)).length<=1000000000) <|
 aD (I64 (x22+(1:Int))) <|
 some (.inl ((x22+(1:Int)),b23,(b24++([r33]:List Ad))))
 else
 aC (bI p0.Ab x8 (4:Int)) λr36=>
 aC (dD r36) λr37=>
 aD ((b23++([r37]:List Ad)).length<=1000000000) <|
 aD (I64 (x22+(1:Int))) <|
 some (.inl ((x22+(1:Int)),(b23++([r37]:List Ad)),b24))
 else
 aD (I64 (x22+(1:Int))) <|
 some (.inl ((x22+(1:Int)),b23,b24))
 else
 aY (
 some (b23,b24))) ((0:Int),b9,b10)) λ(b13,b14)=>
 aD (I64 (x8+(1:Int))) <|
 some (.inl ((x8+(1:Int)),b13,b14))
 else
 aY (
 some (b9,b10))) ((0:Int),([]:List Ad),([]:List Ad))) λ(b1,b2)=>
 aC (eS b2) λr43=>
 aC (fX p0.Ab p1) λr44=>
 aC (dD r44) λr45=>
 aC (eS b1) λr46=>
 aC (dV r46) λr47=>
 aC (dL ([r45,r47]:List Ad)) λr48=>
 aC (eS ([r43,r48]:List Ad)) λr49=>
 some r49
def kD (p0:Am):Option (Program×Int):=
 aC (mD p0) λ(r2,r3)=>
 if r3=(0:Int) then
 aC (
 aW (λ(x10,b11)=>
 if x10 < (p0.Ac.length:Int) then
 aC (iT (⟨r2,b11⟩:Au) x10) λr14=>
 aD (I64 (x10+(1:Int))) <|
 some (.inl ((x10+(1:Int)),r14.An))
 else
 aY (
 some b11)) ((0:Int),([]:List At))) λb5=>
 aC (
 aW (λ(x22,b23)=>
 if x22 < (p0.Ac.length:Int) then
 aC (iB (⟨r2,b23⟩:Au) x22) λr26=>
 aD (I64 (x22+(1:Int))) <|
 some (.inl ((x22+(1:Int)),r26.An))
 else
 aY (
 some b23)) ((0:Int),b5)) λb17=>
 aC (
 aW (λ(x34,b35)=>
 if x34 < (p0.Ac.length:Int) then
 aC (jE (⟨r2,b35⟩:Au) x34) λr38=>
 aD (I64 (x34+(1:Int))) <|
 some (.inl ((x34+(1:Int)),r38.An))
 else
 aY (
 some b35)) ((0:Int),b17)) λb29=>
 aC (
 aW (λ(x46,b47)=>
 if x46 < (p0.Ac.length:Int) then
 aC (bI r2 x46 (4:Int)) λr50=>
 aC (iV (⟨r2,b47⟩:Au) x46) λr51=>
 aC (dG (⟨r2,b47⟩:Au) r50 r51) λr52=>
 aD (I64 (x46+(1:Int))) <|
 some (.inl ((x46+(1:Int)),r52.An))
 else
 aY (
 some b47)) ((0:Int),b29)) λb41=>
 aC (
 aW (λ(x60,b61)=>
 if x60 < (p0.Ae.length:Int) then
 aC (fX r2 x60) λr64=>
 aC (jW (⟨r2,b61⟩:Au) x60) λr65=>
 aC (dG (⟨r2,b61⟩:Au) r64 r65) λr66=>
 aD (I64 (x60+(1:Int))) <|
 some (.inl ((x60+(1:Int)),r66.An))
 else
 aY (
 some b61)) ((0:Int),b41)) λb55=>
 aC (
 aW (λ(x74,b75)=>
 if x74 < (p0.Ac.length:Int) then
 aC (dM r2 x74 (0:Int)) λr78=>
 aC (bI r2 x74 (0:Int)) λr79=>
 aC (dD r79) λr80=>
 aC (bI r2 x74 (4:Int)) λr81=>
 aC (dD r81) λr82=>
 aC (eS ([r80,r82]:List Ad)) λr83=>
 aC (dG (⟨r2,b75⟩:Au) r78 r83) λr84=>
 aD (I64 (x74+(1:Int))) <|
 some (.inl ((x74+(1:Int)),r84.An))
 else
 aY (
 some b75)) ((0:Int),b55)) λb69=>
 aC (iJ r2) λr87=>
 some ((⟨r87,r2.inputs,b69⟩:Program),(0:Int))
 else
 some ((⟨([]:List BA),(0:Int),([]:List At)⟩:Program),r3)
def nS (p0:BA) (p1:BA) (p2:(List Int)):Option BA:=
 aC (
 aW (λ(word5,x6)=>
 if x6 < (p2.length:Int) then
 bC p2 x6 λe9=>
 aC (lF e9) λr10=>
 aD (p1.size+r10.size<=9223372036854775807) <|
 aD (word5.size+(p1++r10).size<=9223372036854775807) <|
 aD (I64 (x6+(1:Int))) <|
 some (.inl ((word5++(p1++r10)),(x6+(1:Int))))
 else
 aY (
 some word5)) (p0,(0:Int))) λword1=>
 some word1
def oW (p0:(List Ad)):Option Ad:=
 some (⟨(6:Int),(0:Int),p0⟩:Ad)
def iR (p0:Ad):Option Ad:=
 some (⟨(4:Int),(0:Int),([p0]:List Ad)⟩:Ad)
def lO (p0:(List Ad)):Option Ad:=
 some (⟨(5:Int),(0:Int),p0⟩:Ad)
def bL (p0:Av) (p1:BA) (p2:(List Int)):Option Ad:=
 aC (nS p1 (⟨#[46]⟩:BA) p2) λr1=>
 aD (p0.vars.map (·.1)).Nodup <|
 some (⟨(3:Int),((jJ p0.vars r1).getD (0:Int)),([]:List Ad)⟩:Ad)
def dQ (p0:Av) (p1:Int):Option Ad:=
 aC (bL p0 (⟨#[115,101,116]⟩:BA) ([p1]:List Int)) λr1=>
 aC (bL p0 (⟨#[99,108,101,97,114]⟩:BA) ([p1]:List Int)) λr2=>
 aC (bL p0 (⟨#[117,115,101,100]⟩:BA) ([p1]:List Int)) λr3=>
 aC (bL p0 (⟨#[104,101,108,100]⟩:BA) ([p1]:List Int)) λr4=>
 aC (oW ([r1,r2,r3,r4]:List Ad)) λr5=>
 some r5
def dW (p0:Av) (p1:Int) (p2:Int):Option Ad:=
 bC p0.Ap.Ac p1 λe1=>
 aD (I64 ((e1.Aa.length:Int) - (1:Int))) <|
 if p2=((e1.Aa.length:Int) - (1:Int)) then
 aC (dQ p0 p1) λr4=>
 some r4
 else
 aC (dQ p0 p1) λr5=>
 aC (bL p0 (⟨#[114,101,108]⟩:BA) ([p1,p2]:List Int)) λr6=>
 aC (iR r6) λr7=>
 aC (lO ([r5,r7]:List Ad)) λr8=>
 some r8
def eJ (p0:Av) (p1:Ad) (p2:BA) (p3:(List Int)):Option Av:=
 aC (nS p2 (⟨#[32]⟩:BA) p3) λr1=>
 aD ((p0.list++([(⟨r1,p1⟩:Af)]:List Af)).length<=1000000000) <|
 some (⟨p0.Ap,p0.vars,(p0.list++([(⟨r1,p1⟩:Af)]:List Af))⟩:Av)
def gL (p0:Av):Option Av:=
 aW (λ(x4,b5)=>
 if x4 < (p0.Ap.Ac.length:Int) then
 aC (
 aD (I64 (x4+(1:Int))) <|
 aW (λ(b14,b15)=>
 if b14 < (p0.Ap.Ac.length:Int) then
 aC (
 bC p0.Ap.Ac x4 λe20=>
 aW (λ(x24,b25)=>
 if x24 < (e20.Aa.length:Int) then
 bC e20.Aa x24 λe28=>
 bC p0.Ap.Ac b14 λe29=>
 aC (eD e29.Aa e28) λr30=>
 if (0:Int)<=r30 then
 aC (dW (⟨p0.Ap,p0.vars,b25⟩:Av) x4 x24) λr32=>
 aC (dW (⟨p0.Ap,p0.vars,b25⟩:Av) b14 r30) λr33=>
 aC (lO ([r32,r33]:List Ad)) λr34=>
 aC (iR r34) λr35=>
 aC (eJ (⟨p0.Ap,p0.vars,b25⟩:Av) r35 (⟨#[112,97,116,104]⟩:BA) ([x4,b14,e28]:List Int)) λr36=>
 aD (I64 (x24+(1:Int))) <|
 some (.inl ((x24+(1:Int)),r36.list))
 else
 aD (I64 (x24+(1:Int))) <|
 some (.inl ((x24+(1:Int)),b25))
 else
 aY (
 some b25)) ((0:Int),b15)) λb18=>
 aD (I64 (b14+(1:Int))) <|
 some (.inl ((b14+(1:Int)),b18))
 else
 aY (
 some b15)) ((x4+(1:Int)),b5)) λb8=>
 aD (I64 (x4+(1:Int))) <|
 some (.inl ((x4+(1:Int)),b8))
 else
 aY (
 some (⟨p0.Ap,p0.vars,b5⟩:Av))) ((0:Int),p0.list)
def fN (p0:Av):Option Av:=
 aW (λ(x4,b5)=>
 if x4 < (p0.Ap.Ac.length:Int) then
 aC (
 bC p0.Ap.Ac x4 λe10=>
 aW (λ(x14,b15)=>
 if x14 < (p0.Ap.Ac.length:Int) then
 aC (
 bC p0.Ap.Ac x14 λe20=>
 aC (
 if x4=x14 then
 some true
 else
 aC (gO e10 e20) λr24=>
 some r24) λx21=>
 if x21=true then
 some b15
 else
 aW (λ(x29,b30)=>
 if x29 < (e10.Ah.length:Int) then
 bC e10.Ah x29 λe33=>
 aC (eD e20.Aa e33) λr34=>
 if (0:Int)<=r34 then
 aC (dQ (⟨p0.Ap,p0.vars,b30⟩:Av) x4) λr36=>
 aC (dW (⟨p0.Ap,p0.vars,b30⟩:Av) x14 r34) λr37=>
 aC (lO ([r36,r37]:List Ad)) λr38=>
 aC (iR r38) λr39=>
 aC (eJ (⟨p0.Ap,p0.vars,b30⟩:Av) r39 (⟨#[111,118,101,114]⟩:BA) ([x4,x14,e33]:List Int)) λr40=>
 aD (I64 (x29+(1:Int))) <|
 some (.inl ((x29+(1:Int)),r40.list))
 else
 aD (I64 (x29+(1:Int))) <|
 some (.inl ((x29+(1:Int)),b30))
 else
 aY (
 some b30)) ((0:Int),b15)) λb18=>
 aD (I64 (x14+(1:Int))) <|
 some (.inl ((x14+(1:Int)),b18))
 else
 aY (
 some b15)) ((0:Int),b5)) λb8=>
 aD (I64 (x4+(1:Int))) <|
 some (.inl ((x4+(1:Int)),b8))
 else
 aY (
 some (⟨p0.Ap,p0.vars,b5⟩:Av))) ((0:Int),p0.list)
def gM (p0:Av) (p1:Int) (p2:Ag):Option Ad:=
 bC p0.Ap.Ac p1 λe1=>
 aC (iD p0.Ap p2.el) λr2=>
 bC p0.Ap.As r2 λe3=>
 aC (eD e1.Aa e3) λr4=>
 aC (
 if r4 < (0:Int) then
 some true
 else
 aC (dF e1.Ar p2) λr8=>
 if r8=true then
 some true
 else
 aC (dF e1.Az p2) λr10=>
 some r10) λx5=>
 if x5=true then
 aC (dQ p0 p1) λr12=>
 some r12
 else
 aC (dW p0 p1 r4) λr13=>
 some r13
def hJ (p0:Av) (p1:Int):Option Av:=
 bC p0.Ap.Ac p1 λe1=>
 aC (gC e1) λr2=>
 aW (λ(x6,b7)=>
 if x6 < (r2.length:Int) then
 bC r2 x6 λe10=>
 aC (iD p0.Ap e10.el) λr11=>
 aC (bL (⟨p0.Ap,p0.vars,b7⟩:Av) (⟨#[108,105,101]⟩:BA) ([r11]:List Int)) λr12=>
 aC (
 if e10.pos=(1:Int) then
 aC (iR r12) λr18=>
 some (r18.op,r18.var,r18.args)
 else
 some (r12.op,r12.var,r12.args)) λ(c13,c14,c15)=>
 aC (gM (⟨p0.Ap,p0.vars,b7⟩:Av) p1 e10) λr19=>
 aC (iR r19) λr20=>
 aC (oW ([r20,(⟨c13,c14,c15⟩:Ad)]:List Ad)) λr21=>
 aC (eJ (⟨p0.Ap,p0.vars,b7⟩:Av) r21 (⟨#[108,105,101]⟩:BA) ([p1,r11]:List Int)) λr22=>
 aD (I64 (x6+(1:Int))) <|
 some (.inl ((x6+(1:Int)),r22.list))
 else
 aY (
 some (⟨p0.Ap,p0.vars,b7⟩:Av))) ((0:Int),p0.list)
def fZ (p0:Av) (p1:Int):Option Av:=
 bC p0.Ap.Ac p1 λe1=>
 aC (
 aC (iO ([e1.Aa,e1.Ah]:List (List Int))) λr4=>
 aW (λ(x8,b9)=>
 if x8 < (r4.length:Int) then
 bC r4 x8 λe12=>
 aC (bL p0 (⟨#[102,114,101,101]⟩:BA) ([e12]:List Int)) λr13=>
 aD ((b9++([r13]:List Ad)).length<=1000000000) <|
 aD (I64 (x8+(1:Int))) <|
 some (.inl ((x8+(1:Int)),(b9++([r13]:List Ad))))
 else
 aY (
 some b9)) ((0:Int),([]:List Ad))) λb2=>
 aC (
 aC (gC e1) λr19=>
 aW (λ(x23,b24)=>
 if x23 < (r19.length:Int) then
 bC r19 x23 λe27=>
 aC (
 if e27.pos=(2:Int) then
 some (⟨#[114,101,118,101,114,115,101]⟩:BA)
 else
 some (⟨#[110,111,114,109,97,108]⟩:BA)) λword28=>
 aC (iD p0.Ap e27.el) λr31=>
 aC (bL p0 word28 ([r31]:List Int)) λr32=>
 aD ((b24++([r32]:List Ad)).length<=1000000000) <|
 aD (I64 (x23+(1:Int))) <|
 some (.inl ((x23+(1:Int)),(b24++([r32]:List Ad))))
 else
 aY (
 some b24)) ((0:Int),b2)) λb17=>
 aC (bL p0 (⟨#[99,108,101,97,114]⟩:BA) ([p1]:List Int)) λr36=>
 aC (iR r36) λr37=>
 aC (lO b17) λr38=>
 aC (oW ([r37,r38]:List Ad)) λr39=>
 aC (eJ p0 r39 (⟨#[112,114,111,118,101,100]⟩:BA) ([p1]:List Int)) λr40=>
 some (⟨p0.Ap,p0.vars,r40.list⟩:Av)
def iI (p0:Av) (p1:Int):Option Av:=
 aC (
 aW (λ(x6,b7)=>
 if x6 < (4:Int) then
 aC (
 bC ([(⟨#[115,101,116]⟩:BA),(⟨#[99,108,101,97,114]⟩:BA),(⟨#[117,115,101,100]⟩:BA),(⟨#[104,101,108,100]⟩:BA)]:List BA) x6 λe12=>
 aD (0<=(0:Int)/\(0:Int)<=x6/\x6<=4) <|
 aW (λ(x17,b18)=>
 if x17 < ((sub ([(⟨#[115,101,116]⟩:BA),(⟨#[99,108,101,97,114]⟩:BA),(⟨#[117,115,101,100]⟩:BA),(⟨#[104,101,108,100]⟩:BA)]:List BA) (0:Int) x6).length:Int) then
 bC (sub ([(⟨#[115,101,116]⟩:BA),(⟨#[99,108,101,97,114]⟩:BA),(⟨#[117,115,101,100]⟩:BA),(⟨#[104,101,108,100]⟩:BA)]:List BA) (0:Int) x6) x17 λe21=>
 aC (bL p0 e12 ([p1]:List Int)) λr22=>
 aC (bL p0 e21 ([p1]:List Int)) λr23=>
 aC (lO ([r22,r23]:List Ad)) λr24=>
 aC (iR r24) λr25=>
 aD ((b18++([r25]:List Ad)).length<=1000000000) <|
 aD (I64 (x17+(1:Int))) <|
 some (.inl ((x17+(1:Int)),(b18++([r25]:List Ad))))
 else
 aY (
 some b18)) ((0:Int),b7)) λb10=>
 aD (I64 (x6+(1:Int))) <|
 some (.inl ((x6+(1:Int)),b10))
 else
 aY (
 some b7)) ((0:Int),([]:List Ad))) λb1=>
 aC (lO b1) λr31=>
 aC (eJ p0 r31 (⟨#[111,110,101]⟩:BA) ([p1]:List Int)) λr32=>
 some (⟨p0.Ap,p0.vars,r32.list⟩:Av)
def gZ (p0:Av) (p1:Int):Option Av:=
 aC (
 aW (λ(k6,b7)=>
 bC p0.Ap.Ac p1 λe9=>
 aD (I64 ((e9.Aa.length:Int) - (1:Int))) <|
 if k6 < ((e9.Aa.length:Int) - (1:Int)) then
 aC (bL p0 (⟨#[114,101,108]⟩:BA) ([p1,k6]:List Int)) λr12=>
 aC (iR r12) λr13=>
 aD (I64 (k6 - (1:Int))) <|
 aC (bL p0 (⟨#[114,101,108]⟩:BA) ([p1,(k6 - (1:Int))]:List Int)) λr15=>
 aC (oW ([r13,r15]:List Ad)) λr16=>
 aD ((b7++([r16]:List Ad)).length<=1000000000) <|
 aD (I64 (k6+(1:Int))) <|
 some (.inl ((k6+(1:Int)),(b7++([r16]:List Ad))))
 else
 aY (
 some b7)) ((1:Int),([]:List Ad))) λb1=>
 aC (lO b1) λr20=>
 aC (eJ p0 r20 (⟨#[114,101,108]⟩:BA) ([p1]:List Int)) λr21=>
 some (⟨p0.Ap,p0.vars,r21.list⟩:Av)
def qM (p0:Am):Option ((List Af)×Int):=
 aC (kD p0) λ(r2,r3)=>
 if r3=(0:Int) then
 aC (
 aW (λ(x10,b11)=>
 if x10 < (r2.names.length:Int) then
 bC r2.names x10 λe14=>
 aD (b11.map (·.1)).Nodup <|
 aD (I64 (x10+(1:Int))) <|
 some (.inl ((x10+(1:Int)),(qQC b11 e14 x10)))
 else
 aY (
 some b11)) ((0:Int),([]:List (BA×Int)))) λm5=>
 aC (gL (⟨p0,m5,([]:List Af)⟩:Av)) λr18=>
 aC (fN (⟨p0,m5,r18.list⟩:Av)) λr19=>
 aC (
 aW (λ(x25,b26)=>
 if x25 < (p0.Ac.length:Int) then
 aC (hJ (⟨p0,m5,b26⟩:Av) x25) λr29=>
 aD (I64 (x25+(1:Int))) <|
 some (.inl ((x25+(1:Int)),r29.list))
 else
 aY (
 some b26)) ((0:Int),r19.list)) λb20=>
 aC (
 aW (λ(x37,b38)=>
 if x37 < (p0.Ac.length:Int) then
 aC (fZ (⟨p0,m5,b38⟩:Av) x37) λr41=>
 aD (I64 (x37+(1:Int))) <|
 some (.inl ((x37+(1:Int)),r41.list))
 else
 aY (
 some b38)) ((0:Int),b20)) λb32=>
 aC (
 aW (λ(x49,b50)=>
 if x49 < (p0.Ac.length:Int) then
 aC (iI (⟨p0,m5,b50⟩:Av) x49) λr53=>
 aD (I64 (x49+(1:Int))) <|
 some (.inl ((x49+(1:Int)),r53.list))
 else
 aY (
 some b50)) ((0:Int),b32)) λb44=>
 aC (
 aW (λ(x61,b62)=>
 if x61 < (p0.Ac.length:Int) then
 aC (gZ (⟨p0,m5,b62⟩:Av) x61) λr65=>
 aD (I64 (x61+(1:Int))) <|
 some (.inl ((x61+(1:Int)),r65.list))
 else
 aY (
 some b62)) ((0:Int),b44)) λb56=>
 some (b56,(0:Int))
 else
 some (([]:List Af),r3)
def yF (p0:Int):Option Ad:=
 some (⟨(3:Int),p0,([]:List Ad)⟩:Ad)
def sJ:Nat->Ad->Int->Int->Int->Option (Bool×Int)
 | 0,_,_,_,_=>none
 | fu+1,p0,p1,p2,p3=>
 if ((decide ((12:Int) < p2))||(decide (p3=(0:Int))))=true then
 none
 else
 aD (I64 (p3 - (1:Int))) <|
 aC (
 if p0.op=(1:Int) then
 none
 else
 some ()) λ_=>
 if p0.op=(2:Int) then
 none
 else
 if p0.op=(3:Int) then
 some (((decide ((0:Int)<=p0.var))&&((decide (p0.var < p1))&&(decide ((p0.args.length:Int)=(0:Int))))),(p3 - (1:Int)))
 else
 none
def qLM (p0:Ad) (p1:Int) (p2:Int) (p3:Int):Option (Bool×Int):=sJ eR p0 p1 p2 p3
def tS (p0:Ad) (p1:Int):Option Bool:=
 aC (qLM p0 p1 (1:Int) (20000:Int)) λ(r2,r3)=>
 some r2
def vN (p0:Program) (p1:At):Option Bool:=
 eE (
 if p1.kind=(1:Int) then
 if p1.A9=(0:Int) then
 some (.inl ())
 else
 none
 else
 if p1.kind=(2:Int) then
 if ((decide (p1.A9 < (1:Int)))||(decide ((1073741824:Int) < p1.A9)))=true then
 none
 else
 some (.inl ())
 else
 none) λ_=>
 aC (
 if p0.inputs<=p1.var then
 if p1.var < (p0.names.length:Int) then
 aC (tS p1.expr (p0.names.length:Int)) λr11=>
 some r11
 else
 some false
 else
 some false) λx7=>
 some x7
def qGJ (p0:Program):Option Int:=
 if (2000:Int) < (p0.names.length:Int) then
 none
 else
 if ((decide (p0.inputs < (0:Int)))||(decide ((p0.names.length:Int) < p0.inputs)))=true then
 none
 else
 eE (
 aW (λx6=>
 if x6 < (p0.An.length:Int) then
 bC p0.An x6 λe9=>
 aC (vN p0 e9) λr10=>
 if (!(r10))=true then
 none
 else
 aD (I64 (x6+(1:Int))) <|
 some (.inl (x6+(1:Int)))
 else
 aY (
 some (.inl ()))) (0:Int)) λ_=>
 aD (0<=(p0.names.length:Int)/\(p0.names.length:Int)<=1000000000) <|
 eE (
 aW (λ(x20,b21)=>
 if x20 < (p0.An.length:Int) then
 bC p0.An x20 λe24=>
 bC b21 e24.var λe25=>
 if e25=true then
 none
 else
 bC b21 e24.var λe27=>
 aD (I64 (x20+(1:Int))) <|
 some (.inl ((x20+(1:Int)),(b21.set e24.var.toNat true)))
 else
 aY (
 some (.inl b21))) ((0:Int),(List.replicate (p0.names.length:Int).toNat false))) λb15=>
 some (0:Int)
def pT:Nat->Ad->Option Ad
 | 0,_=>none
 | fu+1,p0=>
 aC (
 aW (λx3=>
 if x3 < (p0.args.length:Int) then
 none
 else
 aY (
 some ())) (0:Int)) λ_=>
 some (⟨p0.op,p0.var,([]:List Ad)⟩:Ad)
def qFB (p0:Ad):Option Ad:=pT eR p0
def pU:Nat->Ad->Int->Ad->Option Ad
 | 0,_,_,_=>none
 | fu+1,p0,p1,p2=>
 if ((decide (p0.op=(3:Int)))&&(decide (p0.var=p1)))=true then
 aC (qFB p2) λr3=>
 some r3
 else
 aC (
 aW (λx6=>
 if x6 < (p0.args.length:Int) then
 none
 else
 aY (
 some ())) (0:Int)) λ_=>
 some (⟨p0.op,p0.var,([]:List Ad)⟩:Ad)
def yJ (p0:Ad) (p1:Int) (p2:Ad):Option Ad:=pU eR p0 p1 p2
def uV:Nat->Ad->Option Int
 | 0,_=>none
 | fu+1,p0=>
 aC (
 aW (λ(n5,x6)=>
 if x6 < (p0.args.length:Int) then
 none
 else
 aY (
 some n5)) ((1:Int),(0:Int))) λn1=>
 some n1
def qGZ (p0:Ad):Option Int:=uV eR p0
def oI:Nat->Ad->Int->Option Int
 | 0,_,_=>none
 | fu+1,p0,p1=>
 aC (
 if ((decide (p0.op=(3:Int)))&&(decide (p0.var=p1)))=true then
 some ()
 else
 none) λ_=>
 aC (
 aW (λ(n8,x9)=>
 if x9 < (p0.args.length:Int) then
 none
 else
 aY (
 some n8)) ((1:Int),(0:Int))) λn4=>
 some n4
def qCI (p0:Ad) (p1:Int):Option Int:=oI eR p0 p1
def sE:Nat->Ad->Ad->Option Bool
 | 0,_,_=>none
 | fu+1,p0,p1=>
 if ((!(decide (p0.op=p1.op)))||((!(decide (p0.var=p1.var)))||(!(decide ((p0.args.length:Int)=(p1.args.length:Int))))))=true then
 none
 else
 eE (
 aW (λi6=>
 if i6 < (p0.args.length:Int) then
 none
 else
 aY (
 some (.inl ()))) (0:Int)) λ_=>
 some true
def qCY (p0:Ad) (p1:Ad):Option Bool:=sE eR p0 p1
def qAH (p0:Ad):Option Bd:=
 if p0.op=(3:Int) then
 some (⟨200,p0⟩:Bd)
 else
 if p0.op=(4:Int) then
 if (0:Int) < (p0.args.length:Int) then
 some (⟨201,p0⟩:Bd)
 else
 none
 else
 if p0.op=(5:Int) then
 some (⟨202,p0⟩:Bd)
 else
 if p0.op=(6:Int) then
 some (⟨203,p0⟩:Bd)
 else
 none
def nM:Nat->Ad->(List Bool)->Option Bool
 | 0,_,_=>none
 | fu+1,p0,p1=>
 eE (
 aC (qAH p0) λr2=>
 if r2.tid=200 then
 aC (
 if (0:Int)<=r2.e.var then
 if r2.e.var < (p1.length:Int) then
 bC p1 r2.e.var λe8=>
 some e8
 else
 some false
 else
 some false) λx4=>
 aY (
 some x4)
 else
 if r2.tid=201 then
 bC r2.e.args (0:Int) λe11=>
 aC ((nM fu) e11 p1) λr12=>
 aY (
 some (!(r12)))
 else
 if r2.tid=202 then
 eE (
 aW (λx17=>
 if x17 < (r2.e.args.length:Int) then
 bC r2.e.args x17 λe20=>
 aC ((nM fu) e20 p1) λr21=>
 if (!(r21))=true then
 aY (
 aY (
 aY (
 some false)))
 else
 aD (I64 (x17+(1:Int))) <|
 some (.inl (x17+(1:Int)))
 else
 aY (
 some (.inl ()))) (0:Int)) λ_=>
 aY (
 some true)
 else
 if r2.tid=203 then
 aW (λx31=>
 if x31 < (r2.e.args.length:Int) then
 bC r2.e.args x31 λe34=>
 aC ((nM fu) e34 p1) λr35=>
 if r35=true then
 aY (
 aY (
 some true))
 else
 none
 else
 none) (0:Int)
 else
 some (.inl ())) λ_=>
 some (decide (p0.op=(2:Int)))
def qOM (p0:Ad) (p1:(List Bool)):Option Bool:=nM eR p0 p1
def qHA (p0:Ad) (p1:(List Bool)):Option Bool:=
 aC (qOM p0 p1) λr1=>
 some r1
def rT (p0:Af) (p1:Machine):Option Bool:=
 aC (qHA p0.expr p1.vars) λr1=>
 some (!(r1))
def kH (p0:(List Af)) (p1:Af->Option Bool):Option Int:=
 eE (
 aW (λx3=>
 if x3 < (p0.length:Int) then
 bC p0 x3 λe6=>
 aC (p1 e6) λr7=>
 if r7=true then
 none
 else
 aD (I64 (x3+(1:Int))) <|
 some (.inl (x3+(1:Int)))
 else
 aY (
 some (.inl ()))) (0:Int)) λ_=>
 some (-1:Int)
def yB (p0:(List Af)) (p1:Machine):Option Int:=
 aC (kH p0 (λa0=>rT a0 p1)) λr1=>
 some r1
def oJ (p0:Program) (p1:Ad):Option (Ad×Int):=
 aC (
 aC (qGJ p0) λr3=>
 if r3=(0:Int) then
 aC (tS p1 (p0.names.length:Int)) λr5=>
 some (!(r5))
 else
 some true) λx1=>
 if x1=true then
 none
 else
 aD (I64 ((p0.names.length:Int)+(p0.An.length:Int))) <|
 aC (yJ p1 (-1:Int) (⟨(0:Int),(0:Int),([]:List Ad)⟩:Ad)) λr8=>
 eE (
 aD (I64 ((p0.An.length:Int) - (1:Int))) <|
 aW (λ(i19,c20,c21,c22)=>
 if (0:Int)<=i19 then
 bC p0.An i19 λe25=>
 aC (
 if e25.kind=(2:Int) then
 aD (I64 ((p0.names.length:Int)+i19)) <|
 some ((3:Int),((p0.names.length:Int)+i19),([]:List Ad))
 else
 some (e25.expr.op,e25.expr.var,e25.expr.args)) λ(c26,c27,c28)=>
 aC (qGZ (⟨c20,c21,c22⟩:Ad)) λr32=>
 aC (qCI (⟨c20,c21,c22⟩:Ad) e25.var) λr33=>
 aC (qGZ (⟨c26,c27,c28⟩:Ad)) λr34=>
 aD (I64 (r34 - (1:Int))) <|
 aD (I64 (r33 * (r34 - (1:Int)))) <|
 aD (I64 (r32+(r33 * (r34 - (1:Int))))) <|
 if (20000:Int) < (r32+(r33 * (r34 - (1:Int)))) then
 none
 else
 aC (yJ (⟨c20,c21,c22⟩:Ad) e25.var (⟨c26,c27,c28⟩:Ad)) λr39=>
 aC (tS r39 ((p0.names.length:Int)+(p0.An.length:Int))) λr40=>
 if (!(r40))=true then
 none
 else
 aD (I64 (i19 - (1:Int))) <|
 some (.inl ((i19 - (1:Int)),r39.op,r39.var,r39.args))
 else
 aY (
 some (.inl (c20,c21,c22)))) (((p0.An.length:Int) - (1:Int)),r8.op,r8.var,r8.args)) λ(c9,c10,c11)=>
 some ((⟨c9,c10,c11⟩:Ad),(0:Int))
def rM:Option Bool:=
 aC (qDL) λr1=>
 aC (zJ r1) λ(r3,r4)=>
 aC (qM r3) λ(r6,r7)=>
 aC (yF (0:Int)) λr8=>
 aC (yF (1:Int)) λr9=>
 aC (oJ (⟨([(⟨#[97]⟩:BA),(⟨#[98]⟩:BA)]:List BA),(1:Int),([(⟨(1:Int),(1:Int),(0:Int),r8⟩:At)]:List At)⟩:Program) r9) λ(r11,r12)=>
 bC ([(⟨(1:Int),(1:Int),(0:Int),r8⟩:At)]:List At) (0:Int) λe13=>
 bC (([(⟨(1:Int),(1:Int),(0:Int),r8⟩:At)]:List At).set (0:Int).toNat (⟨(2:Int),e13.var,e13.A9,e13.expr⟩:At)) (0:Int) λe14=>
 aC (yF (1:Int)) λr15=>
 aC (oJ (⟨([(⟨#[97]⟩:BA),(⟨#[98]⟩:BA)]:List BA),(1:Int),((([(⟨(1:Int),(1:Int),(0:Int),r8⟩:At)]:List At).set (0:Int).toNat (⟨(2:Int),e13.var,e13.A9,e13.expr⟩:At)).set (0:Int).toNat (⟨e14.kind,e14.var,(2:Int),e14.expr⟩:At))⟩:Program) r15) λ(r17,r18)=>
 aC (
 if r7=(0:Int) then
 if (r6.length:Int)=(6:Int) then
 bC r6 (0:Int) λe23=>
 if e23.name=(⟨#[112,114,111,118,101,100,32,48]⟩:BA) then
 bC r6 (5:Int) λe25=>
 if e25.name=(⟨#[114,101,108,32,49]⟩:BA) then
 if r12=(0:Int) then
 aC (yF (0:Int)) λr28=>
 aC (qCY r11 r28) λr29=>
 if r29=true then
 if r18=(0:Int) then
 aC (yF (2:Int)) λr32=>
 aC (qCY r17 r32) λr33=>
 if r33=true then
 aC (yB r6 (⟨([]:List Bool),([]:List Int),false⟩:Machine)) λr35=>
 some (decide (r35=(-1:Int)))
 else
 some false
 else
 some false
 else
 some false
 else
 some false
 else
 some false
 else
 some false
 else
 some false
 else
 some false) λx19=>
 some x19
def nI (p0:Am) (p1:(List Int)):Option Bool:=
 eE (
 aW (λx3=>
 if x3 < (p1.length:Int) then
 eE (
 bC p1 x3 λe7=>
 if ((decide (e7 < (0:Int)))||(decide (p0.Aa<=e7)))=true then
 aY (
 aY (
 aY (
 some false)))
 else
 aW (λx14=>
 if x14 < x3 then
 bC p1 x14 λe17=>
 if e17=e7 then
 aY (
 aY (
 aY (
 aY (
 some false))))
 else
 aD (I64 (x14+(1:Int))) <|
 some (.inl (x14+(1:Int)))
 else
 aY (
 some (.inl ()))) (0:Int)) λ_=>
 aD (I64 (x3+(1:Int))) <|
 some (.inl (x3+(1:Int)))
 else
 aY (
 some (.inl ()))) (0:Int)) λ_=>
 some true
def oU (p0:Am) (p1:Aj):Option Bool:=
 if ((decide (p1.entry < (0:Int)))||((decide (p0.Al<=p1.entry))||((decide (p1.exit < (-1:Int)))||((decide (p0.Al<=p1.exit))||((decide ((p1.path.length:Int) < (1:Int)))||((decide ((12:Int) < (p1.path.length:Int)))||(decide (p1.length < (1:Int)))))))))=true then
 some false
 else
 aD ((([]:List Int)++p1.Aa).length<=1000000000) <|
 aD (((([]:List Int)++p1.Aa)++p1.Ah).length<=1000000000) <|
 aC (
 if (0:Int) < (p1.Aa.length:Int) then
 aC (nI p0 ((([]:List Int)++p1.Aa)++p1.Ah)) λr13=>
 if r13=true then
 if (0:Int)<=p1.A4 then
 some (decide (p1.A4 < p0.Aa))
 else
 some false
 else
 some false
 else
 some false) λx10=>
 some x10
def jV (p0:Am) (p1:Int):Option Int:=
 eE (
 aW (λx3=>
 if x3 < (p0.Ae.length:Int) then
 bC p0.Ae x3 λe6=>
 if e6=p1 then
 aY (
 aY (
 some x3))
 else
 aD (I64 (x3+(1:Int))) <|
 some (.inl (x3+(1:Int)))
 else
 aY (
 some (.inl ()))) (0:Int)) λ_=>
 some (-1:Int)
def hZ (p0:Am) (p1:(List Ag)):Option Bool:=
 eE (
 aW (λx3=>
 if x3 < (p1.length:Int) then
 bC p1 x3 λe6=>
 aC (
 aC (jV p0 e6.el) λr9=>
 if r9 < (0:Int) then
 some true
 else
 if e6.pos < (1:Int) then
 some true
 else
 if (2:Int) < e6.pos then
 some true
 else
 if (0:Int) < x3 then
 aD (I64 (x3 - (1:Int))) <|
 bC p1 (x3 - (1:Int)) λe15=>
 some (decide (e6.el<=e15.el))
 else
 some false) λx7=>
 if x7=true then
 aY (
 aY (
 some false))
 else
 aD (I64 (x3+(1:Int))) <|
 some (.inl (x3+(1:Int)))
 else
 aY (
 some (.inl ()))) (0:Int)) λ_=>
 some true
def kP (p0:(List Ag)) (p1:(List Ag)):Option Bool:=
 eE (
 aW (λx3=>
 if x3 < (p0.length:Int) then
 eE (
 bC p0 x3 λe7=>
 aW (λx9=>
 if x9 < (p1.length:Int) then
 bC p1 x9 λe12=>
 if ((decide (e7.el=e12.el))&&(!(decide (e7.pos=e12.pos))))=true then
 aY (
 aY (
 aY (
 aY (
 some false))))
 else
 aD (I64 (x9+(1:Int))) <|
 some (.inl (x9+(1:Int)))
 else
 aY (
 some (.inl ()))) (0:Int)) λ_=>
 aD (I64 (x3+(1:Int))) <|
 some (.inl (x3+(1:Int)))
 else
 aY (
 some (.inl ()))) (0:Int)) λ_=>
 some true
def qG (p0:Am) (p1:BA):Option Int:=
 eE (
 aW (λx3=>
 if x3 < (p0.Ac.length:Int) then
 bC p0.Ac x3 λe6=>
 if e6.name=p1 then
 aY (
 aY (
 some x3))
 else
 aD (I64 (x3+(1:Int))) <|
 some (.inl (x3+(1:Int)))
 else
 aY (
 some (.inl ()))) (0:Int)) λ_=>
 some (-1:Int)
def rI (p0:Am):Option Int:=
 if ((decide ((48:Int) < (p0.Ac.length:Int)))||((decide ((32:Int) < (p0.Ae.length:Int)))||((decide (p0.Aa < (0:Int)))||((decide ((24:Int) < p0.Aa))||((decide (p0.Al < (0:Int)))||(decide ((20:Int) < p0.Al)))))))=true then
 some (2:Int)
 else
 if (p0.As.length:Int)=(p0.Ae.length:Int) then
 eE (
 aW (λx10=>
 if x10 < (p0.Ae.length:Int) then
 bC p0.Ae x10 λe13=>
 aC (
 if e13 < (0:Int) then
 some true
 else
 if (0:Int) < x10 then
 aD (I64 (x10 - (1:Int))) <|
 bC p0.Ae (x10 - (1:Int)) λe22=>
 if e13<=e22 then
 some true
 else
 bC p0.As x10 λe24=>
 if e24 < (0:Int) then
 some true
 else
 bC p0.As x10 λe26=>
 some (decide (p0.Aa<=e26))
 else
 bC p0.As x10 λe18=>
 if e18 < (0:Int) then
 some true
 else
 bC p0.As x10 λe20=>
 some (decide (p0.Aa<=e20))) λx14=>
 if x14=true then
 aY (
 aY (
 some (1:Int)))
 else
 aD (I64 (x10+(1:Int))) <|
 some (.inl (x10+(1:Int)))
 else
 aY (
 some (.inl ()))) (0:Int)) λ_=>
 eE (
 aW (λx34=>
 if x34 < (p0.Ac.length:Int) then
 bC p0.Ac x34 λe37=>
 aC (
 aC (oU p0 e37) λr40=>
 if (!(r40))=true then
 some true
 else
 aC (hZ p0 e37.Ae) λr42=>
 if (!(r42))=true then
 some true
 else
 aC (hZ p0 e37.Ar) λr44=>
 if (!(r44))=true then
 some true
 else
 aC (hZ p0 e37.Az) λr46=>
 some (!(r46))) λx38=>
 if x38=true then
 aY (
 aY (
 some (1:Int)))
 else
 aD (I64 (x34+(1:Int))) <|
 some (.inl (x34+(1:Int)))
 else
 aY (
 some (.inl ()))) (0:Int)) λ_=>
 eE (
 aW (λx54=>
 if x54 < (p0.Ac.length:Int) then
 bC p0.Ac x54 λe57=>
 aC (
 aC (kP e57.Ae e57.Ar) λr60=>
 if (!(r60))=true then
 some true
 else
 aC (kP e57.Ae e57.Az) λr62=>
 if (!(r62))=true then
 some true
 else
 aC (kP e57.Ar e57.Az) λr64=>
 some (!(r64))) λx58=>
 if x58=true then
 aY (
 aY (
 some (10:Int)))
 else
 aD (I64 (x54+(1:Int))) <|
 some (.inl (x54+(1:Int)))
 else
 aY (
 some (.inl ()))) (0:Int)) λ_=>
 eE (
 aW (λx72=>
 if x72 < (p0.Ac.length:Int) then
 bC p0.Ac x72 λe75=>
 aC (qG p0 e75.name) λr76=>
 if r76=x72 then
 aD (I64 (x72+(1:Int))) <|
 some (.inl (x72+(1:Int)))
 else
 aY (
 aY (
 some (8:Int)))
 else
 aY (
 some (.inl ()))) (0:Int)) λ_=>
 some (0:Int)
 else
 some (1:Int)
def iP (p0:Am):Option Be:=
 aD (I64 ((2:Int) * p0.Aa)) <|
 aD (I64 ((2:Int) * (p0.Ae.length:Int))) <|
 aD (I64 (((2:Int) * p0.Aa)+((2:Int) * (p0.Ae.length:Int)))) <|
 aD (I64 ((4:Int) * (p0.Ac.length:Int))) <|
 aD (I64 ((((2:Int) * p0.Aa)+((2:Int) * (p0.Ae.length:Int)))+((4:Int) * (p0.Ac.length:Int)))) <|
 aD (I64 (((((2:Int) * p0.Aa)+((2:Int) * (p0.Ae.length:Int)))+((4:Int) * (p0.Ac.length:Int)))+(p0.Ae.length:Int))) <|
 aC (
 aW (λ(at15,i16,b17)=>
 if i16 < (p0.Ac.length:Int) then
 aD ((b17++([at15]:List Int)).length<=1000000000) <|
 aD (I64 (at15+(6:Int))) <|
 bC p0.Ac i16 λe22=>
 aD (I64 ((e22.Aa.length:Int) - (1:Int))) <|
 aD (I64 ((at15+(6:Int))+(max (0:Int) ((e22.Aa.length:Int) - (1:Int))))) <|
 aD (I64 (i16+(1:Int))) <|
 some (.inl (((at15+(6:Int))+(max (0:Int) ((e22.Aa.length:Int) - (1:Int)))),(i16+(1:Int)),(b17++([at15]:List Int))))
 else
 aY (
 some (at15,b17))) ((((((2:Int) * p0.Aa)+((2:Int) * (p0.Ae.length:Int)))+((4:Int) * (p0.Ac.length:Int)))+(p0.Ae.length:Int)),(0:Int),([]:List Int))) λ(at7,b8)=>
 aD (I64 ((5:Int) * (p0.Ac.length:Int))) <|
 aD (I64 (at7+((5:Int) * (p0.Ac.length:Int)))) <|
 some (⟨((2:Int) * p0.Aa),(((2:Int) * p0.Aa)+((2:Int) * (p0.Ae.length:Int))),((((2:Int) * p0.Aa)+((2:Int) * (p0.Ae.length:Int)))+((4:Int) * (p0.Ac.length:Int))),at7,(at7+((5:Int) * (p0.Ac.length:Int))),b8⟩:Be)
def fA (p0:Int):Option Ad:=
 some (⟨(3:Int),p0,([]:List Ad)⟩:Ad)
def hU (p0:(List Ad)):Option Ad:=
 some (⟨(6:Int),(0:Int),p0⟩:Ad)
def eP (p0:(List Ad)):Option Ad:=
 some (⟨(5:Int),(0:Int),p0⟩:Ad)
def eU (p0:Ad):Option Ad:=
 some (⟨(4:Int),(0:Int),([p0]:List Ad)⟩:Ad)
def jH (p0:Ag) (p1:Ag):Option Bool:=
 some ((decide (p0.el < p1.el))||((decide (p0.el=p1.el))&&(decide (p0.pos < p1.pos))))
def gG (p0:Aj):Option ((List Ag)):=
 aD ((([]:List Ag)++p0.Ae).length<=1000000000) <|
 aD (((([]:List Ag)++p0.Ae)++p0.Ar).length<=1000000000) <|
 aD ((((([]:List Ag)++p0.Ae)++p0.Ar)++p0.Az).length<=1000000000) <|
 aW (λb5=>
 aC (
 aW (λ(found11,x12)=>
 if x12 < ((((([]:List Ag)++p0.Ae)++p0.Ar)++p0.Az).length:Int) then
 bC (((([]:List Ag)++p0.Ae)++p0.Ar)++p0.Az) x12 λe15=>
 aC (
 if (b5.length:Int)=(0:Int) then
 if found11 < (0:Int) then
 some true
 else
 bC (((([]:List Ag)++p0.Ae)++p0.Ar)++p0.Az) found11 λe27=>
 aC (jH e15 e27) λr28=>
 some r28
 else
 aD (I64 ((b5.length:Int) - (1:Int))) <|
 bC b5 ((b5.length:Int) - (1:Int)) λe20=>
 aC (jH e20 e15) λr21=>
 if r21=true then
 if found11 < (0:Int) then
 some true
 else
 bC (((([]:List Ag)++p0.Ae)++p0.Ar)++p0.Az) found11 λe24=>
 aC (jH e15 e24) λr25=>
 some r25
 else
 some false) λx16=>
 if x16=true then
 aD (I64 (x12+(1:Int))) <|
 some (.inl (x12,(x12+(1:Int))))
 else
 aD (I64 (x12+(1:Int))) <|
 some (.inl (found11,(x12+(1:Int))))
 else
 aY (
 some found11)) ((-1:Int),(0:Int))) λfound7=>
 if found7 < (0:Int) then
 aY (
 some b5)
 else
 bC (((([]:List Ag)++p0.Ae)++p0.Ar)++p0.Az) found7 λe35=>
 aD ((b5++([e35]:List Ag)).length<=1000000000) <|
 some (.inl (b5++([e35]:List Ag)))) ([]:List Ag)
def jM (p0:Aj) (p1:Aj):Option Bool:=
 some ((decide ((0:Int)<=p0.exit))&&(decide (p1.entry=p0.exit)))
def lK (p0:(List Int)) (p1:(List Int)):Option Int:=
 aC (
 aW (λ(out5,i6)=>
 if i6 < (p0.length:Int) then
 bC p0 i6 λe9=>
 aC (wL p1 e9) λr10=>
 if r10=true then
 aD (I64 (i6+(1:Int))) <|
 some (.inl (i6,(i6+(1:Int))))
 else
 aD (I64 (i6+(1:Int))) <|
 some (.inl (out5,(i6+(1:Int))))
 else
 aY (
 some out5)) ((-1:Int),(0:Int))) λout1=>
 some out1
def oT (p0:(List Ag)) (p1:Ag):Option Bool:=
 eE (
 aW (λi3=>
 if i3 < (p0.length:Int) then
 bC p0 i3 λe6=>
 aD (Ag.ok e6/\Ag.ok p1) <|
 if e6=p1 then
 aY (
 aY (
 some true))
 else
 aD (I64 (i3+(1:Int))) <|
 some (.inl (i3+(1:Int)))
 else
 aY (
 some (.inl ()))) (0:Int)) λ_=>
 some false
def pI (p0:Am) (p1:Int) (p2:Int):Option Int:=
 bC p0.Ac p1 λe1=>
 bC p0.Ac p2 λe2=>
 aD (I64 ((e1.Aa.length:Int) - (1:Int))) <|
 aC (jM e1 e2) λr4=>
 aC (jM e2 e1) λr5=>
 aC (lK e1.Aa e2.Aa) λr6=>
 aC (
 if (!(r5))=true then
 aC (lK e1.Aa e2.Ah) λr10=>
 some (max r6 r10)
 else
 some r6) λout7=>
 aC (
 if (!(r4))=true then
 aC (lK e1.Ah e2.Aa) λr17=>
 if (0:Int)<=r17 then
 some true
 else
 if (!(r4))=true then
 if (!(r5))=true then
 aC (lK e1.Ah e2.Ah) λr21=>
 some (decide ((0:Int)<=r21))
 else
 some false
 else
 some false
 else
 if (!(r4))=true then
 if (!(r5))=true then
 aC (lK e1.Ah e2.Ah) λr16=>
 some (decide ((0:Int)<=r16))
 else
 some false
 else
 some false) λx11=>
 if x11=true then
 some ((e1.Aa.length:Int) - (1:Int))
 else
 aC (gG e1) λr23=>
 aC (gG e2) λr24=>
 eE (
 aW (λ(out29,i30)=>
 if i30 < (r23.length:Int) then
 eE (
 aW (λ(out37,k38)=>
 if k38 < (r24.length:Int) then
 aC (
 bC r23 i30 λe43=>
 bC r24 k38 λe44=>
 if e43.el=e44.el then
 bC r23 i30 λe46=>
 bC r24 k38 λe47=>
 some (decide (e46.pos=e47.pos))
 else
 some true) λx41=>
 if x41=true then
 aD (I64 (k38+(1:Int))) <|
 some (.inl (out37,(k38+(1:Int))))
 else
 bC r23 i30 λe50=>
 aC (jV p0 e50.el) λr51=>
 bC p0.As r51 λe52=>
 aC (lK e1.Aa ([e52]:List Int)) λr53=>
 aC (
 if r53 < (0:Int) then
 some true
 else
 bC r23 i30 λe57=>
 aC (oT e1.Ar e57) λr58=>
 if r58=true then
 some true
 else
 bC r23 i30 λe60=>
 aC (oT e1.Az e60) λr61=>
 some r61) λx54=>
 if x54=true then
 aY (
 aY (
 aY (
 aY (
 some ((e1.Aa.length:Int) - (1:Int))))))
 else
 aD (I64 (k38+(1:Int))) <|
 some (.inl ((max out37 r53),(k38+(1:Int))))
 else
 aY (
 some (.inl out37))) (out29,(0:Int))) λout33=>
 aD (I64 (i30+(1:Int))) <|
 some (.inl (out33,(i30+(1:Int))))
 else
 aY (
 some (.inl out29))) (out7,(0:Int))) λout25=>
 some out25
def nR (p0:Int):Option BA:=
 aC (
 aW (λ(s5,m6)=>
 if ((!(decide (m6=(0:Int))))||(decide (s5=(⟨#[]⟩:BA))))=true then
 aD (¬ (10:Int)=0) <|
 aC (
 if (m6.tmod (10:Int)) < (0:Int) then
 some (IntKind.i64.wrap (0 - (m6.tmod (10:Int))))
 else
 some (m6.tmod (10:Int))) λd11=>
 aD (I64 (d11+(1:Int))) <|
 aD (0<=d11/\d11<=(d11+(1:Int))/\(d11+(1:Int))<=((⟨#[48,49,50,51,52,53,54,55,56,57]⟩:BA).size:Int)) <|
 aD (((⟨#[48,49,50,51,52,53,54,55,56,57]⟩:BA).extract d11.toNat (d11+(1:Int)).toNat).size+s5.size<=9223372036854775807) <|
 aD (¬ (10:Int)=0) <|
 some (.inl ((((⟨#[48,49,50,51,52,53,54,55,56,57]⟩:BA).extract d11.toNat (d11+(1:Int)).toNat)++s5),(IntKind.i64.wrap (m6.tdiv (10:Int)))))
 else
 aY (
 some s5)) ((⟨#[]⟩:BA),p0)) λs1=>
 if p0 < (0:Int) then
 aD ((⟨#[45]⟩:BA).size+s1.size<=9223372036854775807) <|
 some ((⟨#[45]⟩:BA)++s1)
 else
 some s1
def eG (p0:BA) (p1:Int):Option BA:=
 aD (p0.size+(⟨#[46]⟩:BA).size<=9223372036854775807) <|
 aC (nR p1) λr2=>
 aD ((p0++(⟨#[46]⟩:BA)).size+r2.size<=9223372036854775807) <|
 some ((p0++(⟨#[46]⟩:BA))++r2)
def rG (p0:Am):Option ((List BA)×Int):=
 aC (
 aW (λ(i6,b7)=>
 if i6 < p0.Aa then
 aC (eG (⟨#[102,114,101,101]⟩:BA) i6) λr10=>
 aD ((b7++([r10]:List BA)).length<=1000000000) <|
 aC (eG (⟨#[111,112,101,110]⟩:BA) i6) λr12=>
 aD (((b7++([r10]:List BA))++([r12]:List BA)).length<=1000000000) <|
 aD (I64 (i6+(1:Int))) <|
 some (.inl ((i6+(1:Int)),((b7++([r10]:List BA))++([r12]:List BA))))
 else
 aY (
 some b7)) ((0:Int),([]:List BA))) λb1=>
 aC (
 aW (λ(i21,b22)=>
 if i21 < (p0.Ae.length:Int) then
 aC (eG (⟨#[110,111,114,109,97,108]⟩:BA) i21) λr25=>
 aD ((b22++([r25]:List BA)).length<=1000000000) <|
 aC (eG (⟨#[114,101,118,101,114,115,101]⟩:BA) i21) λr27=>
 aD (((b22++([r25]:List BA))++([r27]:List BA)).length<=1000000000) <|
 aD (I64 (i21+(1:Int))) <|
 some (.inl ((i21+(1:Int)),((b22++([r25]:List BA))++([r27]:List BA))))
 else
 aY (
 some b22)) ((0:Int),b1)) λb16=>
 aC (
 aW (λ(i36,b37)=>
 if i36 < (p0.Ac.length:Int) then
 aC (eG (⟨#[117,110,99,108,97,105,109,101,100]⟩:BA) i36) λr40=>
 aD ((b37++([r40]:List BA)).length<=1000000000) <|
 aC (eG (⟨#[112,97,115,115,101,100]⟩:BA) i36) λr42=>
 aD (((b37++([r40]:List BA))++([r42]:List BA)).length<=1000000000) <|
 aC (eG (⟨#[99,97,108,108]⟩:BA) i36) λr44=>
 aD ((((b37++([r40]:List BA))++([r42]:List BA))++([r44]:List BA)).length<=1000000000) <|
 aC (eG (⟨#[99,97,110,99,101,108]⟩:BA) i36) λr46=>
 aD (((((b37++([r40]:List BA))++([r42]:List BA))++([r44]:List BA))++([r46]:List BA)).length<=1000000000) <|
 aD (I64 (i36+(1:Int))) <|
 some (.inl ((i36+(1:Int)),((((b37++([r40]:List BA))++([r42]:List BA))++([r44]:List BA))++([r46]:List BA))))
 else
 aY (
 some b37)) ((0:Int),b16)) λb31=>
 aC (
 aW (λ(i55,b56)=>
 if i55 < (p0.Ae.length:Int) then
 aC (eG (⟨#[108,105,101]⟩:BA) i55) λr59=>
 aD ((b56++([r59]:List BA)).length<=1000000000) <|
 aD (I64 (i55+(1:Int))) <|
 some (.inl ((i55+(1:Int)),(b56++([r59]:List BA))))
 else
 aY (
 some b56)) ((0:Int),b31)) λb50=>
 aC (
 aW (λ(i68,b69)=>
 if i68 < (p0.Ac.length:Int) then
 aC (
 aC (eG (⟨#[115,101,116]⟩:BA) i68) λr74=>
 aD ((b69++([r74]:List BA)).length<=1000000000) <|
 aC (eG (⟨#[99,108,101,97,114]⟩:BA) i68) λr76=>
 aD (((b69++([r74]:List BA))++([r76]:List BA)).length<=1000000000) <|
 aC (eG (⟨#[117,115,101,100]⟩:BA) i68) λr78=>
 aD ((((b69++([r74]:List BA))++([r76]:List BA))++([r78]:List BA)).length<=1000000000) <|
 aC (eG (⟨#[104,101,108,100]⟩:BA) i68) λr80=>
 aD (((((b69++([r74]:List BA))++([r76]:List BA))++([r78]:List BA))++([r80]:List BA)).length<=1000000000) <|
 aC (
 aW (λ(k87,b88)=>
 bC p0.Ac i68 λe90=>
 aD (I64 ((e90.Aa.length:Int) - (1:Int))) <|
 if k87 < ((e90.Aa.length:Int) - (1:Int)) then
 aC (eG (⟨#[114,101,108]⟩:BA) i68) λr93=>
 aC (eG r93 k87) λr94=>
 aD ((b88++([r94]:List BA)).length<=1000000000) <|
 aD (I64 (k87+(1:Int))) <|
 some (.inl ((k87+(1:Int)),(b88++([r94]:List BA))))
 else
 aY (
 some b88)) ((0:Int),((((b69++([r74]:List BA))++([r76]:List BA))++([r78]:List BA))++([r80]:List BA)))) λb82=>
 aC (eG (⟨#[119,97,105,116]⟩:BA) i68) λr98=>
 aD ((b82++([r98]:List BA)).length<=1000000000) <|
 aC (eG (⟨#[115,116,97,110,100]⟩:BA) i68) λr100=>
 aD (((b82++([r98]:List BA))++([r100]:List BA)).length<=1000000000) <|
 some ((b82++([r98]:List BA))++([r100]:List BA))) λb72=>
 aD (I64 (i68+(1:Int))) <|
 some (.inl ((i68+(1:Int)),b72))
 else
 aY (
 some b69)) ((0:Int),b50)) λb63=>
 aC (
 aW (λ(i109,b110)=>
 if i109 < (p0.Ac.length:Int) then
 aC (eG (⟨#[107,101,101,112]⟩:BA) i109) λr113=>
 aD ((b110++([r113]:List BA)).length<=1000000000) <|
 aC (eG (⟨#[117,115,101]⟩:BA) i109) λr115=>
 aD (((b110++([r113]:List BA))++([r115]:List BA)).length<=1000000000) <|
 aC (eG (⟨#[104,111,108,100]⟩:BA) i109) λr117=>
 aD ((((b110++([r113]:List BA))++([r115]:List BA))++([r117]:List BA)).length<=1000000000) <|
 aC (eG (⟨#[97,99,116]⟩:BA) i109) λr119=>
 aD (((((b110++([r113]:List BA))++([r115]:List BA))++([r117]:List BA))++([r119]:List BA)).length<=1000000000) <|
 aC (eG (⟨#[99,97,108,108,101,100]⟩:BA) i109) λr121=>
 aD ((((((b110++([r113]:List BA))++([r115]:List BA))++([r117]:List BA))++([r119]:List BA))++([r121]:List BA)).length<=1000000000) <|
 aD (I64 (i109+(1:Int))) <|
 some (.inl ((i109+(1:Int)),(((((b110++([r113]:List BA))++([r115]:List BA))++([r117]:List BA))++([r119]:List BA))++([r121]:List BA))))
 else
 aY (
 some b110)) ((0:Int),b63)) λb104=>
 some (b104,(b31.length:Int))
def eX (p0:Ao) (p1:Int):Option Int:=
 bC p0.t.Ac p1 λe1=>
 aD (I64 ((e1.Aa.length:Int) - (1:Int))) <|
 some ((e1.Aa.length:Int) - (1:Int))
def cS (p0:Ao) (p1:Int):Option Ad:=
 aD (I64 ((2:Int) * p1)) <|
 aC (fA ((2:Int) * p1)) λr2=>
 some r2
def bH (p0:Ao) (p1:Int) (p2:Int):Option Ad:=
 bC p0.p.states p1 λe1=>
 aD (I64 (e1+p2)) <|
 aC (fA (e1+p2)) λr3=>
 some r3
def dH (p0:Ao) (p1:Int) (p2:Int):Option Ad:=
 aD (I64 ((4:Int) * p1)) <|
 aD (I64 (p0.p.Ac+((4:Int) * p1))) <|
 aD (I64 ((p0.p.Ac+((4:Int) * p1))+p2)) <|
 aC (fA ((p0.p.Ac+((4:Int) * p1))+p2)) λr4=>
 some r4
def eL (p0:Ao) (p1:Int) (p2:Int):Option Ad:=
 bC p0.p.states p1 λe1=>
 aD (I64 (e1+(4:Int))) <|
 aD (I64 ((e1+(4:Int))+p2)) <|
 aC (fA ((e1+(4:Int))+p2)) λr4=>
 some r4
def gK (p0:Ao) (p1:Int):Option Ad:=
 bC p0.t.Ac p1 λe1=>
 aC (
 aW (λ(k7,b8)=>
 aD (I64 ((e1.Aa.length:Int) - (1:Int))) <|
 if k7 < ((e1.Aa.length:Int) - (1:Int)) then
 aC (eL p0 p1 k7) λr12=>
 bC e1.Aa k7 λe13=>
 aC (cS p0 e13) λr14=>
 aC (hU ([r12,r14]:List Ad)) λr15=>
 aD ((b8++([r15]:List Ad)).length<=1000000000) <|
 aD (I64 (k7+(1:Int))) <|
 some (.inl ((k7+(1:Int)),(b8++([r15]:List Ad))))
 else
 aY (
 some b8)) ((0:Int),([]:List Ad))) λb2=>
 aD (I64 ((e1.Aa.length:Int) - (1:Int))) <|
 bC e1.Aa ((e1.Aa.length:Int) - (1:Int)) λe20=>
 aC (cS p0 e20) λr21=>
 aD ((b2++([r21]:List Ad)).length<=1000000000) <|
 aC (eP (b2++([r21]:List Ad))) λr23=>
 some r23
def gV (p0:Ao) (p1:Int) (p2:Int):Option Ad:=
 aC (
 if (0:Int) < p2 then
 aD (I64 (p2 - (1:Int))) <|
 aC (eL p0 p1 (p2 - (1:Int))) λr5=>
 aD ((([]:List Ad)++([r5]:List Ad)).length<=1000000000) <|
 some (([]:List Ad)++([r5]:List Ad))
 else
 some ([]:List Ad)) λb1=>
 aC (
 aC (eX p0 p1) λr9=>
 if p2 < r9 then
 aC (eL p0 p1 p2) λr11=>
 aC (eU r11) λr12=>
 aD ((b1++([r12]:List Ad)).length<=1000000000) <|
 some (b1++([r12]:List Ad))
 else
 some b1) λb7=>
 aC (eP b7) λr14=>
 some r14
def eN (p0:Ao) (p1:Int) (p2:Int):Option Ad:=
 bC p0.p.states p1 λe1=>
 aD (I64 (e1+(4:Int))) <|
 aC (eX p0 p1) λr3=>
 aD (I64 ((e1+(4:Int))+r3)) <|
 aD (I64 (((e1+(4:Int))+r3)+p2)) <|
 aC (fA (((e1+(4:Int))+r3)+p2)) λr6=>
 some r6
def jC (p0:Ao) (p1:Int):Option Ao:=
 aC (eX p0 p1) λr1=>
 bC p0.t.Ac p1 λe2=>
 bC e2.Aa r1 λe3=>
 aC (cS p0 e3) λr4=>
 aC (bH p0 p1 (3:Int)) λr5=>
 aC (dH p0 p1 (0:Int)) λr6=>
 aC (gK p0 p1) λr7=>
 aC (eP ([r5,r6,r7]:List Ad)) λr8=>
 aC (bH p0 p1 (2:Int)) λr9=>
 aC (gV p0 p1 r1) λr10=>
 aC (dH p0 p1 (0:Int)) λr11=>
 aC (eU r4) λr12=>
 aC (eP ([r9,r10,r11,r12]:List Ad)) λr13=>
 aC (eN p0 p1 (0:Int)) λr14=>
 aD ((p0.An++([(⟨(2:Int),r14.var,(12:Int),r8⟩:At)]:List At)).length<=1000000000) <|
 aC (eN (⟨p0.t,p0.p,(p0.An++([(⟨(2:Int),r14.var,(12:Int),r8⟩:At)]:List At))⟩:Ao) p1 (1:Int)) λr16=>
 aD (((p0.An++([(⟨(2:Int),r14.var,(12:Int),r8⟩:At)]:List At))++([(⟨(2:Int),r16.var,(4:Int),r13⟩:At)]:List At)).length<=1000000000) <|
 some (⟨p0.t,p0.p,((p0.An++([(⟨(2:Int),r14.var,(12:Int),r8⟩:At)]:List At))++([(⟨(2:Int),r16.var,(4:Int),r13⟩:At)]:List At))⟩:Ao)
def bO (p0:Ao) (p1:Int) (p2:Int):Option Ad:=
 aD (I64 ((5:Int) * p1)) <|
 aD (I64 (p0.p.aux+((5:Int) * p1))) <|
 aD (I64 ((p0.p.aux+((5:Int) * p1))+p2)) <|
 aC (fA ((p0.p.aux+((5:Int) * p1))+p2)) λr4=>
 some r4
def fW (p0:Ao) (p1:Int):Option Ad:=
 bC p0.t.Ac p1 λe1=>
 aC (
 aW (λ(i7,b8)=>
 if i7 < (e1.Aa.length:Int) then
 bC e1.Aa i7 λe11=>
 aC (cS p0 e11) λr12=>
 aD ((b8++([r12]:List Ad)).length<=1000000000) <|
 aD (I64 (i7+(1:Int))) <|
 some (.inl ((i7+(1:Int)),(b8++([r12]:List Ad))))
 else
 aY (
 some b8)) ((0:Int),([]:List Ad))) λb2=>
 aC (
 aW (λ(i21,b22)=>
 if i21 < (e1.Ah.length:Int) then
 bC e1.Ah i21 λe25=>
 aC (cS p0 e25) λr26=>
 aD ((b22++([r26]:List Ad)).length<=1000000000) <|
 aD (I64 (i21+(1:Int))) <|
 some (.inl ((i21+(1:Int)),(b22++([r26]:List Ad))))
 else
 aY (
 some b22)) ((0:Int),b2)) λb16=>
 aC (gG e1) λr30=>
 aC (
 aW (λ(i36,b37)=>
 if i36 < (r30.length:Int) then
 bC r30 i36 λe40=>
 aC (jV p0.t e40.el) λr41=>
 aD (I64 ((2:Int) * r41)) <|
 aD (I64 (p0.p.Ae+((2:Int) * r41))) <|
 bC r30 i36 λe44=>
 aD (I64 ((p0.p.Ae+((2:Int) * r41))+e44.pos)) <|
 aD (I64 (((p0.p.Ae+((2:Int) * r41))+e44.pos) - (1:Int))) <|
 aC (fA (((p0.p.Ae+((2:Int) * r41))+e44.pos) - (1:Int))) λr47=>
 aD ((b37++([r47]:List Ad)).length<=1000000000) <|
 aD (I64 (i36+(1:Int))) <|
 some (.inl ((i36+(1:Int)),(b37++([r47]:List Ad))))
 else
 aY (
 some b37)) ((0:Int),b16)) λb31=>
 aC (eP b31) λr51=>
 some r51
def dO (p0:Ao) (p1:Ad) (p2:Ad):Option Ao:=
 aD ((p0.An++([(⟨(1:Int),p1.var,(0:Int),p2⟩:At)]:List At)).length<=1000000000) <|
 some (⟨p0.t,p0.p,(p0.An++([(⟨(1:Int),p1.var,(0:Int),p2⟩:At)]:List At))⟩:Ao)
def gF (p0:Ao) (p1:Int):Option Ad:=
 aC (dH p0 p1 (3:Int)) λr1=>
 aC (gK p0 p1) λr2=>
 aC (eP ([r1,r2]:List Ad)) λr3=>
 some r3
def iX (p0:Ao) (p1:Int):Option Ad:=
 aC (
 aW (λ(k6,b7)=>
 aC (eX p0 p1) λr9=>
 if k6<=r9 then
 aC (gV p0 p1 k6) λr11=>
 bC p0.t.Ac p1 λe12=>
 bC e12.Aa k6 λe13=>
 aC (cS p0 e13) λr14=>
 aC (eP ([r11,r14]:List Ad)) λr15=>
 aD ((b7++([r15]:List Ad)).length<=1000000000) <|
 aD (I64 (k6+(1:Int))) <|
 some (.inl ((k6+(1:Int)),(b7++([r15]:List Ad))))
 else
 aY (
 some b7)) ((0:Int),([]:List Ad))) λb1=>
 aC (hU b1) λr19=>
 some r19
def iH (p0:Ao) (p1:Int):Option Ao:=
 bC p0.t.Ac p1 λe1=>
 aC (eX p0 p1) λr2=>
 aC (dH p0 p1 (0:Int)) λr3=>
 aC (dH p0 p1 (3:Int)) λr4=>
 bC e1.Aa (0:Int) λe5=>
 aC (cS p0 e5) λr6=>
 bC e1.Aa r2 λe7=>
 aC (cS p0 e7) λr8=>
 aC (bO p0 p1 (0:Int)) λr9=>
 aC (bH p0 p1 (0:Int)) λr10=>
 aC (eU r4) λr11=>
 aC (fW p0 p1) λr12=>
 aC (eU r12) λr13=>
 aC (eP ([r10,r11,r13]:List Ad)) λr14=>
 aC (dO p0 r9 r14) λr15=>
 aC (eU r3) λr16=>
 aC (gF (⟨p0.t,p0.p,r15.An⟩:Ao) p1) λr17=>
 aC (eU r17) λr18=>
 aC (gV (⟨p0.t,p0.p,r15.An⟩:Ao) p1 r2) λr19=>
 aC (eP ([r19,r8]:List Ad)) λr20=>
 aC (eU r20) λr21=>
 aC (eN (⟨p0.t,p0.p,r15.An⟩:Ao) p1 (1:Int)) λr22=>
 aC (eU r22) λr23=>
 aC (eP ([r18,r21,r23]:List Ad)) λr24=>
 aC (hU ([r16,r24]:List Ad)) λr25=>
 aC (bO (⟨p0.t,p0.p,r15.An⟩:Ao) p1 (1:Int)) λr26=>
 aC (bH (⟨p0.t,p0.p,r15.An⟩:Ao) p1 (1:Int)) λr27=>
 aC (eU r6) λr28=>
 aC (eP ([r27,r28]:List Ad)) λr29=>
 aC (bH (⟨p0.t,p0.p,r15.An⟩:Ao) p1 (3:Int)) λr30=>
 aC (iX (⟨p0.t,p0.p,r15.An⟩:Ao) p1) λr31=>
 aC (eU r31) λr32=>
 aC (eP ([r30,r32]:List Ad)) λr33=>
 aC (bH (⟨p0.t,p0.p,r15.An⟩:Ao) p1 (2:Int)) λr34=>
 aC (eP ([r34,r25]:List Ad)) λr35=>
 aC (hU ([r29,r33,r35]:List Ad)) λr36=>
 aC (dO (⟨p0.t,p0.p,r15.An⟩:Ao) r26 r36) λr37=>
 aC (cS (⟨p0.t,p0.p,r37.An⟩:Ao) e1.A4) λr38=>
 aC (eP ([r4,r3,r38]:List Ad)) λr39=>
 aC (bO (⟨p0.t,p0.p,r37.An⟩:Ao) p1 (2:Int)) λr40=>
 aC (bH (⟨p0.t,p0.p,r37.An⟩:Ao) p1 (1:Int)) λr41=>
 aC (fW (⟨p0.t,p0.p,r37.An⟩:Ao) p1) λr42=>
 aC (eU r42) λr43=>
 aC (hU ([r4,r43]:List Ad)) λr44=>
 aC (eU r39) λr45=>
 aC (eP ([r41,r6,r44,r45]:List Ad)) λr46=>
 aC (bH (⟨p0.t,p0.p,r37.An⟩:Ao) p1 (2:Int)) λr47=>
 aC (gF (⟨p0.t,p0.p,r37.An⟩:Ao) p1) λr48=>
 aC (eP ([r47,r3,r48]:List Ad)) λr49=>
 aC (bH (⟨p0.t,p0.p,r37.An⟩:Ao) p1 (3:Int)) λr50=>
 aC (iX (⟨p0.t,p0.p,r37.An⟩:Ao) p1) λr51=>
 aC (eN (⟨p0.t,p0.p,r37.An⟩:Ao) p1 (0:Int)) λr52=>
 aC (eU r52) λr53=>
 aC (eP ([r50,r51,r53]:List Ad)) λr54=>
 aC (hU ([r46,r49,r54]:List Ad)) λr55=>
 aC (dO (⟨p0.t,p0.p,r37.An⟩:Ao) r40 r55) λr56=>
 aC (bH (⟨p0.t,p0.p,r56.An⟩:Ao) p1 (1:Int)) λr57=>
 aC (bH (⟨p0.t,p0.p,r56.An⟩:Ao) p1 (0:Int)) λr58=>
 aC (bH (⟨p0.t,p0.p,r56.An⟩:Ao) p1 (1:Int)) λr59=>
 aC (hU ([r58,r59]:List Ad)) λr60=>
 aC (eU r4) λr61=>
 aC (fW (⟨p0.t,p0.p,r56.An⟩:Ao) p1) λr62=>
 aC (eP ([r60,r61,r62]:List Ad)) λr63=>
 aC (dO (⟨p0.t,p0.p,r56.An⟩:Ao) r57 r63) λr64=>
 aC (
 aD (I64 (r2 - (1:Int))) <|
 aW (λ(k71,b72)=>
 if (0:Int)<=k71 then
 aD (I64 (k71+(1:Int))) <|
 bC e1.Aa (k71+(1:Int)) λe76=>
 aC (cS (⟨p0.t,p0.p,b72⟩:Ao) e76) λr77=>
 aC (eU r77) λr78=>
 aC (dH (⟨p0.t,p0.p,b72⟩:Ao) p1 (1:Int)) λr79=>
 aC (hU ([r78,r79]:List Ad)) λr80=>
 aC (bH (⟨p0.t,p0.p,b72⟩:Ao) p1 (2:Int)) λr81=>
 aC (gF (⟨p0.t,p0.p,b72⟩:Ao) p1) λr82=>
 aC (eU r82) λr83=>
 aC (gV (⟨p0.t,p0.p,b72⟩:Ao) p1 k71) λr84=>
 bC e1.Aa k71 λe85=>
 aC (cS (⟨p0.t,p0.p,b72⟩:Ao) e85) λr86=>
 aC (eP ([r81,r3,r83,r84,r86,r80]:List Ad)) λr87=>
 aC (eL (⟨p0.t,p0.p,b72⟩:Ao) p1 k71) λr88=>
 aC (bO (⟨p0.t,p0.p,b72⟩:Ao) p1 (1:Int)) λr89=>
 aC (bO (⟨p0.t,p0.p,b72⟩:Ao) p1 (2:Int)) λr90=>
 aC (hU ([r89,r90]:List Ad)) λr91=>
 aC (eL (⟨p0.t,p0.p,b72⟩:Ao) p1 k71) λr92=>
 aC (hU ([r92,r87]:List Ad)) λr93=>
 aC (eP ([r91,r93]:List Ad)) λr94=>
 aC (dO (⟨p0.t,p0.p,b72⟩:Ao) r88 r94) λr95=>
 aD (I64 (k71 - (1:Int))) <|
 some (.inl ((k71 - (1:Int)),r95.An))
 else
 aY (
 some b72)) ((r2 - (1:Int)),r64.An)) λb65=>
 aC (bH (⟨p0.t,p0.p,b65⟩:Ao) p1 (2:Int)) λr98=>
 aC (bO (⟨p0.t,p0.p,b65⟩:Ao) p1 (1:Int)) λr99=>
 aC (dO (⟨p0.t,p0.p,b65⟩:Ao) r98 r99) λr100=>
 aC (bH (⟨p0.t,p0.p,r100.An⟩:Ao) p1 (3:Int)) λr101=>
 aC (bO (⟨p0.t,p0.p,r100.An⟩:Ao) p1 (2:Int)) λr102=>
 aC (dO (⟨p0.t,p0.p,r100.An⟩:Ao) r101 r102) λr103=>
 aC (bO (⟨p0.t,p0.p,r103.An⟩:Ao) p1 (3:Int)) λr104=>
 aC (bO (⟨p0.t,p0.p,r103.An⟩:Ao) p1 (0:Int)) λr105=>
 aC (bH (⟨p0.t,p0.p,r103.An⟩:Ao) p1 (1:Int)) λr106=>
 aC (bH (⟨p0.t,p0.p,r103.An⟩:Ao) p1 (2:Int)) λr107=>
 aC (bH (⟨p0.t,p0.p,r103.An⟩:Ao) p1 (3:Int)) λr108=>
 aC (hU ([r105,r106,r107,r108]:List Ad)) λr109=>
 aC (dO (⟨p0.t,p0.p,r103.An⟩:Ao) r104 r109) λr110=>
 some (⟨p0.t,p0.p,r110.An⟩:Ao)
def jD (p0:Ao) (p1:Int):Option Ao:=
 bC p0.t.Ac p1 λe1=>
 aC (dH p0 p1 (2:Int)) λr2=>
 aC (bO p0 p1 (3:Int)) λr3=>
 aC (eU r3) λr4=>
 aC (
 aW (λ(i10,b11)=>
 if i10 < (e1.Aa.length:Int) then
 bC e1.Aa i10 λe14=>
 aD (I64 ((2:Int) * e14)) <|
 aD (I64 (((2:Int) * e14)+(1:Int))) <|
 aC (fA (((2:Int) * e14)+(1:Int))) λr17=>
 aD ((b11++([r17]:List Ad)).length<=1000000000) <|
 aD (I64 (i10+(1:Int))) <|
 some (.inl ((i10+(1:Int)),(b11++([r17]:List Ad))))
 else
 aY (
 some b11)) ((0:Int),([r2,r4]:List Ad))) λb5=>
 aC (
 aW (λ(i26,b27)=>
 if i26 < (e1.Ah.length:Int) then
 bC e1.Ah i26 λe30=>
 aD (I64 ((2:Int) * e30)) <|
 aD (I64 (((2:Int) * e30)+(1:Int))) <|
 aC (fA (((2:Int) * e30)+(1:Int))) λr33=>
 aD ((b27++([r33]:List Ad)).length<=1000000000) <|
 aD (I64 (i26+(1:Int))) <|
 some (.inl ((i26+(1:Int)),(b27++([r33]:List Ad))))
 else
 aY (
 some b27)) ((0:Int),b5)) λb21=>
 aC (
 aW (λ(o42,b43)=>
 if o42 < (p0.t.Ac.length:Int) then
 aC (pI p0.t o42 p1) λr46=>
 if ((decide (o42=p1))||(decide (r46 < (0:Int))))=true then
 aD (I64 (o42+(1:Int))) <|
 some (.inl ((o42+(1:Int)),b43))
 else
 aC (bO p0 o42 (3:Int)) λr50=>
 aC (
 aC (eX p0 o42) λr55=>
 if r46 < r55 then
 aC (eL p0 o42 r46) λr57=>
 aC (eU r57) λr58=>
 aC (eP ([r50,r58]:List Ad)) λr59=>
 some (r59.op,r59.var,r59.args)
 else
 some (r50.op,r50.var,r50.args)) λ(c51,c52,c53)=>
 aC (
 if o42 < p1 then
 aC (bO p0 o42 (4:Int)) λr65=>
 aC (hU ([(⟨c51,c52,c53⟩:Ad),r65]:List Ad)) λr66=>
 some (r66.op,r66.var,r66.args)
 else
 some (c51,c52,c53)) λ(c60,c61,c62)=>
 aC (eU (⟨c60,c61,c62⟩:Ad)) λr67=>
 aD ((b43++([r67]:List Ad)).length<=1000000000) <|
 aD (I64 (o42+(1:Int))) <|
 some (.inl ((o42+(1:Int)),(b43++([r67]:List Ad))))
 else
 aY (
 some b43)) ((0:Int),b21)) λb37=>
 aC (gG e1) λr71=>
 aC (
 aW (λ(i77,b78)=>
 if i77 < (r71.length:Int) then
 bC r71 i77 λe81=>
 aC (jV p0.t e81.el) λr82=>
 aD (I64 (p0.p.lies+r82)) <|
 aC (fA (p0.p.lies+r82)) λr84=>
 aC (
 bC r71 i77 λe89=>
 if e89.pos=(1:Int) then
 aC (eU r84) λr91=>
 some (r91.op,r91.var,r91.args)
 else
 some (r84.op,r84.var,r84.args)) λ(c85,c86,c87)=>
 bC p0.t.As r82 λe92=>
 aC (cS p0 e92) λr93=>
 aC (hU ([(⟨c85,c86,c87⟩:Ad),r93]:List Ad)) λr94=>
 aD ((b78++([r94]:List Ad)).length<=1000000000) <|
 aD (I64 (i77+(1:Int))) <|
 some (.inl ((i77+(1:Int)),(b78++([r94]:List Ad))))
 else
 aY (
 some b78)) ((0:Int),b37)) λb72=>
 aC (bO p0 p1 (4:Int)) λr98=>
 aC (eP b72) λr99=>
 aC (dO p0 r98 r99) λr100=>
 some (⟨p0.t,p0.p,r100.An⟩:Ao)
def kF (p0:Ao) (p1:Int):Option Ao:=
 aC (
 aW (λ(x8,b9,b10)=>
 if x8 < (p0.t.Ac.length:Int) then
 bC p0.t.Ac x8 λe13=>
 aC (gG e13) λr14=>
 aC (
 bC p0.t.Ae p1 λe17=>
 aC (oT r14 (⟨e17,(1:Int)⟩:Ag)) λr18=>
 if r18=true then
 aC (bO p0 x8 (4:Int)) λr20=>
 aD ((b9++([r20]:List Ad)).length<=1000000000) <|
 some (b9++([r20]:List Ad))
 else
 some b9) λb15=>
 bC p0.t.Ae p1 λe22=>
 aC (oT r14 (⟨e22,(2:Int)⟩:Ag)) λr23=>
 if r23=true then
 aC (bO p0 x8 (4:Int)) λr25=>
 aD ((b10++([r25]:List Ad)).length<=1000000000) <|
 aD (I64 (x8+(1:Int))) <|
 some (.inl ((x8+(1:Int)),b15,(b10++([r25]:List Ad))))
 else
 aD (I64 (x8+(1:Int))) <|
 some (.inl ((x8+(1:Int)),b15,b10))
 else
 aY (
 some (b9,b10))) ((0:Int),([]:List Ad),([]:List Ad))) λ(b1,b2)=>
 aD (I64 (p0.p.lies+p1)) <|
 aC (fA (p0.p.lies+p1)) λr31=>
 aC (hU b2) λr32=>
 aC (hU b1) λr33=>
 aC (eU r33) λr34=>
 aC (eP ([r31,r34]:List Ad)) λr35=>
 aC (hU ([r32,r35]:List Ad)) λr36=>
 aC (dO p0 r31 r36) λr37=>
 some (⟨p0.t,p0.p,r37.An⟩:Ao)
def lL (p0:Am):Option (Program×Int):=
 aC (rI p0) λr1=>
 if r1=(0:Int) then
 aC (iP p0) λr3=>
 if (2000:Int) < r3.all then
 some ((⟨([]:List BA),(0:Int),([]:List At)⟩:Program),(2:Int))
 else
 aC (
 aW (λ(x10,b11)=>
 if x10 < (p0.Ac.length:Int) then
 aC (jC (⟨p0,r3,b11⟩:Ao) x10) λr14=>
 aD (I64 (x10+(1:Int))) <|
 some (.inl ((x10+(1:Int)),r14.An))
 else
 aY (
 some b11)) ((0:Int),([]:List At))) λb5=>
 aC (
 aW (λ(x22,b23)=>
 if x22 < (p0.Ac.length:Int) then
 aC (iH (⟨p0,r3,b23⟩:Ao) x22) λr26=>
 aD (I64 (x22+(1:Int))) <|
 some (.inl ((x22+(1:Int)),r26.An))
 else
 aY (
 some b23)) ((0:Int),b5)) λb17=>
 aC (
 aW (λ(x34,b35)=>
 if x34 < (p0.Ac.length:Int) then
 aC (jD (⟨p0,r3,b35⟩:Ao) x34) λr38=>
 aD (I64 (x34+(1:Int))) <|
 some (.inl ((x34+(1:Int)),r38.An))
 else
 aY (
 some b35)) ((0:Int),b17)) λb29=>
 aC (
 aW (λ(x46,b47)=>
 if x46 < (p0.Ac.length:Int) then
 aC (bH (⟨p0,r3,b47⟩:Ao) x46 (0:Int)) λr50=>
 aC (bO (⟨p0,r3,b47⟩:Ao) x46 (0:Int)) λr51=>
 aC (bO (⟨p0,r3,b47⟩:Ao) x46 (4:Int)) λr52=>
 aC (hU ([r51,r52]:List Ad)) λr53=>
 aC (dO (⟨p0,r3,b47⟩:Ao) r50 r53) λr54=>
 aD (I64 (x46+(1:Int))) <|
 some (.inl ((x46+(1:Int)),r54.An))
 else
 aY (
 some b47)) ((0:Int),b29)) λb41=>
 aC (
 aW (λ(k62,b63)=>
 if k62 < (p0.Ae.length:Int) then
 aC (kF (⟨p0,r3,b63⟩:Ao) k62) λr66=>
 aD (I64 (k62+(1:Int))) <|
 some (.inl ((k62+(1:Int)),r66.An))
 else
 aY (
 some b63)) ((0:Int),b41)) λb57=>
 aC (rG p0) λ(r70,r71)=>
 some ((⟨r70,r71,b57⟩:Program),(0:Int))
 else
 some ((⟨([]:List BA),(0:Int),([]:List At)⟩:Program),r1)
def nG (p0:(List Int)) (p1:Int):Option Int:=
 eE (
 aW (λx3=>
 if x3 < (p0.length:Int) then
 bC p0 x3 λe6=>
 if e6=p1 then
 aY (
 aY (
 some x3))
 else
 aD (I64 (x3+(1:Int))) <|
 some (.inl (x3+(1:Int)))
 else
 aY (
 some (.inl ()))) (0:Int)) λ_=>
 some (-1:Int)
def kO (p0:BA) (p1:(List Int)):Option BA:=
 aC (
 aW (λ(word5,x6)=>
 if x6 < (p1.length:Int) then
 bC p1 x6 λe9=>
 aC (nR e9) λr10=>
 aD ((⟨#[32]⟩:BA).size+r10.size<=9223372036854775807) <|
 aD (word5.size+((⟨#[32]⟩:BA)++r10).size<=9223372036854775807) <|
 aD (I64 (x6+(1:Int))) <|
 some (.inl ((word5++((⟨#[32]⟩:BA)++r10)),(x6+(1:Int))))
 else
 aY (
 some word5)) (p0,(0:Int))) λword1=>
 some word1
def uN (p0:Int):Option Ad:=
 some (⟨(3:Int),p0,([]:List Ad)⟩:Ad)
def gU (p0:Am) (p1:Int) (p2:Int):Option Ad:=
 aC (iP p0) λr1=>
 bC r1.states p1 λe2=>
 aD (I64 (e2+p2)) <|
 aC (uN (e2+p2)) λr4=>
 some r4
def rF (p0:(List Ad)):Option Ad:=
 some (⟨(6:Int),(0:Int),p0⟩:Ad)
def lG (p0:Am) (p1:Int):Option Ad:=
 aC (gU p0 p1 (0:Int)) λr1=>
 aC (gU p0 p1 (1:Int)) λr2=>
 aC (gU p0 p1 (2:Int)) λr3=>
 aC (gU p0 p1 (3:Int)) λr4=>
 aC (rF ([r1,r2,r3,r4]:List Ad)) λr5=>
 some r5
def kU (p0:Ad):Option Ad:=
 some (⟨(4:Int),(0:Int),([p0]:List Ad)⟩:Ad)
def nO (p0:(List Ad)):Option Ad:=
 some (⟨(5:Int),(0:Int),p0⟩:Ad)
def jU (p0:Am) (p1:Int) (p2:Int):Option Ad:=
 aD (I64 (p2+(1:Int))) <|
 bC p0.Ac p1 λe2=>
 if (p2+(1:Int))=(e2.Aa.length:Int) then
 aC (lG p0 p1) λr4=>
 some r4
 else
 aC (lG p0 p1) λr5=>
 aD (I64 ((4:Int)+p2)) <|
 aC (gU p0 p1 ((4:Int)+p2)) λr7=>
 aC (kU r7) λr8=>
 aC (nO ([r5,r8]:List Ad)) λr9=>
 some r9
def rE (p0:Am):Option ((List Af)):=
 aC (
 aW (λ(x6,b7)=>
 if x6 < (p0.Ac.length:Int) then
 aC (
 bC p0.Ac x6 λe12=>
 aD (I64 (x6+(1:Int))) <|
 aW (λ(b17,b18)=>
 if b17 < (p0.Ac.length:Int) then
 aC (
 aW (λ(x26,b27)=>
 if x26 < (e12.Aa.length:Int) then
 bC e12.Aa x26 λe30=>
 bC p0.Ac b17 λe31=>
 aC (nG e31.Aa e30) λr32=>
 if (0:Int)<=r32 then
 aC (kO (⟨#[112,97,116,104]⟩:BA) ([x6,b17,e30]:List Int)) λr34=>
 aC (jU p0 x6 x26) λr35=>
 aC (jU p0 b17 r32) λr36=>
 aC (nO ([r35,r36]:List Ad)) λr37=>
 aC (kU r37) λr38=>
 aD ((b27++([(⟨r34,r38⟩:Af)]:List Af)).length<=1000000000) <|
 aD (I64 (x26+(1:Int))) <|
 some (.inl ((x26+(1:Int)),(b27++([(⟨r34,r38⟩:Af)]:List Af))))
 else
 aD (I64 (x26+(1:Int))) <|
 some (.inl ((x26+(1:Int)),b27))
 else
 aY (
 some b27)) ((0:Int),b18)) λb21=>
 aD (I64 (b17+(1:Int))) <|
 some (.inl ((b17+(1:Int)),b21))
 else
 aY (
 some b18)) ((x6+(1:Int)),b7)) λb10=>
 aD (I64 (x6+(1:Int))) <|
 some (.inl ((x6+(1:Int)),b10))
 else
 aY (
 some b7)) ((0:Int),([]:List Af))) λb1=>
 aC (
 aW (λ(x52,b53)=>
 if x52 < (p0.Ac.length:Int) then
 aC (
 bC p0.Ac x52 λe58=>
 aW (λ(x62,b63)=>
 if x62 < (p0.Ac.length:Int) then
 aC (
 bC p0.Ac x62 λe68=>
 aW (λ(x72,b73)=>
 if x72 < (e58.Ah.length:Int) then
 bC e58.Ah x72 λe76=>
 aC (nG e68.Aa e76) λr77=>
 aC (
 if x52=x62 then
 some false
 else
 aC (jM e58 e68) λr81=>
 if (!(r81))=true then
 some (decide ((0:Int)<=r77))
 else
 some false) λx78=>
 if x78=true then
 aC (kO (⟨#[111,118,101,114]⟩:BA) ([x52,x62,e76]:List Int)) λr84=>
 aC (lG p0 x52) λr85=>
 aC (jU p0 x62 r77) λr86=>
 aC (nO ([r85,r86]:List Ad)) λr87=>
 aC (kU r87) λr88=>
 aD ((b73++([(⟨r84,r88⟩:Af)]:List Af)).length<=1000000000) <|
 aD (I64 (x72+(1:Int))) <|
 some (.inl ((x72+(1:Int)),(b73++([(⟨r84,r88⟩:Af)]:List Af))))
 else
 aD (I64 (x72+(1:Int))) <|
 some (.inl ((x72+(1:Int)),b73))
 else
 aY (
 some b73)) ((0:Int),b63)) λb66=>
 aD (I64 (x62+(1:Int))) <|
 some (.inl ((x62+(1:Int)),b66))
 else
 aY (
 some b63)) ((0:Int),b53)) λb56=>
 aD (I64 (x52+(1:Int))) <|
 some (.inl ((x52+(1:Int)),b56))
 else
 aY (
 some b53)) ((0:Int),b1)) λb47=>
 some b47
def wG (p0:(List Ag)) (p1:Ag):Option Bool:=
 eE (
 aW (λx3=>
 if x3 < (p0.length:Int) then
 bC p0 x3 λe6=>
 aD (Ag.ok e6/\Ag.ok p1) <|
 if e6=p1 then
 aY (
 aY (
 some true))
 else
 aD (I64 (x3+(1:Int))) <|
 some (.inl (x3+(1:Int)))
 else
 aY (
 some (.inl ()))) (0:Int)) λ_=>
 some false
def oS (p0:Am) (p1:Int) (p2:Ag):Option Ad:=
 bC p0.Ac p1 λe1=>
 aC (jV p0 p2.el) λr2=>
 bC p0.As r2 λe3=>
 aC (nG e1.Aa e3) λr4=>
 aC (
 aC (wG e1.Ar p2) λr7=>
 if r7=true then
 some true
 else
 aC (wG e1.Az p2) λr9=>
 if r9=true then
 some true
 else
 some (decide (r4 < (0:Int)))) λx5=>
 if x5=true then
 aC (lG p0 p1) λr12=>
 some r12
 else
 aC (jU p0 p1 r4) λr13=>
 some r13
def tD (p0:Am):Option ((List Af)):=
 aC (
 aW (λ(x6,b7)=>
 if x6 < (p0.Ac.length:Int) then
 aC (
 bC p0.Ac x6 λe12=>
 aC (gG e12) λr13=>
 aW (λ(x17,b18)=>
 if x17 < (r13.length:Int) then
 bC r13 x17 λe21=>
 aC (jV p0 e21.el) λr22=>
 aC (iP p0) λr23=>
 aD (I64 (r23.lies+r22)) <|
 aC (uN (r23.lies+r22)) λr25=>
 aC (
 if e21.pos=(1:Int) then
 aC (kU r25) λr31=>
 some (r31.op,r31.var,r31.args)
 else
 some (r25.op,r25.var,r25.args)) λ(c26,c27,c28)=>
 aC (kO (⟨#[108,105,101]⟩:BA) ([x6,r22]:List Int)) λr32=>
 aC (oS p0 x6 e21) λr33=>
 aC (kU r33) λr34=>
 aC (rF ([r34,(⟨c26,c27,c28⟩:Ad)]:List Ad)) λr35=>
 aD ((b18++([(⟨r32,r35⟩:Af)]:List Af)).length<=1000000000) <|
 aD (I64 (x17+(1:Int))) <|
 some (.inl ((x17+(1:Int)),(b18++([(⟨r32,r35⟩:Af)]:List Af))))
 else
 aY (
 some b18)) ((0:Int),b7)) λb10=>
 aD (I64 (x6+(1:Int))) <|
 some (.inl ((x6+(1:Int)),b10))
 else
 aY (
 some b7)) ((0:Int),([]:List Af))) λb1=>
 some b1
def pG (p0:Am) (p1:Int):Option Ad:=
 bC p0.Ac p1 λe1=>
 aC (
 aW (λ(x7,b8)=>
 if x7 < (e1.Aa.length:Int) then
 bC e1.Aa x7 λe11=>
 aD (I64 ((2:Int) * e11)) <|
 aC (uN ((2:Int) * e11)) λr13=>
 aD ((b8++([r13]:List Ad)).length<=1000000000) <|
 aD (I64 (x7+(1:Int))) <|
 some (.inl ((x7+(1:Int)),(b8++([r13]:List Ad))))
 else
 aY (
 some b8)) ((0:Int),([]:List Ad))) λb2=>
 aC (
 aW (λ(x22,b23)=>
 if x22 < (e1.Ah.length:Int) then
 bC e1.Ah x22 λe26=>
 aD (I64 ((2:Int) * e26)) <|
 aC (uN ((2:Int) * e26)) λr28=>
 aD ((b23++([r28]:List Ad)).length<=1000000000) <|
 aD (I64 (x22+(1:Int))) <|
 some (.inl ((x22+(1:Int)),(b23++([r28]:List Ad))))
 else
 aY (
 some b23)) ((0:Int),b2)) λb17=>
 aC (
 aC (gG e1) λr34=>
 aW (λ(x38,b39)=>
 if x38 < (r34.length:Int) then
 bC r34 x38 λe42=>
 aC (iP p0) λr43=>
 aC (jV p0 e42.el) λr44=>
 aD (I64 ((2:Int) * r44)) <|
 aD (I64 (r43.Ae+((2:Int) * r44))) <|
 aD (I64 ((r43.Ae+((2:Int) * r44))+e42.pos)) <|
 aD (I64 (((r43.Ae+((2:Int) * r44))+e42.pos) - (1:Int))) <|
 aC (uN (((r43.Ae+((2:Int) * r44))+e42.pos) - (1:Int))) λr49=>
 aD ((b39++([r49]:List Ad)).length<=1000000000) <|
 aD (I64 (x38+(1:Int))) <|
 some (.inl ((x38+(1:Int)),(b39++([r49]:List Ad))))
 else
 aY (
 some b39)) ((0:Int),b17)) λb32=>
 aC (gU p0 p1 (1:Int)) λr53=>
 aC (kU r53) λr54=>
 aC (nO b32) λr55=>
 aC (rF ([r54,r55]:List Ad)) λr56=>
 some r56
def wF (p0:Am) (p1:Int):Option Ad:=
 aC (
 aW (λ(a6,b7)=>
 if a6 < (4:Int) then
 aC (
 aW (λ(b15,b16)=>
 if b15 < a6 then
 aC (gU p0 p1 a6) λr19=>
 aC (gU p0 p1 b15) λr20=>
 aC (nO ([r19,r20]:List Ad)) λr21=>
 aC (kU r21) λr22=>
 aD ((b16++([r22]:List Ad)).length<=1000000000) <|
 aD (I64 (b15+(1:Int))) <|
 some (.inl ((b15+(1:Int)),(b16++([r22]:List Ad))))
 else
 aY (
 some b16)) ((0:Int),b7)) λb10=>
 aD (I64 (a6+(1:Int))) <|
 some (.inl ((a6+(1:Int)),b10))
 else
 aY (
 some b7)) ((0:Int),([]:List Ad))) λb1=>
 aC (nO b1) λr28=>
 some r28
def wE (p0:Am) (p1:Int):Option Ad:=
 aC (
 aW (λ(k6,b7)=>
 aD (I64 (k6+(1:Int))) <|
 bC p0.Ac p1 λe10=>
 if (k6+(1:Int)) < (e10.Aa.length:Int) then
 aD (I64 ((4:Int)+k6)) <|
 aC (gU p0 p1 ((4:Int)+k6)) λr13=>
 aC (kU r13) λr14=>
 aD (I64 ((3:Int)+k6)) <|
 aC (gU p0 p1 ((3:Int)+k6)) λr16=>
 aC (rF ([r14,r16]:List Ad)) λr17=>
 aD ((b7++([r17]:List Ad)).length<=1000000000) <|
 aD (I64 (k6+(1:Int))) <|
 some (.inl ((k6+(1:Int)),(b7++([r17]:List Ad))))
 else
 aY (
 some b7)) ((1:Int),([]:List Ad))) λb1=>
 aC (nO b1) λr21=>
 some r21
def wH (p0:Am):Option ((List Af)×Int):=
 aC (lL p0) λ(r2,r3)=>
 if r3=(0:Int) then
 aC (rE p0) λr5=>
 aC (tD p0) λr6=>
 aD ((r5++r6).length<=1000000000) <|
 aC (
 aW (λ(x13,b14)=>
 if x13 < (p0.Ac.length:Int) then
 aC (kO (⟨#[112,114,111,118,101,100]⟩:BA) ([x13]:List Int)) λr17=>
 aC (pG p0 x13) λr18=>
 aD ((b14++([(⟨r17,r18⟩:Af)]:List Af)).length<=1000000000) <|
 aD (I64 (x13+(1:Int))) <|
 some (.inl ((x13+(1:Int)),(b14++([(⟨r17,r18⟩:Af)]:List Af))))
 else
 aY (
 some b14)) ((0:Int),(r5++r6))) λb8=>
 aC (
 aW (λ(x27,b28)=>
 if x27 < (p0.Ac.length:Int) then
 aC (kO (⟨#[111,110,101]⟩:BA) ([x27]:List Int)) λr31=>
 aC (wF p0 x27) λr32=>
 aD ((b28++([(⟨r31,r32⟩:Af)]:List Af)).length<=1000000000) <|
 aD (I64 (x27+(1:Int))) <|
 some (.inl ((x27+(1:Int)),(b28++([(⟨r31,r32⟩:Af)]:List Af))))
 else
 aY (
 some b28)) ((0:Int),b8)) λb22=>
 aC (
 aW (λ(x41,b42)=>
 if x41 < (p0.Ac.length:Int) then
 aC (kO (⟨#[114,101,108]⟩:BA) ([x41]:List Int)) λr45=>
 aC (wE p0 x41) λr46=>
 aD ((b42++([(⟨r45,r46⟩:Af)]:List Af)).length<=1000000000) <|
 aD (I64 (x41+(1:Int))) <|
 some (.inl ((x41+(1:Int)),(b42++([(⟨r45,r46⟩:Af)]:List Af))))
 else
 aY (
 some b42)) ((0:Int),b22)) λb36=>
 some (b36,(0:Int))
 else
 some (([]:List Af),r3)
def oM (p0:(List Int)) (p1:Int):Option ((List Bool)):=
 aC (
 aW (λ(i6,b7)=>
 if i6 < p1 then
 if (0:Int) < (p0.length:Int) then
 aD (¬ (64:Int)=0) <|
 aD (¬ (p0.length:Int)=0) <|
 bC p0 ((IntKind.i64.wrap (i6.tdiv (64:Int))).tmod (p0.length:Int)) λe15=>
 aD (¬ (64:Int)=0) <|
 aD (0<=(i6.tmod (64:Int))) <|
 aD ((b7++([decide ((IntKind.u64.wrap (BitVec.ofInt IntKind.u64.bits (e15.fdiv (2 ^ (min (i6.tmod (64:Int)).toNat IntKind.u64.bits))) &&& BitVec.ofInt IntKind.u64.bits (1:Int)).toNat)=(1:Int))]:List Bool)).length<=1000000000) <|
 aD (I64 (i6+(1:Int))) <|
 some (.inl ((i6+(1:Int)),(b7++([decide ((IntKind.u64.wrap (BitVec.ofInt IntKind.u64.bits (e15.fdiv (2 ^ (min (i6.tmod (64:Int)).toNat IntKind.u64.bits))) &&& BitVec.ofInt IntKind.u64.bits (1:Int)).toNat)=(1:Int))]:List Bool))))
 else
 aD ((b7++([false]:List Bool)).length<=1000000000) <|
 aD (I64 (i6+(1:Int))) <|
 some (.inl ((i6+(1:Int)),(b7++([false]:List Bool))))
 else
 aY (
 some b7)) ((0:Int),([]:List Bool))) λb1=>
 some b1
def mI:Nat->Ad->Option Int
 | 0,_=>none
 | fu+1,p0=>
 aC (
 aW (λ(n5,i6)=>
 if i6 < (p0.args.length:Int) then
 bC p0.args i6 λe9=>
 aC ((mI fu) e9) λr10=>
 aD (I64 (n5+r10)) <|
 aD (I64 (i6+(1:Int))) <|
 some (.inl ((n5+r10),(i6+(1:Int))))
 else
 aY (
 some n5)) ((1:Int),(0:Int))) λn1=>
 some n1
def xP (p0:Ad):Option Int:=mI eR p0
def lM:Nat->Ad->Option Int
 | 0,_=>none
 | fu+1,p0=>
 aC (
 aW (λ(d5,i6)=>
 if i6 < (p0.args.length:Int) then
 bC p0.args i6 λe9=>
 aC ((lM fu) e9) λr10=>
 aD (I64 (i6+(1:Int))) <|
 some (.inl ((max d5 r10),(i6+(1:Int))))
 else
 aY (
 some d5)) ((0:Int),(0:Int))) λd1=>
 aD (I64 (d1+(1:Int))) <|
 some (d1+(1:Int))
def uP (p0:Ad):Option Int:=lM eR p0
def lH:Nat->Ad->Int->Option Bool
 | 0,_,_=>none
 | fu+1,p0,p1=>
 eE (
 aC (
 if p0.op=(1:Int) then
 some (decide (p0.op=(1:Int)))
 else
 some (decide (p0.op=(2:Int)))) λx2=>
 if x2=true then
 aY (
 some ((decide (p0.var=(0:Int)))&&(decide ((p0.args.length:Int)=(0:Int)))))
 else
 if p0.op=(3:Int) then
 aY (
 some ((decide ((0:Int)<=p0.var))&&((decide (p0.var < p1))&&(decide ((p0.args.length:Int)=(0:Int))))))
 else
 if p0.op=(4:Int) then
 if (p0.args.length:Int)=(1:Int) then
 some (.inl ())
 else
 aY (
 some false)
 else
 if p0.op=(5:Int) then
 some (.inl ())
 else
 if p0.op=(6:Int) then
 some (.inl ())
 else
 aY (
 some false)) λ_=>
 eE (
 aW (λi20=>
 if i20 < (p0.args.length:Int) then
 bC p0.args i20 λe23=>
 aC ((lH fu) e23 p1) λr24=>
 if (!(r24))=true then
 aY (
 aY (
 some false))
 else
 aD (I64 (i20+(1:Int))) <|
 some (.inl (i20+(1:Int)))
 else
 aY (
 some (.inl ()))) (0:Int)) λ_=>
 some (decide (p0.var=(0:Int)))
def xO (p0:Ad) (p1:Int):Option Bool:=lH eR p0 p1
def rH (p0:Ad) (p1:Int):Option Bool:=
 aC (
 aC (xP p0) λr3=>
 if r3<=(20000:Int) then
 aC (uP p0) λr5=>
 if r5<=(12:Int) then
 aC (xO p0 p1) λr7=>
 some r7
 else
 some false
 else
 some false) λx1=>
 some x1
def kI:Nat->Ad->(List Bool)->Option Bool
 | 0,_,_=>none
 | fu+1,p0,p1=>
 eE (
 if p0.op=(2:Int) then
 aY (
 some true)
 else
 if p0.op=(3:Int) then
 aC (
 if (0:Int)<=p0.var then
 if p0.var < (p1.length:Int) then
 bC p1 p0.var λe9=>
 some e9
 else
 some false
 else
 some false) λx5=>
 aY (
 some x5)
 else
 if p0.op=(4:Int) then
 aC (
 if (0:Int) < (p0.args.length:Int) then
 bC p0.args (0:Int) λe15=>
 aC ((kI fu) e15 p1) λr16=>
 some (!(r16))
 else
 some false) λx12=>
 aY (
 some x12)
 else
 aC (
 if p0.op=(5:Int) then
 some (decide (p0.op=(5:Int)))
 else
 some (decide (p0.op=(6:Int)))) λx18=>
 if x18=true then
 eE (
 aW (λi24=>
 if i24 < (p0.args.length:Int) then
 bC p0.args i24 λe27=>
 aC ((kI fu) e27 p1) λr28=>
 if ((r28 == (decide (p0.op=(6:Int)))))=true then
 aY (
 aY (
 aY (
 some (decide (p0.op=(6:Int))))))
 else
 aD (I64 (i24+(1:Int))) <|
 some (.inl (i24+(1:Int)))
 else
 aY (
 some (.inl ()))) (0:Int)) λ_=>
 aY (
 some (decide (p0.op=(5:Int))))
 else
 some (.inl ())) λ_=>
 some false
def tE (p0:Ad) (p1:(List Bool)):Option Bool:=kI eR p0 p1
def mM (p0:Am) (p1:(List Int)):Option Bool:=
 aC (
 aC (rL p0) λr3=>
 if (!(r3))=true then
 some true
 else
 some (decide ((100:Int) < (p1.length:Int)))) λx1=>
 if x1=true then
 aC (rM) λr6=>
 some r6
 else
 aC (qM p0) λ(r8,r9)=>
 aC (wH p0) λ(r11,r12)=>
 if ((!(decide (r9=r12)))||(!(decide ((r8.length:Int)=(r11.length:Int)))))=true then
 some false
 else
 aC (
 if r9=(0:Int) then
 aC (iP p0) λr18=>
 some r18.all
 else
 some (0:Int)) λn15=>
 aC (oM p1 n15) λr19=>
 eE (
 aW (λx22=>
 if x22 < (r8.length:Int) then
 aC (
 bC r8 x22 λe27=>
 bC r11 x22 λe28=>
 if e27.name=e28.name then
 bC r8 x22 λe30=>
 aC (rH e30.expr n15) λr31=>
 if (!(r31))=true then
 some true
 else
 bC r8 x22 λe33=>
 aC (tE e33.expr r19) λr34=>
 bC r11 x22 λe35=>
 aC (tE e35.expr r19) λr36=>
 some (!((r34 == r36)))
 else
 some true) λx25=>
 if x25=true then
 aY (
 aY (
 some false))
 else
 aD (I64 (x22+(1:Int))) <|
 some (.inl (x22+(1:Int)))
 else
 aY (
 some (.inl ()))) (0:Int)) λ_=>
 aC (rM) λr42=>
 some r42
@[simp] theorem aB {α:Type} {p:Prop} [Decidable p] {k:Option α} (h:p):aD p k=k:=if_pos h
@[simp] theorem aA {α β:Type} (a:α) (k:α->Option β):aC (some a) k=k a:=rfl
@[simp] theorem qT {α β:Type} (a:α) (k:α->Option β):eE (some (.inl a)) k=k a:=rfl
@[simp] theorem lD {α β:Type} (b:β) (k:α->Option β):eE (some (.inr b)) k=some b:=rfl
@[simp] theorem eV {α β:Type} (b:β):(aY (some b):Option (α ⊕ β))=some (.inr b):=rfl
theorem aR {α β:Type} {l:List α} {i:Nat} {e:α} {k:α->Option β} (h:l[i]?=some e):bC l (i:Int) k=k e:=by simp [bC,h]
theorem qLH {α β:Type} {l:List α} {i:Int} {e:α} {k:α->Option β} (h0:0<=i) (h:l[i.toNat]?=some e):bC l i k=k e:=by simp [bC,h0,h]
@[simp] theorem ite_bindM {α β:Type} {p:Prop} [Decidable p] (a b:α) (k:α->Option β):aC (if p then some a else some b) k=k (if p then a else b):=by split<;>rfl
theorem mW {α β:Type} {p:Prop} [Decidable p] (a b:Option α) (k:α->Option β):aC (if p then a else b) k=if p then aC a k else aC b k:=by split<;>rfl
theorem qLC {α:Type} {p:Prop} [Decidable p] (a b:α):(if p then some a else some b)=some (if p then a else b):=by split<;>rfl
theorem qUN {p:Prop} [Decidable p] {a b:Bool}:((if p then a else b)=true)=((p/\a=true)\/(¬ p/\b=true)):=by split<;>simp_all
variable {σ ρ:Type}
theorem qTS {f:σ->Option (σ ⊕ ρ)} (B:Nat->σ) {o:ρ}:∀ (n k:Nat),(∀ i,k<=i->i < k+n->f (B i)=some (.inl (B (i+1))))->f (B (k+n))=some (.inr o)->oB f (n+1) (B k)=some o
 | 0,k,_,he=>by simp only [Nat.add_zero] at he;simp [oB,he]
 | n+1,k,hf,he=>by
  simp only [oB];rw [hf k (zQW _) (by omega)];exact qTS B n (k+1) (λi h1 h2=>hf i (by omega) (by omega)) (by rw [show k+1+n=k+(n+1) by omega];exact he)
theorem lU {f:σ->Option (σ ⊕ ρ)} (B:Nat->σ) (n:Nat) {o:ρ} {s:σ} (hs:s=B 0) (hn:n<=9223372036854775807) (hf:∀ i,i < n->f (B i)=some (.inl (B (i+1)))) (he:f (B n)=some (.inr o)):aW f s=some o:=by
 subst hs;exact wR (qTS B n 0 (λi _ h=>hf i (by omega)) (by rw [Nat.zero_add];exact he)) (by unfold eR;omega)
theorem qTK {f : Int -> Option (Int ⊕ ρ)} (n : Nat) (c : Nat -> Option ρ) (o : ρ) (hn : n <= 9223372036854775807) (hf : ∀ i, i < n -> f (i : Int) = match c i with
  | some r => some (.inr r)
  | none => some (.inl ((i : Int) + 1))) (he : f (n : Int) = some (.inr o)) : aW f 0 = some (((List.range n).findSome? c).getD o) := by
 cases h:(List.range n).findSome? c with
 | none=>
  rw [List.findSome?_eq_none_iff] at h;refine lU (λi=>(i:Int)) n rfl hn (λi hi=>?_) he;rw [hf i hi,h i (List.mem_range.2 hi)];rfl
 | some r=>
  rw [List.findSome?_eq_some_iff] at h;obtain⟨l1,a,l2,h1,h2,h3⟩:=h
  have ha:l1.length=a/\a < n:=by
   have hlen:l1.length < (List.range n).length:=by rw [h1];simp
   have:(List.range n)[l1.length]?=some a:=by rw [h1];simp
   simp only [List.length_range] at hlen;simp [hlen] at this;exact⟨this,by omega⟩
  obtain⟨ha1,ha2⟩:=ha;refine lU (λi=>(i:Int)) a rfl (by omega) (λi hi=>?_) ?_
  ·have hm:i∈l1:=by
    have:(List.range n)[i]?=some i:=List.getElem?_range (by omega);rw [h1,List.getElem?_append_left (by omega)] at this;exact zQM this
   rw [hf i (by omega),h3 i hm];rfl
  rw [hf a ha2,h2];rfl
theorem qLJ {α β:Type} (l:List α) (c:Nat->Option β) (d:α->Option β) (h:∀ (i:Nat) (e:α),l[i]?=some e->c i=d e):(List.range l.length).findSome? c=l.findSome? d:=by
 induction l generalizing c with
 | nil=>rfl
 | cons x r ih=>
  rw [List.length_cons,List.range_succ_eq_map,List.findSome?_cons,List.findSome?_map,List.findSome?_cons,h 0 x rfl]
  cases d x with
  | some b=>rfl
  | none=>exact ih (c ∘ Nat.succ) λi e he=>h (i+1) e (by simpa using he)
theorem qZX {α : Type} {f : Int -> Option (Int ⊕ ρ)} (l : List α) (d : α -> Option ρ) (o : ρ) (hn : l.length <= 9223372036854775807) (hf : ∀ (i : Nat) (e : α), l[i]? = some e -> f (i : Int) = match d e with
  | some r => some (.inr r)
  | none => some (.inl ((i : Int) + 1))) (he : f (l.length : Int) = some (.inr o)) : aW f 0 = some ((l.findSome? d).getD o) := by
 rw [qTK l.length (λi=>(l[i]?).bind d) o hn (λi hi=>?_) he,qLJ l _ d (λi e he=>by simp [he])];rw [hf i l[i] (by simp),zQR hi];rfl
theorem qEY {α β:Type} (l:List α) (c:α->Bool) (v:β):l.findSome? (λe=>if c e=true then some v else none)=if l.any c=true then some v else none:=by
 induction l with
 | nil=>rfl
 | cons x r ih=>
  rw [List.findSome?_cons,List.any_cons,ih];cases c x<;>simp
theorem kW {α:Type} {f:Int->Option (Int ⊕ ρ)} (l:List α) (c:α->Bool) (v o:ρ) (hn:l.length<=9223372036854775807) (hf:∀ (i:Nat) (e:α),l[i]?=some e->f (i:Int)=if c e=true then some (.inr v) else some (.inl ((i:Int)+1))) (he:f (l.length:Int)=some (.inr o)):aW f 0=some (if l.any c=true then v else o):=by
 rw [qZX l (λe=>if c e=true then some v else none) o hn (λi e h=>by rw [hf i e h];cases c e<;>simp) he,qEY];split<;>rfl
theorem qQ {f:Int->Option (Int ⊕ ρ)} (n:Nat) (c:Nat->Bool) (v o:ρ) (hn:n<=9223372036854775807) (hf:∀ i,i < n->f (i:Int)=if c i=true then some (.inr v) else some (.inl ((i:Int)+1))) (he:f (n:Int)=some (.inr o)):aW f 0=some (if (List.range n).any c=true then v else o):=by
 rw [qTK n (λe=>if c e=true then some v else none) o hn (λi h=>by rw [hf i h];cases c i<;>simp) he,qEY];split<;>rfl
theorem wQ {α:Type} {f:Int->Option (Int ⊕ ρ)} (l:List α) (c:α->Bool) (w:Nat->ρ) (o:ρ) (hn:l.length<=9223372036854775807) (hf:∀ (i:Nat) (e:α),l[i]?=some e->f (i:Int)=if c e=true then some (.inr (w i)) else some (.inl ((i:Int)+1))) (he:f (l.length:Int)=some (.inr o)):aW f 0=some (match l.findIdx? c with|some i=>w i|none=>o):=by
 cases h:l.findIdx? c with
 | none=>
  rw [List.findIdx?_eq_none_iff] at h;refine lU (λi=>(i:Int)) l.length rfl hn (λi hi=>?_) he;rw [hf i l[i] (by simp),if_neg (by rw [h l[i] (by simp)];simp)];rfl
 | some k=>
  rw [List.findIdx?_eq_some_iff_getElem] at h;obtain⟨hk,h1,h2⟩:=h;refine lU (λi=>(i:Int)) k rfl (by omega) (λi hi=>?_) ?_
  ·have hl : i < l.length := by omega
   have:=h2 i hi;rw [hf i l[i] (by simp),if_neg (by simpa using this)];rfl
  rw [hf k l[k] (by simp),if_pos h1]
theorem mR {β:Type} {f:Int×β->Option ((Int×β) ⊕ ρ)} (n:Nat) (B:Nat->β) {o:ρ} {b:β} (hb:b=B 0) (hn:n<=9223372036854775807) (hf:∀ i,i < n->f ((i:Int),B i)=some (.inl ((i:Int)+1,B (i+1)))) (he:f ((n:Int),B n)=some (.inr o)):aW f (0,b)=some o:=
 lU (λi=>((i:Int),B i)) n (by rw [hb];rfl) hn (λi hi=>by rw [hf i hi];rfl) he
theorem qOG {β:Type} {f:Int×β->Option ((Int×β) ⊕ ρ)} (n:Nat) (B:Nat->β) (c:Nat->Bool) (v o:ρ) {b:β} (hb:b=B 0) (hn:n<=9223372036854775807) (hf:∀ i,i < n->(∀ j,j < i->c j=false)->f ((i:Int),B i)=if c i=true then some (.inr v) else some (.inl ((i:Int)+1,B (i+1)))) (he:(∀ j,j < n->c j=false)->f ((n:Int),B n)=some (.inr o)):aW f (0,b)=some (if (List.range n).any c=true then v else o):=by
 cases h:(List.range n).findIdx? c with
 | none=>
  rw [List.findIdx?_eq_none_iff] at h;have hall:∀ j,j < n->c j=false:=λj hj=>by simpa using h j (List.mem_range.2 hj)
  have hno:¬ (List.range n).any c=true:=by
   rw [zQU];rintro⟨j,hj,hc⟩;rw [hall j (List.mem_range.1 hj)] at hc;cases hc
  rw [if_neg hno];exact mR n B hb hn (λi hi=>by rw [hf i hi (λj hj=>hall j (by omega)),hall i hi];rfl) (he hall)
 | some k=>
  rw [List.findIdx?_eq_some_iff_getElem] at h;obtain⟨hk,h1,h2⟩:=h;simp only [List.length_range] at hk;simp only [List.getElem_range] at h1;have hb':∀ j,j < k->c j=false:=λj hj=>by have:=h2 j hj;simpa using this
  have hyes:(List.range n).any c=true:=zQU.2 ⟨k,List.mem_range.2 hk,h1⟩;rw [if_pos hyes];exact mR k B hb (by omega) (λi hi=>by rw [hf i (by omega) (λj hj=>hb' j (by omega)),hb' i hi];rfl) (by rw [hf k hk hb',h1];rfl)
theorem bD {i n:Nat} (h:i < n) (hn:n<=9223372036854775807):I64 ((i:Int)+1):=by unfold I64;omega
def sgn (x y:Int):Int:=if x < y then -1 else if y < x then 1 else 0
theorem qWM (x y:Int):lC x y=some (sgn x y):=by
 simp only [lC,oF,decide_true,Bool.not_true,aA,Bool.false_eq_true,if_false,sgn];split
 ·rfl
 split<;>rfl
theorem or_eq (x y:Int):tV [x,y]=some (if x=0 then y else x):=by
 unfold tV;by_cases hx:x=0
 ·by_cases hy:y=0
  ·rw [wR (n := 3) (r := (.inl () : Unit ⊕ Int)) (by simp [oB, bC, aD, I64, hx, hy, aY]) (by decide)];simp [eE,hx,hy]
  rw [wR (n := 3) (r := (.inr y : Unit ⊕ Int)) (by simp [oB, bC, aD, I64, hx, hy, aY]) (by decide)];simp [eE,hx]
 rw [wR (n := 3) (r := (.inr x : Unit ⊕ Int)) (by simp [oB, bC, aD, I64, hx, aY]) (by decide)];simp [eE,hx]
theorem sZ (x y:Ag):eK x y=some (if sgn x.el y.el=0 then sgn x.pos y.pos else sgn x.el y.el):=by
 simp only [eK,qWM,aA,or_eq]
theorem pD:SortOk eK:=by
 have hl:∀ x y,ltM eK x y=decide (x.el < y.el\/x.el=y.el/\x.pos < y.pos):=by
  intro x y;simp only [ltM,sZ,Option.getD_some,sgn];rw [decide_eq_decide];split<;>split<;>(try split)<;>(try split)<;>omega
 refine⟨λx y=>⟨_,sZ x y⟩,λx=>?_,λx y z h1 h2=>?_,λx y z h1 h2=>?_,λx y h1 h2=>?_⟩
 ·rw [hl];simp
 ·rw [hl,decide_eq_true_eq] at *; omega
 ·rw [hl,decide_eq_false_iff_not] at *; omega
 rw [hl,decide_eq_false_iff_not] at *;obtain⟨a,b⟩:=x;obtain⟨c,d⟩:=y;simp only at h1 h2;have h3:a=c:=by omega
 have h4:b=d:=by omega
 rw [h3,h4]
end Go.Proofs.YtldaknhjmhlefaaGreatDoor
