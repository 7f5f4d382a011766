/- Texts of this proof, joined, without what it does not use. No condition. -/
import Derived.Lib.ItoaNum
import Derived.Test.YtcagmechagiclaaGreatDoorQo

set_option maxHeartbeats 8000000
set_option linter.unusedSimpArgs false
set_option linter.unusedVariables false
set_option maxRecDepth 20000
namespace Go.Proofs.YtcagmechagiclaaGreatDoor
open Go Go.TL
def qL (p0:Table):Option Bool:=
 dN (
 bB (λx3=>
 if x3 < (p0.routes.length:Int) then
 aU p0.routes x3 λe6=>
 aD (I64 ((e6.path.length:Int)+(e6.sections.length:Int))) <|
 aD (I64 (((e6.path.length:Int)+(e6.sections.length:Int))+(e6.overSections.length:Int))) <|
 aD (I64 ((((e6.path.length:Int)+(e6.sections.length:Int))+(e6.overSections.length:Int))+(e6.points.length:Int))) <|
 aD (I64 (((((e6.path.length:Int)+(e6.sections.length:Int))+(e6.overSections.length:Int))+(e6.points.length:Int))+(e6.overPoints.length:Int))) <|
 aD (I64 ((((((e6.path.length:Int)+(e6.sections.length:Int))+(e6.overSections.length:Int))+(e6.points.length:Int))+(e6.overPoints.length:Int))+(e6.flank.length:Int))) <|
 if (200:Int) < ((((((e6.path.length:Int)+(e6.sections.length:Int))+(e6.overSections.length:Int))+(e6.points.length:Int))+(e6.overPoints.length:Int))+(e6.flank.length:Int)) then
 aN (
 aN (
 some false))
 else
 aD (I64 (x3+(1:Int))) <|
 some (.inl (x3+(1:Int)))
 else
 aN (
 some (.inl ()))) (0:Int)) λ_=>
 some ((decide ((p0.routes.length:Int)≤(100:Int)))&&(decide ((p0.points.length:Int)≤(100:Int))))
def qAQ:Option Table:=
 some (⟨([(⟨(⟨#[115,49,45,115,50]⟩:ByteArray),(0:Int),(1:Int),([(⟨(1:Int),(0:Int),(1:Int)⟩:Step)]:List Step),([]:List Setting),([(1:Int)]:List Int),(0:Int),(20000:Int),([]:List Step),([]:List Setting),([]:List Int),([]:List Setting),([]:List Int),([]:List End)⟩:Route),(⟨(⟨#[115,50,45,101,110,100]⟩:ByteArray),(1:Int),(-1:Int),([(⟨(2:Int),(0:Int),(1:Int)⟩:Step)]:List Step),([]:List Setting),([(2:Int)]:List Int),(1:Int),(20000:Int),([]:List Step),([]:List Setting),([]:List Int),([]:List Setting),([]:List Int),([]:List End)⟩:Route)]:List Route),([]:List Int),([]:List Int),(3:Int),(2:Int)⟩:Table)
def dV (p0:Int) (p1:Int):Option Bool:=
 some ((decide ((0:Int)≤p0))&&(decide (p0 < p1)))
def jW (p0:Table):Option Bool:=
 if (p0.homes.length:Int)=(p0.points.length:Int) then
 dN (
 bB (λx4=>
 if x4 < (p0.points.length:Int) then
 aU p0.points x4 λe7=>
 aC (
 if e7 < (0:Int) then
 some true
 else
 if (0:Int) < x4 then
 aD (I64 (x4 - (1:Int))) <|
 aU p0.points (x4 - (1:Int)) λe15=>
 if e7≤e15 then
 some true
 else
 aU p0.homes x4 λe17=>
 aC (dV e17 p0.sections) λr18=>
 some (!(r18))
 else
 aU p0.homes x4 λe12=>
 aC (dV e12 p0.sections) λr13=>
 some (!(r13))) λx8=>
 if x8=true then
 aN (
 aN (
 some false))
 else
 aD (I64 (x4+(1:Int))) <|
 some (.inl (x4+(1:Int)))
 else
 aN (
 some (.inl ()))) (0:Int)) λ_=>
 some true
 else
 some false
def gA (p0:List (List Int)):Option (List Int):=
 aD (p0.length≤1000∧p0.flatten.length≤1000000000) <|
 some p0.flatten
def iV (p0:Table) (p1:Route):Option Bool:=
 aC (
 aC (dV p1.entry p0.signals) λr3=>
 if (!(r3))=true then
 some true
 else
 if p1.exit=(-1:Int) then
 some false
 else
 aC (dV p1.exit p0.signals) λr6=>
 some (!(r6))) λx1=>
 if x1=true then
 some false
 else
 if ((decide ((p1.path.length:Int) < (1:Int)))||((decide ((12:Int) < (p1.path.length:Int)))||(decide ((p1.sections.length:Int)=(0:Int)))))=true then
 some false
 else
 dN (
 aC (gA ([p1.sections,p1.overSections]:List (List Int))) λr13=>
 bB (λ(x17,b18)=>
 if x17 < (r13.length:Int) then
 aU r13 x17 λe21=>
 aC (
 aC (dV e21 p0.sections) λr24=>
 if (!(r24))=true then
 some true
 else
 aD (e21 < 24) <|
 aU b18 e21 λe26=>
 some e26) λx22=>
 if x22=true then
 aN (
 aN (
 some false))
 else
 aD (e21 < 24) <|
 aU b18 e21 λe31=>
 aD (I64 (x17+(1:Int))) <|
 some (.inl ((x17+(1:Int)),(b18.set e21.toNat true)))
 else
 aN (
 some (.inl b18))) ((0:Int),(List.replicate 24 false))) λb11=>
 aC (
 aC (dV p1.approach p0.sections) λr37=>
 if r37=true then
 some (decide ((1:Int)≤p1.length))
 else
 some false) λx35=>
 some x35
def dO (p0:(List Int)) (p1:Int):Option Int:=
 dN (
 bB (λx3=>
 if x3 < (p0.length:Int) then
 aU p0 x3 λe6=>
 if p1=e6 then
 aN (
 aN (
 some x3))
 else
 aD (I64 (x3+(1:Int))) <|
 some (.inl (x3+(1:Int)))
 else
 aN (
 some (.inl ()))) (0:Int)) λ_=>
 some (-1:Int)
def eK (p0:Table) (p1:Int):Option Int:=
 aC (dO p0.points p1) λr1=>
 some r1
def dM (p0:Table) (p1:(List Setting)):Option Bool:=
 dN (
 bB (λx3=>
 if x3 < (p1.length:Int) then
 aU p1 x3 λe6=>
 aC (
 if (0:Int) < x3 then
 aD (I64 (x3 - (1:Int))) <|
 aU p1 (x3 - (1:Int)) λe12=>
 if e6.el≤e12.el then
 some true
 else
 aC (eK p0 e6.el) λr14=>
 some (decide (r14 < (0:Int)))
 else
 aC (eK p0 e6.el) λr10=>
 some (decide (r10 < (0:Int)))) λx7=>
 if x7=true then
 aN (
 aN (
 some false))
 else
 if ((!(decide (e6.pos=(1:Int))))&&(!(decide (e6.pos=(2:Int)))))=true then
 aN (
 aN (
 some false))
 else
 aD (I64 (x3+(1:Int))) <|
 some (.inl (x3+(1:Int)))
 else
 aN (
 some (.inl ()))) (0:Int)) λ_=>
 some true
def eU (p0:(List Setting)) (p1:(List Setting)):Option Bool:=
 dN (
 bB (λx3=>
 if x3 < (p0.length:Int) then
 dN (
 aU p0 x3 λe7=>
 bB (λx9=>
 if x9 < (p1.length:Int) then
 aU p1 x9 λe12=>
 if ((decide (e7.el=e12.el))&&(!(decide (e7.pos=e12.pos))))=true then
 aN (
 aN (
 aN (
 aN (
 some false))))
 else
 aD (I64 (x9+(1:Int))) <|
 some (.inl (x9+(1:Int)))
 else
 aN (
 some (.inl ()))) (0:Int)) λ_=>
 aD (I64 (x3+(1:Int))) <|
 some (.inl (x3+(1:Int)))
 else
 aN (
 some (.inl ()))) (0:Int)) λ_=>
 some true
def gW (p0:Table):Option Int:=
 aC (
 if (48:Int) < (p0.routes.length:Int) then
 some true
 else
 if (32:Int) < (p0.points.length:Int) then
 some true
 else
 aC (dV p0.sections (25:Int)) λr5=>
 if (!(r5))=true then
 some true
 else
 aC (dV p0.signals (21:Int)) λr7=>
 some (!(r7))) λx1=>
 if x1=true then
 some (2:Int)
 else
 aC (jW p0) λr9=>
 if (!(r9))=true then
 some (1:Int)
 else
 dN (
 bB (λx13=>
 if x13 < (p0.routes.length:Int) then
 aU p0.routes x13 λe16=>
 aC (iV p0 e16) λr17=>
 if (!(r17))=true then
 aN (
 aN (
 some (1:Int)))
 else
 aD (I64 (x13+(1:Int))) <|
 some (.inl (x13+(1:Int)))
 else
 aN (
 some (.inl ()))) (0:Int)) λ_=>
 dN (
 bB (λx25=>
 if x25 < (p0.routes.length:Int) then
 aU p0.routes x25 λe28=>
 aC (
 aC (dM p0 e28.points) λr31=>
 if (!(r31))=true then
 some true
 else
 aC (dM p0 e28.overPoints) λr33=>
 if (!(r33))=true then
 some true
 else
 aC (dM p0 e28.flank) λr35=>
 some (!(r35))) λx29=>
 if x29=true then
 aN (
 aN (
 some (1:Int)))
 else
 aD (I64 (x25+(1:Int))) <|
 some (.inl (x25+(1:Int)))
 else
 aN (
 some (.inl ()))) (0:Int)) λ_=>
 dN (
 bB (λx43=>
 if x43 < (p0.routes.length:Int) then
 aU p0.routes x43 λe46=>
 aC (
 aC (eU e46.points e46.overPoints) λr49=>
 if (!(r49))=true then
 some true
 else
 aC (eU e46.points e46.flank) λr51=>
 if (!(r51))=true then
 some true
 else
 aC (eU e46.overPoints e46.flank) λr53=>
 some (!(r53))) λx47=>
 if x47=true then
 aN (
 aN (
 some (10:Int)))
 else
 aD (I64 (x43+(1:Int))) <|
 some (.inl (x43+(1:Int)))
 else
 aN (
 some (.inl ()))) (0:Int)) λ_=>
 dN (
 bB (λ(x64,b65)=>
 if x64 < (p0.routes.length:Int) then
 aU p0.routes x64 λe68=>
 aD (b65.map (·.1)).Nodup <|
 if (((jP b65 e68.name).getD false))=true then
 aN (
 aN (
 some (8:Int)))
 else
 aD (b65.map (·.1)).Nodup <|
 aD (I64 (x64+(1:Int))) <|
 some (.inl ((x64+(1:Int)),(qUY b65 e68.name true)))
 else
 aN (
 some (.inl b65))) ((0:Int),([]:List (ByteArray×Bool)))) λm59=>
 some (0:Int)
def aT (p0:Numbering) (p1:Int):Option Int:=
 aU p0.t.routes p1 λe1=>
 aD (I64 ((e1.sections.length:Int) - (1:Int))) <|
 some ((e1.sections.length:Int) - (1:Int))
def jF (p0:Table):Option (Numbering×Int):=
 aC (gW p0) λr1=>
 if r1=(0:Int) then
 aD (I64 ((2:Int) * p0.sections)) <|
 aD (I64 ((2:Int) * (p0.points.length:Int))) <|
 aD (I64 (((2:Int) * p0.sections)+((2:Int) * (p0.points.length:Int)))) <|
 aD (I64 ((4:Int) * (p0.routes.length:Int))) <|
 aD (I64 ((((2:Int) * p0.sections)+((2:Int) * (p0.points.length:Int)))+((4:Int) * (p0.routes.length:Int)))) <|
 aD (I64 (((((2:Int) * p0.sections)+((2:Int) * (p0.points.length:Int)))+((4:Int) * (p0.routes.length:Int)))+(p0.points.length:Int))) <|
 aC (
 bB (λ(x16,c17,b18)=>
 if x16 < (p0.routes.length:Int) then
 aD ((b18++([c17]:List Int)).length≤1000000000) <|
 aC (aT (⟨p0,((((2:Int) * p0.sections)+((2:Int) * (p0.points.length:Int)))+((4:Int) * (p0.routes.length:Int))),(b18++([c17]:List Int)),c17,(0:Int)⟩:Numbering) x16) λr22=>
 aD (I64 ((4:Int)+r22)) <|
 aD (I64 (((4:Int)+r22)+(2:Int))) <|
 aD (I64 (c17+(((4:Int)+r22)+(2:Int)))) <|
 aD (I64 (x16+(1:Int))) <|
 some (.inl ((x16+(1:Int)),(c17+(((4:Int)+r22)+(2:Int))),(b18++([c17]:List Int))))
 else
 aN (
 some (c17,b18))) ((0:Int),(((((2:Int) * p0.sections)+((2:Int) * (p0.points.length:Int)))+((4:Int) * (p0.routes.length:Int)))+(p0.points.length:Int)),([]:List Int))) λ(c9,b10)=>
 aD (I64 ((5:Int) * (p0.routes.length:Int))) <|
 aD (I64 (c9+((5:Int) * (p0.routes.length:Int)))) <|
 if (2000:Int) < (c9+((5:Int) * (p0.routes.length:Int))) then
 some ((⟨(⟨([]:List Route),([]:List Int),([]:List Int),(0:Int),(0:Int)⟩:Table),(0:Int),([]:List Int),(0:Int),(0:Int)⟩:Numbering),(2:Int))
 else
 some ((⟨p0,((((2:Int) * p0.sections)+((2:Int) * (p0.points.length:Int)))+((4:Int) * (p0.routes.length:Int))),b10,c9,(c9+((5:Int) * (p0.routes.length:Int)))⟩:Numbering),(0:Int))
 else
 some ((⟨(⟨([]:List Route),([]:List Int),([]:List Int),(0:Int),(0:Int)⟩:Table),(0:Int),([]:List Int),(0:Int),(0:Int)⟩:Numbering),r1)
def aW (p0:Numbering) (p1:Int) (p2:Int):Option Int:=
 aU p0.bases p1 λe1=>
 aD (I64 (e1+p2)) <|
 some (e1+p2)
def eE (p0:Numbering) (p1:Int):Option Int:=
 aC (aT p0 p1) λr1=>
 aD (I64 ((4:Int)+r1)) <|
 aC (aW p0 p1 ((4:Int)+r1)) λr3=>
 some r3
def cA (p0:Int):Option Expr:=
 some (⟨(3:Int),p0,([]:List Expr)⟩:Expr)
def gL (p0:Numbering) (p1:Int) (p2:Int):Option Int:=
 aD (I64 ((2:Int) * p0.t.sections)) <|
 aD (I64 ((2:Int) * (p0.t.points.length:Int))) <|
 aD (I64 (((2:Int) * p0.t.sections)+((2:Int) * (p0.t.points.length:Int)))) <|
 aD (I64 ((4:Int) * p1)) <|
 aD (I64 ((((2:Int) * p0.t.sections)+((2:Int) * (p0.t.points.length:Int)))+((4:Int) * p1))) <|
 aD (I64 (((((2:Int) * p0.t.sections)+((2:Int) * (p0.t.points.length:Int)))+((4:Int) * p1))+p2)) <|
 some (((((2:Int) * p0.t.sections)+((2:Int) * (p0.t.points.length:Int)))+((4:Int) * p1))+p2)
def eC (p0:Numbering) (p1:Int) (p2:Int):Option Int:=
 aD (I64 ((2:Int) * p1)) <|
 aD (I64 (((2:Int) * p1)+p2)) <|
 some (((2:Int) * p1)+p2)
def dF (p0:(List Expr)):Option Expr:=
 some (⟨(6:Int),(0:Int),p0⟩:Expr)
def cF (p0:(List Expr)):Option Expr:=
 some (⟨(5:Int),(0:Int),p0⟩:Expr)
def eQ (p0:Numbering) (p1:Int):Option Int:=
 aC (eE p0 p1) λr1=>
 aD (I64 (r1+(1:Int))) <|
 some (r1+(1:Int))
def cL (p0:Expr):Option Expr:=
 some (⟨(4:Int),(0:Int),([p0]:List Expr)⟩:Expr)
def aR (p0:Numbering) (p1:Int) (p2:Int):Option Int:=
 aD (I64 ((5:Int) * p1)) <|
 aD (I64 (p0.extra+((5:Int) * p1))) <|
 aD (I64 ((p0.extra+((5:Int) * p1))+p2)) <|
 some ((p0.extra+((5:Int) * p1))+p2)
def jG (p0:List (List Setting)):Option (List Setting):=
 aD (p0.length≤1000∧p0.flatten.length≤1000000000) <|
 some p0.flatten
def nM (p0:Int):Option Bool:=
 some (!(decide (p0=p0)))
def jU (p0:Int) (p1:Int):Option Int:=
 aC (nM p0) λr1=>
 aC (nM p1) λr2=>
 if r1=true then
 if r2=true then
 some (0:Int)
 else
 some (-1:Int)
 else
 if r2=true then
 some (1:Int)
 else
 if p0 < p1 then
 some (-1:Int)
 else
 if p1 < p0 then
 some (1:Int)
 else
 some (0:Int)
def sZ (p0:(List Int)):Option Int:=
 dN (
 bB (λx3=>
 if x3 < (p0.length:Int) then
 aU p0 x3 λe6=>
 if e6=(0:Int) then
 aD (I64 (x3+(1:Int))) <|
 some (.inl (x3+(1:Int)))
 else
 aN (
 aN (
 some e6))
 else
 aN (
 some (.inl ()))) (0:Int)) λ_=>
 some (0:Int)
def cX (p0:Setting) (p1:Setting):Option Int:=
 aC (jU p0.el p1.el) λr1=>
 aC (jU p0.pos p1.pos) λr2=>
 aC (sZ ([r1,r2]:List Int)) λr3=>
 some r3
def dW (p0:Route):Option ((List Setting)):=
 aC (jG ([p0.points,p0.overPoints,p0.flank]:List (List Setting))) λr1=>
 aD (r1.length≤1000000000) <|
 aC (
 bB (λ(x8,b9)=>
 if x8 < ((sC cX r1).length:Int) then
 aU (sC cX r1) x8 λe12=>
 aC (
 if x8=(0:Int) then
 some true
 else
 aD (I64 (x8 - (1:Int))) <|
 aU (sC cX r1) (x8 - (1:Int)) λe17=>
 aD (Setting.ok e12∧Setting.ok e17) <|
 some (!(decide (e12=e17)))) λx13=>
 if x13=true then
 aD ((b9++([e12]:List Setting)).length≤1000000000) <|
 aD (I64 (x8+(1:Int))) <|
 some (.inl ((x8+(1:Int)),(b9++([e12]:List Setting))))
 else
 aD (I64 (x8+(1:Int))) <|
 some (.inl ((x8+(1:Int)),b9))
 else
 aN (
 some b9)) ((0:Int),([]:List Setting))) λb3=>
 some b3
def gT (p0:Numbering) (p1:Int) (p2:Int):Option Int:=
 aD (I64 ((2:Int) * p0.t.sections)) <|
 aD (I64 ((2:Int) * p1)) <|
 aD (I64 (((2:Int) * p0.t.sections)+((2:Int) * p1))) <|
 aD (I64 ((((2:Int) * p0.t.sections)+((2:Int) * p1))+p2)) <|
 some ((((2:Int) * p0.t.sections)+((2:Int) * p1))+p2)
def fA (p0:Route) (p1:Route):Option Bool:=
 some ((decide ((0:Int)≤p0.exit))&&(decide (p1.entry=p0.exit)))
def bP (p0:(List Int)) (p1:Int):Option Bool:=
 aC (dO p0 p1) λr1=>
 some (decide ((0:Int)≤r1))
def gY (p0:(List Setting)) (p1:Setting):Option Int:=
 dN (
 bB (λx3=>
 if x3 < (p0.length:Int) then
 aU p0 x3 λe6=>
 aD (Setting.ok p1∧Setting.ok e6) <|
 if p1=e6 then
 aN (
 aN (
 some x3))
 else
 aD (I64 (x3+(1:Int))) <|
 some (.inl (x3+(1:Int)))
 else
 aN (
 some (.inl ()))) (0:Int)) λ_=>
 some (-1:Int)
def cP (p0:(List Setting)) (p1:Setting):Option Bool:=
 aC (gY p0 p1) λr1=>
 some (decide ((0:Int)≤r1))
def dI (p0:Numbering) (p1:Int):Option Int:=
 aD (I64 (p0.inputs+p1)) <|
 some (p0.inputs+p1)
def qFC (n:Nat):ByteArray:=⟨(Go.Lib.decDigits n).toArray⟩
def mS (p0:Int):Option ByteArray:=aD (0≤p0∧p0 < 100) <| some (qFC p0.toNat)
def bN (p0:Int) (p1:(List ByteArray)) (p2:(List ByteArray)):Option ((List ByteArray)):=
 bB (λ(x4,b5)=>
 if x4 < (p1.length:Int) then
 aU p1 x4 λe8=>
 aD (e8.size+(⟨#[46]⟩:ByteArray).size≤9223372036854775807) <|
 aC (mS p0) λr10=>
 aD ((e8++(⟨#[46]⟩:ByteArray)).size+r10.size≤9223372036854775807) <|
 aD ((b5++([((e8++(⟨#[46]⟩:ByteArray))++r10)]:List ByteArray)).length≤1000000000) <|
 aD (I64 (x4+(1:Int))) <|
 some (.inl ((x4+(1:Int)),(b5++([((e8++(⟨#[46]⟩:ByteArray))++r10)]:List ByteArray))))
 else
 aN (
 some b5)) ((0:Int),p2)
def fT (p0:Numbering):Option ((List ByteArray)):=
 aC (
 bB (λ(x6,b7)=>
 if x6 < p0.t.sections then
 aC (bN x6 ([(⟨#[102,114,101,101]⟩:ByteArray),(⟨#[111,112,101,110]⟩:ByteArray)]:List ByteArray) b7) λr10=>
 aD (I64 (x6+(1:Int))) <|
 some (.inl ((x6+(1:Int)),r10))
 else
 aN (
 some b7)) ((0:Int),([]:List ByteArray))) λb1=>
 aC (
 bB (λ(x18,b19)=>
 if x18 < (p0.t.points.length:Int) then
 aC (bN x18 ([(⟨#[110,111,114,109,97,108]⟩:ByteArray),(⟨#[114,101,118,101,114,115,101]⟩:ByteArray)]:List ByteArray) b19) λr22=>
 aD (I64 (x18+(1:Int))) <|
 some (.inl ((x18+(1:Int)),r22))
 else
 aN (
 some b19)) ((0:Int),b1)) λb13=>
 aC (
 bB (λ(x30,b31)=>
 if x30 < (p0.t.routes.length:Int) then
 aC (bN x30 ([(⟨#[117,110,99,108,97,105,109,101,100]⟩:ByteArray),(⟨#[112,97,115,115,101,100]⟩:ByteArray),(⟨#[99,97,108,108]⟩:ByteArray),(⟨#[99,97,110,99,101,108]⟩:ByteArray)]:List ByteArray) b31) λr34=>
 aD (I64 (x30+(1:Int))) <|
 some (.inl ((x30+(1:Int)),r34))
 else
 aN (
 some b31)) ((0:Int),b13)) λb25=>
 aC (
 bB (λ(x42,b43)=>
 if x42 < (p0.t.points.length:Int) then
 aC (bN x42 ([(⟨#[108,105,101]⟩:ByteArray)]:List ByteArray) b43) λr46=>
 aD (I64 (x42+(1:Int))) <|
 some (.inl ((x42+(1:Int)),r46))
 else
 aN (
 some b43)) ((0:Int),b25)) λb37=>
 aC (
 bB (λ(x54,b55)=>
 if x54 < (p0.t.routes.length:Int) then
 aC (
 aC (bN x54 ([(⟨#[115,101,116]⟩:ByteArray),(⟨#[99,108,101,97,114]⟩:ByteArray),(⟨#[117,115,101,100]⟩:ByteArray),(⟨#[104,101,108,100]⟩:ByteArray)]:List ByteArray) b55) λr60=>
 aC (
 aC (aT p0 x54) λr63=>
 bB (λ(x67,b68)=>
 if x67 < r63 then
 aC (mS x54) λr71=>
 aD ((⟨#[114,101,108,46]⟩:ByteArray).size+r71.size≤9223372036854775807) <|
 aC (bN x67 ([((⟨#[114,101,108,46]⟩:ByteArray)++r71)]:List ByteArray) b68) λr73=>
 aD (I64 (x67+(1:Int))) <|
 some (.inl ((x67+(1:Int)),r73))
 else
 aN (
 some b68)) ((0:Int),r60)) λb61=>
 aC (bN x54 ([(⟨#[119,97,105,116]⟩:ByteArray),(⟨#[115,116,97,110,100]⟩:ByteArray)]:List ByteArray) b61) λr76=>
 some r76) λb58=>
 aD (I64 (x54+(1:Int))) <|
 some (.inl ((x54+(1:Int)),b58))
 else
 aN (
 some b55)) ((0:Int),b37)) λb49=>
 aC (
 bB (λ(x84,b85)=>
 if x84 < (p0.t.routes.length:Int) then
 aC (bN x84 ([(⟨#[107,101,101,112]⟩:ByteArray),(⟨#[117,115,101]⟩:ByteArray),(⟨#[104,111,108,100]⟩:ByteArray),(⟨#[97,99,116]⟩:ByteArray),(⟨#[99,97,108,108,101,100]⟩:ByteArray)]:List ByteArray) b85) λr88=>
 aD (I64 (x84+(1:Int))) <|
 some (.inl ((x84+(1:Int)),r88))
 else
 aN (
 some b85)) ((0:Int),b49)) λb79=>
 some b79
def bG (p0:Builder) (p1:Int) (p2:Int):Option Expr:=
 aC (aW p0.numbering p1 p2) λr1=>
 aC (cA r1) λr2=>
 some r2
def bI (p0:Builder) (p1:Int) (p2:Int):Option Expr:=
 aC (gL p0.numbering p1 p2) λr1=>
 aC (cA r1) λr2=>
 some r2
def cH (p0:Builder) (p1:Int) (p2:Int):Option Expr:=
 aD (I64 ((4:Int)+p2)) <|
 aC (aW p0.numbering p1 ((4:Int)+p2)) λr2=>
 aC (cA r2) λr3=>
 some r3
def bQ (p0:Builder) (p1:Int):Option Expr:=
 aC (eC p0.numbering p1 (0:Int)) λr1=>
 aC (cA r1) λr2=>
 some r2
def dZ (p0:Builder) (p1:Int):Option Expr:=
 aC (
 aU p0.numbering.t.routes p1 λe3=>
 bB (λ(x7,b8)=>
 if x7 < (e3.sections.length:Int) then
 aU e3.sections x7 λe11=>
 aC (aT p0.numbering p1) λr12=>
 if x7 < r12 then
 aC (cH p0 p1 x7) λr14=>
 aC (bQ p0 e11) λr15=>
 aC (dF ([r14,r15]:List Expr)) λr16=>
 aD ((b8++([r16]:List Expr)).length≤1000000000) <|
 aD (I64 (x7+(1:Int))) <|
 some (.inl ((x7+(1:Int)),(b8++([r16]:List Expr))))
 else
 aC (bQ p0 e11) λr19=>
 aD ((b8++([r19]:List Expr)).length≤1000000000) <|
 aD (I64 (x7+(1:Int))) <|
 some (.inl ((x7+(1:Int)),(b8++([r19]:List Expr))))
 else
 aN (
 some b8)) ((0:Int),([]:List Expr))) λb1=>
 aC (cF b1) λr23=>
 some r23
def fD (p0:Builder) (p1:Int):Option Expr:=
 aC (aT p0.numbering p1) λr1=>
 if r1=(0:Int) then
 aC (cF []) λr3=>
 some r3
 else
 aC (aT p0.numbering p1) λr4=>
 aD (I64 (r4 - (1:Int))) <|
 aC (cH p0 p1 (r4 - (1:Int))) λr6=>
 some r6
def gE (p0:Builder) (p1:Int):Option Builder:=
 aU p0.numbering.t.routes p1 λe1=>
 aC (eE p0.numbering p1) λr2=>
 aC (bG p0 p1 (3:Int)) λr3=>
 aC (bI p0 p1 (0:Int)) λr4=>
 aC (dZ p0 p1) λr5=>
 aC (cF ([r3,r4,r5]:List Expr)) λr6=>
 aC (eQ p0.numbering p1) λr7=>
 aC (bG p0 p1 (2:Int)) λr8=>
 aC (bI p0 p1 (0:Int)) λr9=>
 aC (fD p0 p1) λr10=>
 aC (aT p0.numbering p1) λr11=>
 aU e1.sections r11 λe12=>
 aC (bQ p0 e12) λr13=>
 aC (cL r13) λr14=>
 aC (cF ([r8,r9,r10,r14]:List Expr)) λr15=>
 aD ((p0.rungs++([(⟨(2:Int),r2,(12:Int),r6⟩:Rung),(⟨(2:Int),r7,(4:Int),r15⟩:Rung)]:List Rung)).length≤1000000000) <|
 some (⟨p0.numbering,(p0.rungs++([(⟨(2:Int),r2,(12:Int),r6⟩:Rung),(⟨(2:Int),r7,(4:Int),r15⟩:Rung)]:List Rung))⟩:Builder)
def eF (p0:Builder) (p1:Int):Option Expr:=
 aU p0.numbering.t.routes p1 λe1=>
 aC (
 aC (gA ([e1.sections,e1.overSections]:List (List Int))) λr4=>
 bB (λ(x8,b9)=>
 if x8 < (r4.length:Int) then
 aU r4 x8 λe12=>
 aC (bQ p0 e12) λr13=>
 aD ((b9++([r13]:List Expr)).length≤1000000000) <|
 aD (I64 (x8+(1:Int))) <|
 some (.inl ((x8+(1:Int)),(b9++([r13]:List Expr))))
 else
 aN (
 some b9)) ((0:Int),([]:List Expr))) λb2=>
 aC (
 aC (dW e1) λr19=>
 bB (λ(x23,b24)=>
 if x23 < (r19.length:Int) then
 aU r19 x23 λe27=>
 aC (
 if e27.pos=(2:Int) then
 some (1:Int)
 else
 some (0:Int)) λkind28=>
 aC (eK p0.numbering.t e27.el) λr31=>
 aC (gT p0.numbering r31 kind28) λr32=>
 aC (cA r32) λr33=>
 aD ((b24++([r33]:List Expr)).length≤1000000000) <|
 aD (I64 (x23+(1:Int))) <|
 some (.inl ((x23+(1:Int)),(b24++([r33]:List Expr))))
 else
 aN (
 some b24)) ((0:Int),b2)) λb17=>
 aC (cF b17) λr37=>
 some r37
def cB (p0:Builder) (p1:Int) (p2:Expr):Option Builder:=
 aD ((p0.rungs++([(⟨(1:Int),p1,(0:Int),p2⟩:Rung)]:List Rung)).length≤1000000000) <|
 some (⟨p0.numbering,(p0.rungs++([(⟨(1:Int),p1,(0:Int),p2⟩:Rung)]:List Rung))⟩:Builder)
def eR (p0:Builder) (p1:Int):Option Expr:=
 aC (
 aU p0.numbering.t.routes p1 λe3=>
 bB (λ(x7,b8)=>
 if x7 < (e3.sections.length:Int) then
 aU e3.sections x7 λe11=>
 aC (bQ p0 e11) λr12=>
 aC (
 if (0:Int) < x7 then
 aD (I64 (x7 - (1:Int))) <|
 aC (cH p0 p1 (x7 - (1:Int))) λr17=>
 aD ((([r12]:List Expr)++([r17]:List Expr)).length≤1000000000) <|
 some (([r12]:List Expr)++([r17]:List Expr))
 else
 some ([r12]:List Expr)) λb13=>
 aC (
 aC (aT p0.numbering p1) λr21=>
 if x7 < r21 then
 aC (cH p0 p1 x7) λr23=>
 aC (cL r23) λr24=>
 aD ((b13++([r24]:List Expr)).length≤1000000000) <|
 some (b13++([r24]:List Expr))
 else
 some b13) λb19=>
 aC (cF b19) λr26=>
 aD ((b8++([r26]:List Expr)).length≤1000000000) <|
 aD (I64 (x7+(1:Int))) <|
 some (.inl ((x7+(1:Int)),(b8++([r26]:List Expr))))
 else
 aN (
 some b8)) ((0:Int),([]:List Expr))) λb1=>
 aC (dF b1) λr30=>
 some r30
def fC (p0:Builder) (p1:Int):Option Expr:=
 aC (bG p0 p1 (0:Int)) λr1=>
 aC (bG p0 p1 (1:Int)) λr2=>
 aC (dF ([r1,r2]:List Expr)) λr3=>
 aC (bI p0 p1 (3:Int)) λr4=>
 aC (cL r4) λr5=>
 aC (eF p0 p1) λr6=>
 aC (cF ([r3,r5,r6]:List Expr)) λr7=>
 some r7
def fL (p0:Builder) (p1:Int):Option Builder:=
 aU p0.numbering.t.routes p1 λe1=>
 aU e1.sections (0:Int) λe2=>
 aC (aT p0.numbering p1) λr3=>
 aU e1.sections r3 λe4=>
 aC (aR p0.numbering p1 (0:Int)) λr5=>
 aC (bG p0 p1 (0:Int)) λr6=>
 aC (bI p0 p1 (3:Int)) λr7=>
 aC (cL r7) λr8=>
 aC (eF p0 p1) λr9=>
 aC (cL r9) λr10=>
 aC (cF ([r6,r8,r10]:List Expr)) λr11=>
 aC (cB p0 r5 r11) λr12=>
 aC (aR p0.numbering p1 (1:Int)) λr13=>
 aC (bG (⟨p0.numbering,r12.rungs⟩:Builder) p1 (1:Int)) λr14=>
 aC (bQ (⟨p0.numbering,r12.rungs⟩:Builder) e2) λr15=>
 aC (cL r15) λr16=>
 aC (cF ([r14,r16]:List Expr)) λr17=>
 aC (bG (⟨p0.numbering,r12.rungs⟩:Builder) p1 (2:Int)) λr18=>
 aC (bI (⟨p0.numbering,r12.rungs⟩:Builder) p1 (0:Int)) λr19=>
 aC (cL r19) λr20=>
 aC (bI (⟨p0.numbering,r12.rungs⟩:Builder) p1 (3:Int)) λr21=>
 aC (dZ (⟨p0.numbering,r12.rungs⟩:Builder) p1) λr22=>
 aC (cF ([r21,r22]:List Expr)) λr23=>
 aC (cL r23) λr24=>
 aC (fD (⟨p0.numbering,r12.rungs⟩:Builder) p1) λr25=>
 aC (bQ (⟨p0.numbering,r12.rungs⟩:Builder) e4) λr26=>
 aC (cF ([r25,r26]:List Expr)) λr27=>
 aC (cL r27) λr28=>
 aC (eQ p0.numbering p1) λr29=>
 aC (cA r29) λr30=>
 aC (cL r30) λr31=>
 aC (cF ([r24,r28,r31]:List Expr)) λr32=>
 aC (dF ([r20,r32]:List Expr)) λr33=>
 aC (cF ([r18,r33]:List Expr)) λr34=>
 aC (bG (⟨p0.numbering,r12.rungs⟩:Builder) p1 (3:Int)) λr35=>
 aC (eR (⟨p0.numbering,r12.rungs⟩:Builder) p1) λr36=>
 aC (cL r36) λr37=>
 aC (cF ([r35,r37]:List Expr)) λr38=>
 aC (dF ([r17,r34,r38]:List Expr)) λr39=>
 aC (cB (⟨p0.numbering,r12.rungs⟩:Builder) r13 r39) λr40=>
 aC (aR p0.numbering p1 (2:Int)) λr41=>
 aC (bG (⟨p0.numbering,r40.rungs⟩:Builder) p1 (1:Int)) λr42=>
 aC (bQ (⟨p0.numbering,r40.rungs⟩:Builder) e2) λr43=>
 aC (bI (⟨p0.numbering,r40.rungs⟩:Builder) p1 (3:Int)) λr44=>
 aC (bI (⟨p0.numbering,r40.rungs⟩:Builder) p1 (0:Int)) λr45=>
 aC (bQ (⟨p0.numbering,r40.rungs⟩:Builder) e1.approach) λr46=>
 aC (cF ([r44,r45,r46]:List Expr)) λr47=>
 aC (cL r47) λr48=>
 aC (bI (⟨p0.numbering,r40.rungs⟩:Builder) p1 (3:Int)) λr49=>
 aC (eF (⟨p0.numbering,r40.rungs⟩:Builder) p1) λr50=>
 aC (cL r50) λr51=>
 aC (dF ([r49,r51]:List Expr)) λr52=>
 aC (cF ([r42,r43,r48,r52]:List Expr)) λr53=>
 aC (bG (⟨p0.numbering,r40.rungs⟩:Builder) p1 (2:Int)) λr54=>
 aC (bI (⟨p0.numbering,r40.rungs⟩:Builder) p1 (0:Int)) λr55=>
 aC (bI (⟨p0.numbering,r40.rungs⟩:Builder) p1 (3:Int)) λr56=>
 aC (dZ (⟨p0.numbering,r40.rungs⟩:Builder) p1) λr57=>
 aC (cF ([r54,r55,r56,r57]:List Expr)) λr58=>
 aC (bG (⟨p0.numbering,r40.rungs⟩:Builder) p1 (3:Int)) λr59=>
 aC (eR (⟨p0.numbering,r40.rungs⟩:Builder) p1) λr60=>
 aC (eE p0.numbering p1) λr61=>
 aC (cA r61) λr62=>
 aC (cL r62) λr63=>
 aC (cF ([r59,r60,r63]:List Expr)) λr64=>
 aC (dF ([r53,r58,r64]:List Expr)) λr65=>
 aC (cB (⟨p0.numbering,r40.rungs⟩:Builder) r41 r65) λr66=>
 aC (aR p0.numbering p1 (3:Int)) λr67=>
 aC (aR p0.numbering p1 (0:Int)) λr68=>
 aC (cA r68) λr69=>
 aC (fC (⟨p0.numbering,r66.rungs⟩:Builder) p1) λr70=>
 aC (aR p0.numbering p1 (1:Int)) λr71=>
 aC (cA r71) λr72=>
 aC (aR p0.numbering p1 (2:Int)) λr73=>
 aC (cA r73) λr74=>
 aC (dF ([r69,r70,r72,r74]:List Expr)) λr75=>
 aC (cB (⟨p0.numbering,r66.rungs⟩:Builder) r67 r75) λr76=>
 some (⟨p0.numbering,r76.rungs⟩:Builder)
def gO (p0:Builder) (p1:Int):Option Builder:=
 aU p0.numbering.t.routes p1 λe1=>
 aC (
 aC (aT p0.numbering p1) λr4=>
 aD (I64 (r4 - (1:Int))) <|
 bB (λ(k9,b10)=>
 if (0:Int)≤k9 then
 aC (bG (⟨p0.numbering,b10⟩:Builder) p1 (2:Int)) λr13=>
 aC (aR p0.numbering p1 (1:Int)) λr14=>
 aC (cA r14) λr15=>
 aC (bI (⟨p0.numbering,b10⟩:Builder) p1 (0:Int)) λr16=>
 aU e1.sections k9 λe17=>
 aC (bQ (⟨p0.numbering,b10⟩:Builder) e17) λr18=>
 aD (I64 (k9+(1:Int))) <|
 aU e1.sections (k9+(1:Int)) λe20=>
 aC (bQ (⟨p0.numbering,b10⟩:Builder) e20) λr21=>
 aC (cL r21) λr22=>
 aC (bI (⟨p0.numbering,b10⟩:Builder) p1 (1:Int)) λr23=>
 aC (dF ([r22,r23]:List Expr)) λr24=>
 aC (
 if (0:Int) < k9 then
 aD (I64 (k9 - (1:Int))) <|
 aC (cH (⟨p0.numbering,b10⟩:Builder) p1 (k9 - (1:Int))) λr29=>
 aD ((([r13,r15,r16,r18,r24]:List Expr)++([r29]:List Expr)).length≤1000000000) <|
 some (([r13,r15,r16,r18,r24]:List Expr)++([r29]:List Expr))
 else
 some ([r13,r15,r16,r18,r24]:List Expr)) λb25=>
 aD (I64 ((4:Int)+k9)) <|
 aC (aW p0.numbering p1 ((4:Int)+k9)) λr32=>
 aC (aR p0.numbering p1 (1:Int)) λr33=>
 aC (cA r33) λr34=>
 aC (aR p0.numbering p1 (2:Int)) λr35=>
 aC (cA r35) λr36=>
 aC (dF ([r34,r36]:List Expr)) λr37=>
 aC (cH (⟨p0.numbering,b10⟩:Builder) p1 k9) λr38=>
 aC (cF b25) λr39=>
 aC (dF ([r38,r39]:List Expr)) λr40=>
 aC (cF ([r37,r40]:List Expr)) λr41=>
 aC (cB (⟨p0.numbering,b10⟩:Builder) r32 r41) λr42=>
 aD (I64 (k9 - (1:Int))) <|
 some (.inl ((k9 - (1:Int)),r42.rungs))
 else
 aN (
 some b10)) ((r4 - (1:Int)),p0.rungs)) λb2=>
 aC (aW p0.numbering p1 (1:Int)) λr45=>
 aC (fC (⟨p0.numbering,b2⟩:Builder) p1) λr46=>
 aC (cB (⟨p0.numbering,b2⟩:Builder) r45 r46) λr47=>
 aC (aW p0.numbering p1 (2:Int)) λr48=>
 aC (aR p0.numbering p1 (1:Int)) λr49=>
 aC (cA r49) λr50=>
 aC (cB (⟨p0.numbering,r47.rungs⟩:Builder) r48 r50) λr51=>
 aC (aW p0.numbering p1 (3:Int)) λr52=>
 aC (aR p0.numbering p1 (2:Int)) λr53=>
 aC (cA r53) λr54=>
 aC (cB (⟨p0.numbering,r51.rungs⟩:Builder) r52 r54) λr55=>
 some (⟨p0.numbering,r55.rungs⟩:Builder)
def bR (p0:Int) (p1:Builder) (p2:Int) (p3:Bool) (p4:(List Int)):Option (Bool×(List Int)):=
 aC (
 if p0 < (0:Int) then
 some true
 else
 aC (aT p1.numbering p2) λr4=>
 some (decide (p0=r4))) λx1=>
 if x1=true then
 some (true,p4)
 else
 aC (bP p4 p0) λr6=>
 if (!(r6))=true then
 aD ((p4++([p0]:List Int)).length≤1000000000) <|
 some (p3,(p4++([p0]:List Int)))
 else
 some (p3,p4)
def gF (p0:Builder) (p1:Int) (p2:Int):Option (Bool×(List Int)):=
 aU p0.numbering.t.routes p1 λe1=>
 aU p0.numbering.t.routes p2 λe2=>
 aC (fA e2 e1) λr3=>
 aC (fA e1 e2) λr4=>
 aC (
 bB (λ(x12,c13,b14)=>
 if x12 < (e1.sections.length:Int) then
 aU e1.sections x12 λe17=>
 aC (
 aC (dO e2.sections e17) λr21=>
 if (0:Int)≤r21 then
 aC (bR r21 p0 p2 c13 b14) λ(r24,r25)=>
 some (r24,r25)
 else
 some (c13,b14)) λ(c18,b19)=>
 if c18=true then
 aD (I64 (x12+(1:Int))) <|
 some (.inl ((x12+(1:Int)),true,b19))
 else
 aC (bP e2.overSections e17) λr27=>
 if r27=true then
 aD (I64 (x12+(1:Int))) <|
 some (.inl ((x12+(1:Int)),!(r3),b19))
 else
 aD (I64 (x12+(1:Int))) <|
 some (.inl ((x12+(1:Int)),false,b19))
 else
 aN (
 some (c13,b14))) ((0:Int),false,([]:List Int))) λ(c5,b6)=>
 aC (
 bB (λ(x40,c41,b42)=>
 if x40 < (e1.overSections.length:Int) then
 aU e1.overSections x40 λe45=>
 aC (
 aC (dO e2.sections e45) λr49=>
 if ((decide ((0:Int)≤r49))&&(!(r4)))=true then
 aC (bR r49 p0 p2 c41 b42) λ(r53,r54)=>
 some (r53,r54)
 else
 some (c41,b42)) λ(c46,b47)=>
 if c46=true then
 aD (I64 (x40+(1:Int))) <|
 some (.inl ((x40+(1:Int)),true,b47))
 else
 aC (bP e2.overSections e45) λr56=>
 if r56=true then
 if (!(r3))=true then
 aD (I64 (x40+(1:Int))) <|
 some (.inl ((x40+(1:Int)),!(r4),b47))
 else
 aD (I64 (x40+(1:Int))) <|
 some (.inl ((x40+(1:Int)),false,b47))
 else
 aD (I64 (x40+(1:Int))) <|
 some (.inl ((x40+(1:Int)),false,b47))
 else
 aN (
 some (c41,b42))) ((0:Int),c5,b6)) λ(c33,b34)=>
 aC (
 aC (dW e1) λr67=>
 bB (λ(x72,c73,b74)=>
 if x72 < (r67.length:Int) then
 aU r67 x72 λe77=>
 aD (I64 ((3:Int) - e77.pos)) <|
 aC (
 aC (cP e2.overPoints (⟨e77.el,((3:Int) - e77.pos)⟩:Setting)) λr81=>
 if r81=true then
 some true
 else
 aC (cP e2.flank (⟨e77.el,((3:Int) - e77.pos)⟩:Setting)) λr83=>
 some r83) λx79=>
 if x79=true then
 aD (I64 (x72+(1:Int))) <|
 some (.inl ((x72+(1:Int)),true,b74))
 else
 aC (cP e2.points (⟨e77.el,((3:Int) - e77.pos)⟩:Setting)) λr86=>
 if r86=true then
 aC (eK p0.numbering.t e77.el) λr88=>
 aU p0.numbering.t.homes r88 λe89=>
 aC (dO e2.sections e89) λr90=>
 aC (bR r90 p0 p2 c73 b74) λ(r92,r93)=>
 aD (I64 (x72+(1:Int))) <|
 some (.inl ((x72+(1:Int)),r92,r93))
 else
 aD (I64 (x72+(1:Int))) <|
 some (.inl ((x72+(1:Int)),c73,b74))
 else
 aN (
 some (c73,b74))) ((0:Int),c33,b34)) λ(c64,b65)=>
 some (c64,b65)
def gP (p0:Builder) (p1:Int) (p2:Int):Option ((List Expr)):=
 aC (gF p0 p1 p2) λ(r2,r3)=>
 aC (aR p0.numbering p2 (3:Int)) λr4=>
 aC (cA r4) λr5=>
 aC (
 if p2 < p1 then
 aC (aR p0.numbering p2 (4:Int)) λr11=>
 aC (cA r11) λr12=>
 aC (dF ([r5,r12]:List Expr)) λr13=>
 some (r13.op,r13.var,r13.args)
 else
 some (r5.op,r5.var,r5.args)) λ(c6,c7,c8)=>
 if r2=true then
 aC (cL (⟨c6,c7,c8⟩:Expr)) λr15=>
 some ([r15]:List Expr)
 else
 if (r3.length:Int)=(0:Int) then
 some ([]:List Expr)
 else
 aC (cL (⟨c6,c7,c8⟩:Expr)) λr17=>
 aC (
 bB (λ(x23,b24)=>
 if x23 < (r3.length:Int) then
 aU r3 x23 λe27=>
 aC (cH p0 p2 e27) λr28=>
 aD ((b24++([r28]:List Expr)).length≤1000000000) <|
 aD (I64 (x23+(1:Int))) <|
 some (.inl ((x23+(1:Int)),(b24++([r28]:List Expr))))
 else
 aN (
 some b24)) ((0:Int),([]:List Expr))) λb18=>
 aC (cF b18) λr32=>
 aD ((([r17]:List Expr)++([r32]:List Expr)).length≤1000000000) <|
 aC (dF (([r17]:List Expr)++([r32]:List Expr))) λr34=>
 some ([r34]:List Expr)
def gG (p0:Builder) (p1:Int):Option Expr:=
 aU p0.numbering.t.routes p1 λe1=>
 aC (bI p0 p1 (2:Int)) λr2=>
 aC (aR p0.numbering p1 (3:Int)) λr3=>
 aC (cA r3) λr4=>
 aC (cL r4) λr5=>
 aC (
 aC (gA ([e1.sections,e1.overSections]:List (List Int))) λr8=>
 bB (λ(x12,b13)=>
 if x12 < (r8.length:Int) then
 aU r8 x12 λe16=>
 aC (eC p0.numbering e16 (1:Int)) λr17=>
 aC (cA r17) λr18=>
 aD ((b13++([r18]:List Expr)).length≤1000000000) <|
 aD (I64 (x12+(1:Int))) <|
 some (.inl ((x12+(1:Int)),(b13++([r18]:List Expr))))
 else
 aN (
 some b13)) ((0:Int),([r2,r5]:List Expr))) λb6=>
 aC (
 bB (λ(x27,b28)=>
 if x27 < (p0.numbering.t.routes.length:Int) then
 if x27=p1 then
 aD (I64 (x27+(1:Int))) <|
 some (.inl ((x27+(1:Int)),b28))
 else
 aC (gP p0 p1 x27) λr32=>
 aD ((b28++r32).length≤1000000000) <|
 aD (I64 (x27+(1:Int))) <|
 some (.inl ((x27+(1:Int)),(b28++r32)))
 else
 aN (
 some b28)) ((0:Int),b6)) λb22=>
 aC (
 aC (dW e1) λr39=>
 bB (λ(x43,b44)=>
 if x43 < (r39.length:Int) then
 aU r39 x43 λe47=>
 aC (eK p0.numbering.t e47.el) λr48=>
 aC (dI p0.numbering r48) λr49=>
 aC (cA r49) λr50=>
 aC (
 if e47.pos=(1:Int) then
 aC (cL r50) λr56=>
 some (r56.op,r56.var,r56.args)
 else
 some (r50.op,r50.var,r50.args)) λ(c51,c52,c53)=>
 aU p0.numbering.t.homes r48 λe57=>
 aC (bQ p0 e57) λr58=>
 aC (dF ([(⟨c51,c52,c53⟩:Expr),r58]:List Expr)) λr59=>
 aD ((b44++([r59]:List Expr)).length≤1000000000) <|
 aD (I64 (x43+(1:Int))) <|
 some (.inl ((x43+(1:Int)),(b44++([r59]:List Expr))))
 else
 aN (
 some b44)) ((0:Int),b22)) λb37=>
 aC (cF b37) λr63=>
 some r63
def hJ (p0:Builder) (p1:Int):Option Expr:=
 aC (
 bB (λ(x8,b9,b10)=>
 if x8 < (p0.numbering.t.routes.length:Int) then
 aC (
 aU p0.numbering.t.routes x8 λe16=>
 aC (dW e16) λr17=>
 bB (λ(x22,b23,b24)=>
 if x22 < (r17.length:Int) then
 aU r17 x22 λe27=>
 aU p0.numbering.t.points p1 λe28=>
 if e27.el=e28 then
 if e27.pos=(2:Int) then
 aC (aR p0.numbering x8 (4:Int)) λr32=>
 aC (cA r32) λr33=>
 aD ((b24++([r33]:List Expr)).length≤1000000000) <|
 aD (I64 (x22+(1:Int))) <|
 some (.inl ((x22+(1:Int)),b23,(b24++([r33]:List Expr))))
 else
 aC (aR p0.numbering x8 (4:Int)) λr36=>
 aC (cA r36) λr37=>
 aD ((b23++([r37]:List Expr)).length≤1000000000) <|
 aD (I64 (x22+(1:Int))) <|
 some (.inl ((x22+(1:Int)),(b23++([r37]:List Expr)),b24))
 else
 aD (I64 (x22+(1:Int))) <|
 some (.inl ((x22+(1:Int)),b23,b24))
 else
 aN (
 some (b23,b24))) ((0:Int),b9,b10)) λ(b13,b14)=>
 aD (I64 (x8+(1:Int))) <|
 some (.inl ((x8+(1:Int)),b13,b14))
 else
 aN (
 some (b9,b10))) ((0:Int),([]:List Expr),([]:List Expr))) λ(b1,b2)=>
 aC (dF b2) λr43=>
 aC (dI p0.numbering p1) λr44=>
 aC (cA r44) λr45=>
 aC (dF b1) λr46=>
 aC (cL r46) λr47=>
 aC (cF ([r45,r47]:List Expr)) λr48=>
 aC (dF ([r43,r48]:List Expr)) λr49=>
 some r49
def jT (p0:Table):Option (Program×Int):=
 aC (jF p0) λ(r2,r3)=>
 if r3=(0:Int) then
 aC (
 bB (λ(x10,b11)=>
 if x10 < (p0.routes.length:Int) then
 aC (gE (⟨r2,b11⟩:Builder) x10) λr14=>
 aD (I64 (x10+(1:Int))) <|
 some (.inl ((x10+(1:Int)),r14.rungs))
 else
 aN (
 some b11)) ((0:Int),([]:List Rung))) λb5=>
 aC (
 bB (λ(x22,b23)=>
 if x22 < (p0.routes.length:Int) then
 aC (fL (⟨r2,b23⟩:Builder) x22) λr26=>
 aD (I64 (x22+(1:Int))) <|
 some (.inl ((x22+(1:Int)),r26.rungs))
 else
 aN (
 some b23)) ((0:Int),b5)) λb17=>
 aC (
 bB (λ(x34,b35)=>
 if x34 < (p0.routes.length:Int) then
 aC (gO (⟨r2,b35⟩:Builder) x34) λr38=>
 aD (I64 (x34+(1:Int))) <|
 some (.inl ((x34+(1:Int)),r38.rungs))
 else
 aN (
 some b35)) ((0:Int),b17)) λb29=>
 aC (
 bB (λ(x46,b47)=>
 if x46 < (p0.routes.length:Int) then
 aC (aR r2 x46 (4:Int)) λr50=>
 aC (gG (⟨r2,b47⟩:Builder) x46) λr51=>
 aC (cB (⟨r2,b47⟩:Builder) r50 r51) λr52=>
 aD (I64 (x46+(1:Int))) <|
 some (.inl ((x46+(1:Int)),r52.rungs))
 else
 aN (
 some b47)) ((0:Int),b29)) λb41=>
 aC (
 bB (λ(x60,b61)=>
 if x60 < (p0.points.length:Int) then
 aC (dI r2 x60) λr64=>
 aC (hJ (⟨r2,b61⟩:Builder) x60) λr65=>
 aC (cB (⟨r2,b61⟩:Builder) r64 r65) λr66=>
 aD (I64 (x60+(1:Int))) <|
 some (.inl ((x60+(1:Int)),r66.rungs))
 else
 aN (
 some b61)) ((0:Int),b41)) λb55=>
 aC (
 bB (λ(x74,b75)=>
 if x74 < (p0.routes.length:Int) then
 aC (aW r2 x74 (0:Int)) λr78=>
 aC (aR r2 x74 (0:Int)) λr79=>
 aC (cA r79) λr80=>
 aC (aR r2 x74 (4:Int)) λr81=>
 aC (cA r81) λr82=>
 aC (dF ([r80,r82]:List Expr)) λr83=>
 aC (cB (⟨r2,b75⟩:Builder) r78 r83) λr84=>
 aD (I64 (x74+(1:Int))) <|
 some (.inl ((x74+(1:Int)),r84.rungs))
 else
 aN (
 some b75)) ((0:Int),b55)) λb69=>
 aC (fT r2) λr87=>
 some ((⟨r87,r2.inputs,b69⟩:Program),(0:Int))
 else
 some ((⟨([]:List ByteArray),(0:Int),([]:List Rung)⟩:Program),r3)
def iO:Nat→Expr→Int→Int→Int→Option (Bool×Int)
 | 0,_,_,_,_=>none
 | fu+1,p0,p1,p2,p3=>
 if ((decide ((12:Int) < p2))||(decide (p3=(0:Int))))=true then
 some (false,p3)
 else
 aD (I64 (p3 - (1:Int))) <|
 dN (
 aC (
 if p0.op=(1:Int) then
 some (decide (p0.op=(1:Int)))
 else
 some (decide (p0.op=(2:Int)))) λx5=>
 if x5=true then
 aN (
 some (((decide (p0.var=(0:Int)))&&(decide ((p0.args.length:Int)=(0:Int)))),(p3 - (1:Int))))
 else
 if p0.op=(3:Int) then
 aN (
 some (((decide ((0:Int)≤p0.var))&&((decide (p0.var < p1))&&(decide ((p0.args.length:Int)=(0:Int))))),(p3 - (1:Int))))
 else
 if p0.op=(4:Int) then
 if (p0.args.length:Int)=(1:Int) then
 some (.inl ())
 else
 aN (
 some (false,(p3 - (1:Int))))
 else
 if p0.op=(5:Int) then
 some (.inl ())
 else
 if p0.op=(6:Int) then
 some (.inl ())
 else
 aN (
 some (false,(p3 - (1:Int))))) λ_=>
 if p0.var=(0:Int) then
 dN (
 bB (λ(x27,c28)=>
 if x27 < (p0.args.length:Int) then
 aU p0.args x27 λe31=>
 aD (I64 (p2+(1:Int))) <|
 aC ((iO fu) e31 p1 (p2+(1:Int)) c28) λ(r34,r35)=>
 if (!(r34))=true then
 aN (
 aN (
 some (false,r35)))
 else
 aD (I64 (x27+(1:Int))) <|
 some (.inl ((x27+(1:Int)),r35))
 else
 aN (
 some (.inl c28))) ((0:Int),(p3 - (1:Int)))) λc22=>
 some (true,c22)
 else
 some (false,(p3 - (1:Int)))
def qAR (p0:Expr) (p1:Int) (p2:Int) (p3:Int):Option (Bool×Int):=iO kN p0 p1 p2 p3
def pQ (p0:Expr) (p1:Int):Option Bool:=
 aC (qAR p0 p1 (1:Int) (20000:Int)) λ(r2,r3)=>
 some r2
def nE (p0:Program) (p1:Rung):Option Bool:=
 dN (
 if p1.kind=(1:Int) then
 if p1.preset=(0:Int) then
 some (.inl ())
 else
 aN (
 some false)
 else
 if p1.kind=(2:Int) then
 if ((decide (p1.preset < (1:Int)))||(decide ((1073741824:Int) < p1.preset)))=true then
 aN (
 some false)
 else
 some (.inl ())
 else
 aN (
 some false)) λ_=>
 aC (
 if p0.inputs≤p1.var then
 if p1.var < (p0.names.length:Int) then
 aC (pQ p1.expr (p0.names.length:Int)) λr14=>
 some r14
 else
 some false
 else
 some false) λx10=>
 some x10
def rR (p0:Program):Option Int:=
 if (2000:Int) < (p0.names.length:Int) then
 some (2:Int)
 else
 if ((decide (p0.inputs < (0:Int)))||(decide ((p0.names.length:Int) < p0.inputs)))=true then
 some (1:Int)
 else
 dN (
 bB (λx6=>
 if x6 < (p0.rungs.length:Int) then
 aU p0.rungs x6 λe9=>
 aC (nE p0 e9) λr10=>
 if (!(r10))=true then
 aN (
 aN (
 some (1:Int)))
 else
 aD (I64 (x6+(1:Int))) <|
 some (.inl (x6+(1:Int)))
 else
 aN (
 some (.inl ()))) (0:Int)) λ_=>
 aD (0≤(p0.names.length:Int)∧(p0.names.length:Int)≤1000000000) <|
 dN (
 bB (λ(x22,b23)=>
 if x22 < (p0.rungs.length:Int) then
 aU p0.rungs x22 λe26=>
 aU b23 e26.var λe27=>
 if e27=true then
 aN (
 aN (
 some (8:Int)))
 else
 aU b23 e26.var λe31=>
 aD (I64 (x22+(1:Int))) <|
 some (.inl ((x22+(1:Int)),(b23.set e26.var.toNat true)))
 else
 aN (
 some (.inl b23))) ((0:Int),(List.replicate (p0.names.length:Int).toNat false))) λb17=>
 some (0:Int)
def mU (p0:Program):Option Machine:=
 aC (rR p0) λr1=>
 if r1=(0:Int) then
 aD (0≤(p0.names.length:Int)∧(p0.names.length:Int)≤1000000000) <|
 aD (0≤(p0.rungs.length:Int)∧(p0.rungs.length:Int)≤1000000000) <|
 some (⟨(List.replicate (p0.names.length:Int).toNat false),(List.replicate (p0.rungs.length:Int).toNat (0:Int)),false⟩:Machine)
 else
 some (⟨([]:List Bool),([]:List Int),true⟩:Machine)
def eV (p0:(List Bool)) (p1:Int) (p2:Bool):Option Bool:=
 aC (
 if p1 < (p0.length:Int) then
 aU p0 p1 λe4=>
 some (e4 == p2)
 else
 some false) λx1=>
 some x1
def iC (p0:(List Int)) (p1:Int) (p2:Int):Option Bool:=
 aC (
 if p1 < (p0.length:Int) then
 aU p0 p1 λe4=>
 some (decide (e4=p2))
 else
 some false) λx1=>
 some x1
def hU (p0:Table) (p1:Inputs):Option ((List Bool)):=
 aC (gW p0) λr1=>
 if r1=(0:Int) then
 aC (
 bB (λ(x8,b9)=>
 if x8 < p0.sections then
 aC (eV p1.occupied x8 false) λr12=>
 aC (eV p1.closed x8 false) λr13=>
 aD ((b9++([r12,r13]:List Bool)).length≤1000000000) <|
 aD (I64 (x8+(1:Int))) <|
 some (.inl ((x8+(1:Int)),(b9++([r12,r13]:List Bool))))
 else
 aN (
 some b9)) ((0:Int),([]:List Bool))) λb3=>
 aC (
 bB (λ(x22,b23)=>
 if x22 < (p0.points.length:Int) then
 aC (iC p1.detected x22 (1:Int)) λr26=>
 aC (iC p1.detected x22 (2:Int)) λr27=>
 aD ((b23++([r26,r27]:List Bool)).length≤1000000000) <|
 aD (I64 (x22+(1:Int))) <|
 some (.inl ((x22+(1:Int)),(b23++([r26,r27]:List Bool))))
 else
 aN (
 some b23)) ((0:Int),b3)) λb17=>
 aC (
 bB (λ(x36,b37)=>
 if x36 < (p0.routes.length:Int) then
 aC (eV p1.claimed x36 false) λr40=>
 aC (eV p1.passed x36 true) λr41=>
 aC (bP p1.calls x36) λr42=>
 aC (bP p1.cancels x36) λr43=>
 aD ((b37++([r40,r41,r42,r43]:List Bool)).length≤1000000000) <|
 aD (I64 (x36+(1:Int))) <|
 some (.inl ((x36+(1:Int)),(b37++([r40,r41,r42,r43]:List Bool))))
 else
 aN (
 some b37)) ((0:Int),b17)) λb31=>
 some b31
 else
 some ([]:List Bool)
def uN (p0:Program) (p1:Machine):Option Bool:=
 aC (
 aC (rR p0) λr3=>
 if r3=(0:Int) then
 if (p1.vars.length:Int)=(p0.names.length:Int) then
 some (!(decide ((p1.counts.length:Int)=(p0.rungs.length:Int))))
 else
 some true
 else
 some true) λx1=>
 if x1=true then
 some false
 else
 dN (
 bB (λx9=>
 if x9 < (p0.rungs.length:Int) then
 aU p0.rungs x9 λe12=>
 aC (
 aU p1.counts x9 λe15=>
 if e15 < (0:Int) then
 some true
 else
 aU p1.counts x9 λe17=>
 some (decide (e12.preset < e17))) λx13=>
 if x13=true then
 aN (
 aN (
 some false))
 else
 aD (I64 (x9+(1:Int))) <|
 some (.inl (x9+(1:Int)))
 else
 aN (
 some (.inl ()))) (0:Int)) λ_=>
 some true
def xJ (p0:Program):Option Machine:=
 aC (mU p0) λr1=>
 some (⟨r1.vars,r1.counts,true⟩:Machine)
def jY (p0:(List Bool)):Option ((List Bool)):=
 qKM p0 (
 some ([]:List Bool)) (
 aD ((([]:List Bool)++p0).length≤1000000000) <|
 some (([]:List Bool)++p0))
def cT (p0:(List Int)):Option ((List Int)):=
 qKM p0 (
 some ([]:List Int)) (
 aD ((([]:List Int)++p0).length≤1000000000) <|
 some (([]:List Int)++p0))
def nP (p0:Int) (p1:Bool):Option (Int×Bool):=
 some (p0,p1)
def lE (p0:Int) (p1:Bool) (p2:Rung):Option (Int×Bool):=
 if (!(p1))=true then
 some ((0:Int),false)
 else
 if p0 < p2.preset then
 aD (I64 (p0+(1:Int))) <|
 some ((p0+(1:Int)),decide ((p0+(1:Int))=p2.preset))
 else
 some (p0,decide (p0=p2.preset))
def oQ (p0:Rung):Option Effect:=
 if p0.kind=(2:Int) then
 some (⟨(Fn110.c124 p0)⟩:Effect)
 else
 some (⟨Fn110.c123⟩:Effect)
def qP (p0:Expr):Option If_node:=
 if p0.op=(3:Int) then
 some (⟨180,p0⟩:If_node)
 else
 if p0.op=(4:Int) then
 if (0:Int) < (p0.args.length:Int) then
 some (⟨181,p0⟩:If_node)
 else
 some (⟨200,p0⟩:If_node)
 else
 if p0.op=(5:Int) then
 some (⟨182,p0⟩:If_node)
 else
 if p0.op=(6:Int) then
 some (⟨183,p0⟩:If_node)
 else
 some (⟨200,p0⟩:If_node)
def iU:Nat→Expr→(List Bool)→Option Bool
 | 0,_,_=>none
 | fu+1,p0,p1=>
 dN (
 aC (qP p0) λr2=>
 if r2.tid=180 then
 aC (
 if (0:Int)≤r2.e.var then
 if r2.e.var < (p1.length:Int) then
 aU p1 r2.e.var λe8=>
 some e8
 else
 some false
 else
 some false) λx4=>
 aN (
 some x4)
 else
 if r2.tid=181 then
 aU r2.e.args (0:Int) λe11=>
 aC ((iU fu) e11 p1) λr12=>
 aN (
 some (!(r12)))
 else
 if r2.tid=182 then
 dN (
 bB (λx17=>
 if x17 < (r2.e.args.length:Int) then
 aU r2.e.args x17 λe20=>
 aC ((iU fu) e20 p1) λr21=>
 if (!(r21))=true then
 aN (
 aN (
 aN (
 some false)))
 else
 aD (I64 (x17+(1:Int))) <|
 some (.inl (x17+(1:Int)))
 else
 aN (
 some (.inl ()))) (0:Int)) λ_=>
 aN (
 some true)
 else
 if r2.tid=183 then
 dN (
 bB (λx32=>
 if x32 < (r2.e.args.length:Int) then
 aU r2.e.args x32 λe35=>
 aC ((iU fu) e35 p1) λr36=>
 if r36=true then
 aN (
 aN (
 aN (
 some true)))
 else
 aD (I64 (x32+(1:Int))) <|
 some (.inl (x32+(1:Int)))
 else
 aN (
 some (.inl ()))) (0:Int)) λ_=>
 aN (
 some false)
 else
 some (.inl ())) λ_=>
 some (decide (p0.op=(2:Int)))
def qEG (p0:Expr) (p1:(List Bool)):Option Bool:=iU kN p0 p1
def uT (p0:Expr) (p1:(List Bool)):Option Bool:=
 aC (qEG p0 p1) λr1=>
 some r1
def qJ (p0:Program) (p1:Machine) (p2:(List Bool)):Option Machine:=
 aC (
 if (p1.halted)=true then
 some true
 else
 aC (uN p0 p1) λr4=>
 some (!(r4))) λx1=>
 if x1=true then
 aC (xJ p0) λr6=>
 some r6
 else
 aC (jY p1.vars) λr7=>
 aC (cT p1.counts) λr8=>
 aC (
 bB (λ(x14,b15)=>
 if x14 < p0.inputs then
 if x14 < (p2.length:Int) then
 aU p2 x14 λe21=>
 aU b15 x14 λe22=>
 aD (I64 (x14+(1:Int))) <|
 some (.inl ((x14+(1:Int)),(b15.set x14.toNat e21)))
 else
 aU b15 x14 λe19=>
 aD (I64 (x14+(1:Int))) <|
 some (.inl ((x14+(1:Int)),(b15.set x14.toNat false)))
 else
 aN (
 some b15)) ((0:Int),r7)) λb9=>
 aC (
 bB (λ(x32,b33,b34)=>
 if x32 < (p0.rungs.length:Int) then
 aU p0.rungs x32 λe37=>
 aC (oQ e37) λr38=>
 aU b34 x32 λe39=>
 aC (uT e37.expr b33) λr40=>
 (match r38.act with
 | .c123=>
 aC (nP e39 r40) λ(r43,r44)=>
 aU b34 x32 λe45=>
 aU b33 e37.var λe46=>
 aD (I64 (x32+(1:Int))) <|
 some (.inl ((x32+(1:Int)),(b33.set e37.var.toNat r44),(b34.set x32.toNat r43)))
 | .c124 u48=>
 aC (lE e39 r40 u48) λ(r50,r51)=>
 aU b34 x32 λe52=>
 aU b33 e37.var λe53=>
 aD (I64 (x32+(1:Int))) <|
 some (.inl ((x32+(1:Int)),(b33.set e37.var.toNat r51),(b34.set x32.toNat r50))))
 else
 aN (
 some (b33,b34))) ((0:Int),b9,r8)) λ(b25,b26)=>
 some (⟨b25,b26,false⟩:Machine)
def fB (p0:Numbering) (p1:Machine):Option Bool:=
 aC (
 if (p1.vars.length:Int)=p0.count then
 aD (I64 (p0.count - p0.inputs)) <|
 some (decide ((p1.counts.length:Int)=(p0.count - p0.inputs)))
 else
 some false) λx1=>
 some x1
def eI (p0:Numbering) (p1:Machine) (p2:Int):Option RouteState:=
 aC (
 bB (λx4=>
 if x4 < (4:Int) then
 aU ([(1:Int),(2:Int),(3:Int),(4:Int)]:List Int) x4 λe7=>
 aD (I64 ((0:Int)+x4)) <|
 aC (aW p0 p2 ((0:Int)+x4)) λr9=>
 aU p1.vars r9 λe10=>
 if e10=true then
 aN (
 some e7)
 else
 aD (I64 (x4+(1:Int))) <|
 some (.inl (x4+(1:Int)))
 else
 aN (
 some (0:Int))) (0:Int)) λc1=>
 if ((!(decide (c1=(3:Int))))&&(!(decide (c1=(4:Int)))))=true then
 some (⟨c1,(0:Int),(0:Int)⟩:RouteState)
 else
 aC (
 bB (λc20=>
 aC (
 aC (aT p0 p2) λr24=>
 if c20 < r24 then
 aD (I64 ((4:Int)+c20)) <|
 aC (aW p0 p2 ((4:Int)+c20)) λr27=>
 aU p1.vars r27 λe28=>
 some e28
 else
 some false) λx22=>
 if x22=true then
 aD (I64 (c20+(1:Int))) <|
 some (.inl (c20+(1:Int)))
 else
 aN (
 some c20)) (0:Int)) λc17=>
 if c1=(4:Int) then
 aD (I64 ((2:Int) * p2)) <|
 aU p1.counts ((2:Int) * p2) λe34=>
 some (⟨c1,c17,e34⟩:RouteState)
 else
 aD (I64 ((2:Int) * p2)) <|
 aD (I64 (((2:Int) * p2)+(1:Int))) <|
 aU p1.counts (((2:Int) * p2)+(1:Int)) λe37=>
 some (⟨c1,c17,e37⟩:RouteState)
def kH (p0:Table) (p1:Machine):Option Inter:=
 aC (jF p0) λ(r2,r3)=>
 aC (
 if r3=(0:Int) then
 aC (fB r2 p1) λr7=>
 some (!(r7))
 else
 some true) λx4=>
 if x4=true then
 some (⟨([]:List RouteState),([]:List Int)⟩:Inter)
 else
 aC (
 bB (λ(x14,b15)=>
 if x14 < (p0.routes.length:Int) then
 aC (eI r2 p1 x14) λr18=>
 aD ((b15++([r18]:List RouteState)).length≤1000000000) <|
 aD (I64 (x14+(1:Int))) <|
 some (.inl ((x14+(1:Int)),(b15++([r18]:List RouteState))))
 else
 aN (
 some b15)) ((0:Int),([]:List RouteState))) λb9=>
 aC (
 bB (λ(x27,b28)=>
 if x27 < (p0.points.length:Int) then
 aC (
 aC (dI r2 x27) λr33=>
 aU p1.vars r33 λe34=>
 if e34=true then
 some (2:Int)
 else
 some (1:Int)) λpos31=>
 aD ((b28++([pos31]:List Int)).length≤1000000000) <|
 aD (I64 (x27+(1:Int))) <|
 some (.inl ((x27+(1:Int)),(b28++([pos31]:List Int))))
 else
 aN (
 some b28)) ((0:Int),([]:List Int))) λb22=>
 some (⟨b9,b22⟩:Inter)
def lN (p0:Table) (p1:Machine):Option ((List Bool)):=
 aC (gW p0) λr1=>
 if r1=(0:Int) then
 aD (0≤p0.signals∧p0.signals≤1000000000) <|
 aC (jF p0) λ(r5,r6)=>
 aC (
 if r6=(0:Int) then
 if (p1.halted)=true then
 some true
 else
 aC (fB r5 p1) λr11=>
 some (!(r11))
 else
 some true) λx7=>
 if x7=true then
 some (List.replicate p0.signals.toNat false)
 else
 aC (
 bB (λ(x18,b19)=>
 if x18 < (p0.routes.length:Int) then
 aU p0.routes x18 λe22=>
 aC (aW r5 x18 (1:Int)) λr23=>
 aU p1.vars r23 λe24=>
 if e24=true then
 aU b19 e22.entry λe26=>
 aD (I64 (x18+(1:Int))) <|
 some (.inl ((x18+(1:Int)),(b19.set e22.entry.toNat true)))
 else
 aD (I64 (x18+(1:Int))) <|
 some (.inl ((x18+(1:Int)),b19))
 else
 aN (
 some b19)) ((0:Int),(List.replicate p0.signals.toNat false))) λb13=>
 some b13
 else
 some ([]:List Bool)
def oE:Option Bool:=
 aC (qAQ) λr1=>
 aC (jT r1) λ(r3,r4)=>
 aC (
 if r4=(0:Int) then
 if (r3.names.length:Int)=(36:Int) then
 if r3.inputs=(14:Int) then
 if (r3.rungs.length:Int)=(22:Int) then
 aU r3.names (6:Int) λe11=>
 if e11=(⟨#[117,110,99,108,97,105,109,101,100,46,48]⟩:ByteArray) then
 aU r3.names (14:Int) λe13=>
 if e13=(⟨#[115,101,116,46,48]⟩:ByteArray) then
 aU r3.names (18:Int) λe15=>
 if e15=(⟨#[119,97,105,116,46,48]⟩:ByteArray) then
 aU r3.names (26:Int) λe17=>
 some (!(decide (e17=(⟨#[107,101,101,112,46,48]⟩:ByteArray))))
 else
 some true
 else
 some true
 else
 some true
 else
 some true
 else
 some true
 else
 some true
 else
 some true) λx5=>
 if x5=true then
 some false
 else
 aD (0≤(3:Int)∧(3:Int)≤1000000000) <|
 aD (0≤(3:Int)∧(3:Int)≤1000000000) <|
 aD (0≤(2:Int)∧(2:Int)≤1000000000) <|
 aC (mU r3) λr22=>
 aC (hU r1 (⟨(List.replicate (3:Int).toNat false),([]:List Int),(List.replicate (3:Int).toNat false),(List.replicate (2:Int).toNat false),([]:List Bool),([(0:Int)]:List Int),([]:List Int)⟩:Inputs)) λr23=>
 aC (qJ r3 r22 r23) λr24=>
 aC (hU r1 (⟨(List.replicate (3:Int).toNat false),([]:List Int),(List.replicate (3:Int).toNat false),(List.replicate (2:Int).toNat false),([]:List Bool),([]:List Int),([]:List Int)⟩:Inputs)) λr25=>
 aC (qJ r3 r24 r25) λr26=>
 aC (kH r1 r24) λr27=>
 aC (kH r1 r26) λr28=>
 if ((!(decide ((r27.routes.length:Int)=(2:Int))))||(!(decide ((r28.routes.length:Int)=(2:Int)))))=true then
 some false
 else
 aC (lN r1 r26) λr31=>
 aC (
 aU r27.routes (0:Int) λe34=>
 aD (RouteState.ok e34∧RouteState.ok (⟨(1:Int),(0:Int),(0:Int)⟩:RouteState)) <|
 if e34=(⟨(1:Int),(0:Int),(0:Int)⟩:RouteState) then
 aU r28.routes (0:Int) λe38=>
 aD (RouteState.ok e38∧RouteState.ok (⟨(2:Int),(0:Int),(0:Int)⟩:RouteState)) <|
 if e38=(⟨(2:Int),(0:Int),(0:Int)⟩:RouteState) then
 if (r31.length:Int)=(2:Int) then
 aU r31 (0:Int) λe43=>
 if e43=true then
 aU r31 (1:Int) λe45=>
 some (!(e45))
 else
 some false
 else
 some false
 else
 some false
 else
 some false) λx32=>
 some x32
def mH (p0:Table):Option Places:=
 aD (I64 ((2:Int) * p0.sections)) <|
 aD (I64 ((2:Int) * (p0.points.length:Int))) <|
 aD (I64 (((2:Int) * p0.sections)+((2:Int) * (p0.points.length:Int)))) <|
 aD (I64 ((4:Int) * (p0.routes.length:Int))) <|
 aD (I64 ((((2:Int) * p0.sections)+((2:Int) * (p0.points.length:Int)))+((4:Int) * (p0.routes.length:Int)))) <|
 aD (I64 (((((2:Int) * p0.sections)+((2:Int) * (p0.points.length:Int)))+((4:Int) * (p0.routes.length:Int)))+(p0.points.length:Int))) <|
 aC (
 bB (λ(at15,i16,b17)=>
 if i16 < (p0.routes.length:Int) then
 aD ((b17++([at15]:List Int)).length≤1000000000) <|
 aD (I64 (at15+(6:Int))) <|
 aU p0.routes i16 λe22=>
 aD (I64 ((e22.sections.length:Int) - (1:Int))) <|
 aD (I64 ((at15+(6:Int))+(max (0:Int) ((e22.sections.length:Int) - (1:Int))))) <|
 aD (I64 (i16+(1:Int))) <|
 some (.inl (((at15+(6:Int))+(max (0:Int) ((e22.sections.length:Int) - (1:Int)))),(i16+(1:Int)),(b17++([at15]:List Int))))
 else
 aN (
 some (at15,b17))) ((((((2:Int) * p0.sections)+((2:Int) * (p0.points.length:Int)))+((4:Int) * (p0.routes.length:Int)))+(p0.points.length:Int)),(0:Int),([]:List Int))) λ(at7,b8)=>
 aD (I64 ((5:Int) * (p0.routes.length:Int))) <|
 aD (I64 (at7+((5:Int) * (p0.routes.length:Int)))) <|
 some (⟨((2:Int) * p0.sections),(((2:Int) * p0.sections)+((2:Int) * (p0.points.length:Int))),((((2:Int) * p0.sections)+((2:Int) * (p0.points.length:Int)))+((4:Int) * (p0.routes.length:Int))),at7,(at7+((5:Int) * (p0.routes.length:Int))),b8⟩:Places)
def qN (p0:(List Bool)) (p1:(List Bool)):Option Bool:=
 if (p0.length:Int)=(p1.length:Int) then
 dN (
 bB (λx4=>
 if x4 < (p0.length:Int) then
 aU p0 x4 λe7=>
 aU p1 x4 λe8=>
 if (!((e7 == e8)))=true then
 aN (
 aN (
 some false))
 else
 aD (I64 (x4+(1:Int))) <|
 some (.inl (x4+(1:Int)))
 else
 aN (
 some (.inl ()))) (0:Int)) λ_=>
 some true
 else
 some false
def sI (p0:Inter) (p1:Inter):Option Bool:=
 if ((!(decide ((p0.routes.length:Int)=(p1.routes.length:Int))))||(!(decide ((p0.lies.length:Int)=(p1.lies.length:Int)))))=true then
 some false
 else
 dN (
 bB (λi5=>
 if i5 < (p0.routes.length:Int) then
 aU p0.routes i5 λe8=>
 aU p1.routes i5 λe9=>
 aD (RouteState.ok e8∧RouteState.ok e9) <|
 if e8=e9 then
 aD (I64 (i5+(1:Int))) <|
 some (.inl (i5+(1:Int)))
 else
 aN (
 aN (
 some false))
 else
 aN (
 some (.inl ()))) (0:Int)) λ_=>
 dN (
 bB (λi19=>
 if i19 < (p0.lies.length:Int) then
 aU p0.lies i19 λe22=>
 aU p1.lies i19 λe23=>
 if e22=e23 then
 aD (I64 (i19+(1:Int))) <|
 some (.inl (i19+(1:Int)))
 else
 aN (
 aN (
 some false))
 else
 aN (
 some (.inl ()))) (0:Int)) λ_=>
 some true
def lH (p0:Table):Option Inter:=
 aC (gW p0) λr1=>
 if r1=(0:Int) then
 aD (0≤(p0.routes.length:Int)∧(p0.routes.length:Int)≤1000000000) <|
 aC (
 bB (λ(x9,b10)=>
 if x9 < (p0.points.length:Int) then
 aD ((b10++([(1:Int)]:List Int)).length≤1000000000) <|
 aD (I64 (x9+(1:Int))) <|
 some (.inl ((x9+(1:Int)),(b10++([(1:Int)]:List Int))))
 else
 aN (
 some b10)) ((0:Int),([]:List Int))) λb4=>
 some (⟨(List.replicate (p0.routes.length:Int).toNat (⟨(0:Int),(0:Int),(0:Int)⟩:RouteState)),b4⟩:Inter)
 else
 some (⟨([]:List RouteState),([]:List Int)⟩:Inter)
def sQ (p0:(List Int)):Option ((List Int)):=
 aC (cT p0) λr1=>
 aD (r1.length≤1000000000) <|
 aD ((qF r1).length≤1000000000) <|
 some (Go.Lib.compact (qF r1))
def lG (p0:RouteState) (p1:Int):Option Bool:=
 aC (
 if p0.state=(0:Int) then
 some (decide (p0.state=(0:Int)))
 else
 if p0.state=(1:Int) then
 some (decide (p0.state=(1:Int)))
 else
 some (decide (p0.state=(2:Int)))) λx1=>
 if x1=true then
 some ((decide (p0.rel=(0:Int)))&&(decide (p0.timer=(0:Int))))
 else
 if p0.state=(3:Int) then
 if ((decide (p0.rel < (0:Int)))||(decide (p1≤p0.rel)))=true then
 some false
 else
 aC (
 if p0.timer=(0:Int) then
 some true
 else
 aD (I64 (p1 - (1:Int))) <|
 if p0.rel=(p1 - (1:Int)) then
 if (0:Int) < p0.timer then
 some (decide (p0.timer < (4:Int)))
 else
 some false
 else
 some false) λx10=>
 some x10
 else
 if p0.state=(4:Int) then
 some ((decide ((0:Int)≤p0.rel))&&((decide (p0.rel < p1))&&((decide ((0:Int)≤p0.timer))&&(decide (p0.timer < (12:Int))))))
 else
 some false
def nR (p0:Table) (p1:Inter):Option Bool:=
 aC (
 aC (gW p0) λr3=>
 if r3=(0:Int) then
 if (p1.routes.length:Int)=(p0.routes.length:Int) then
 some (!(decide ((p1.lies.length:Int)=(p0.points.length:Int))))
 else
 some true
 else
 some true) λx1=>
 if x1=true then
 some false
 else
 dN (
 bB (λx9=>
 if x9 < (p1.routes.length:Int) then
 aU p1.routes x9 λe12=>
 aU p0.routes x9 λe13=>
 aC (lG e12 (e13.sections.length:Int)) λr14=>
 if (!(r14))=true then
 aN (
 aN (
 some false))
 else
 aD (I64 (x9+(1:Int))) <|
 some (.inl (x9+(1:Int)))
 else
 aN (
 some (.inl ()))) (0:Int)) λ_=>
 dN (
 bB (λx22=>
 if x22 < (p1.lies.length:Int) then
 aU p1.lies x22 λe25=>
 if ((!(decide (e25=(1:Int))))&&(!(decide (e25=(2:Int)))))=true then
 aN (
 aN (
 some false))
 else
 aD (I64 (x22+(1:Int))) <|
 some (.inl (x22+(1:Int)))
 else
 aN (
 some (.inl ()))) (0:Int)) λ_=>
 some true
def pO (p0:Route) (p1:RouteState):Option ((List Int)):=
 if p1.state=(0:Int) then
 some ([]:List Int)
 else
 aD (0≤p1.rel∧p1.rel≤(p0.sections.length:Int)∧(p0.sections.length:Int)≤(p0.sections.length:Int)) <|
 aC (cT (sub p0.sections p1.rel (p0.sections.length:Int))) λr3=>
 some r3
def sK (p0:Route) (p1:RouteState):Option ((List Int)):=
 if p1.state=(0:Int) then
 some ([]:List Int)
 else
 aC (cT p0.overSections) λr2=>
 some r2
def kY (p0:Route) (p1:RouteState):Option ((List A2_int)):=
 aC (
 aC (pO p0 p1) λr3=>
 bB (λ(x7,b8)=>
 if x7 < (r3.length:Int) then
 aU r3 x7 λe11=>
 aD ((b8++([(⟨e11,(0:Int)⟩:A2_int)]:List A2_int)).length≤1000000000) <|
 aD (I64 (x7+(1:Int))) <|
 some (.inl ((x7+(1:Int)),(b8++([(⟨e11,(0:Int)⟩:A2_int)]:List A2_int))))
 else
 aN (
 some b8)) ((0:Int),([]:List A2_int))) λb1=>
 aC (
 aC (sK p0 p1) λr17=>
 bB (λ(x21,b22)=>
 if x21 < (r17.length:Int) then
 aU r17 x21 λe25=>
 aD ((b22++([(⟨e25,(1:Int)⟩:A2_int)]:List A2_int)).length≤1000000000) <|
 aD (I64 (x21+(1:Int))) <|
 some (.inl ((x21+(1:Int)),(b22++([(⟨e25,(1:Int)⟩:A2_int)]:List A2_int))))
 else
 aN (
 some b22)) ((0:Int),b1)) λb15=>
 some b15
def rT (p0:(List A2_int)) (p1:Int) (p2:Int):Option Bool:=
 dN (
 bB (λx3=>
 if x3 < (p0.length:Int) then
 aU p0 x3 λe6=>
 aD (A2_int.ok e6∧A2_int.ok (⟨p1,p2⟩:A2_int)) <|
 if e6=(⟨p1,p2⟩:A2_int) then
 aN (
 aN (
 some true))
 else
 aD (I64 (x3+(1:Int))) <|
 some (.inl (x3+(1:Int)))
 else
 aN (
 some (.inl ()))) (0:Int)) λ_=>
 some false
def mK (p0:Route) (p1:Route) (p2:(List A2_int)) (p3:(List A2_int)):Option Bool:=
 aC (fA p0 p1) λr1=>
 aC (fA p1 p0) λr2=>
 dN (
 bB (λx5=>
 if x5 < (p2.length:Int) then
 aU p2 x5 λe8=>
 aC (
 aC (rT p3 e8.a0 (0:Int)) λr11=>
 if r11=true then
 if e8.a1=(0:Int) then
 some true
 else
 some (!(r1))
 else
 some false) λx9=>
 if x9=true then
 aN (
 aN (
 some true))
 else
 aC (
 aC (rT p3 e8.a0 (1:Int)) λr19=>
 if r19=true then
 if (!(r2))=true then
 if e8.a1=(0:Int) then
 some true
 else
 some (!(r1))
 else
 some false
 else
 some false) λx17=>
 if x17=true then
 aN (
 aN (
 some true))
 else
 aD (I64 (x5+(1:Int))) <|
 some (.inl (x5+(1:Int)))
 else
 aN (
 some (.inl ()))) (0:Int)) λ_=>
 some false
def uQ (p0:(List Int)) (p1:Int):Option Bool:=
 aC (bP p0 p1) λr1=>
 some r1
def oC (p0:Table) (p1:Route) (p2:RouteState):Option ((List Setting)):=
 if p2.state=(0:Int) then
 some ([]:List Setting)
 else
 aC (
 bB (λ(x7,b8)=>
 if x7 < (p1.points.length:Int) then
 aU p1.points x7 λe11=>
 aD (0≤(0:Int)∧(0:Int)≤p2.rel∧p2.rel≤(p1.sections.length:Int)) <|
 aC (eK p0 e11.el) λr13=>
 aU p0.homes r13 λe14=>
 aC (uQ (sub p1.sections (0:Int) p2.rel) e14) λr15=>
 if (!(r15))=true then
 aD ((b8++([e11]:List Setting)).length≤1000000000) <|
 aD (I64 (x7+(1:Int))) <|
 some (.inl ((x7+(1:Int)),(b8++([e11]:List Setting))))
 else
 aD (I64 (x7+(1:Int))) <|
 some (.inl ((x7+(1:Int)),b8))
 else
 aN (
 some b8)) ((0:Int),([]:List Setting))) λb2=>
 aC (dW (⟨(⟨#[]⟩:ByteArray),(0:Int),(0:Int),([]:List Step),b2,([]:List Int),(0:Int),(0:Int),([]:List Step),p1.overPoints,([]:List Int),p1.flank,([]:List Int),([]:List End)⟩:Route)) λr21=>
 some r21
def oD (p0:Table) (p1:Inter):Option Bool:=
 aC (nR p0 p1) λr1=>
 if (!(r1))=true then
 some false
 else
 aC (
 bB (λ(x8,b9)=>
 if x8 < (p0.routes.length:Int) then
 aU p0.routes x8 λe12=>
 aU p1.routes x8 λe13=>
 aC (kY e12 e13) λr14=>
 aD ((b9++([r14]:List (List A2_int))).length≤1000000000) <|
 aD (I64 (x8+(1:Int))) <|
 some (.inl ((x8+(1:Int)),(b9++([r14]:List (List A2_int)))))
 else
 aN (
 some b9)) ((0:Int),([]:List (List A2_int)))) λb3=>
 dN (
 bB (λx20=>
 if x20 < (p0.routes.length:Int) then
 dN (
 bB (λx25=>
 if x25 < x20 then
 aU p0.routes x20 λe28=>
 aU p0.routes x25 λe29=>
 aU b3 x20 λe30=>
 aU b3 x25 λe31=>
 aC (mK e28 e29 e30 e31) λr32=>
 if r32=true then
 aN (
 aN (
 aN (
 aN (
 some false))))
 else
 aD (I64 (x25+(1:Int))) <|
 some (.inl (x25+(1:Int)))
 else
 aN (
 some (.inl ()))) (0:Int)) λ_=>
 aD (I64 (x20+(1:Int))) <|
 some (.inl (x20+(1:Int)))
 else
 aN (
 some (.inl ()))) (0:Int)) λ_=>
 dN (
 bB (λx44=>
 if x44 < (p0.routes.length:Int) then
 dN (
 aU p0.routes x44 λe48=>
 aU p1.routes x44 λe49=>
 aC (oC p0 e48 e49) λr50=>
 bB (λx52=>
 if x52 < (r50.length:Int) then
 aU r50 x52 λe55=>
 aC (eK p0 e55.el) λr56=>
 aU p1.lies r56 λe57=>
 if e57=e55.pos then
 aD (I64 (x52+(1:Int))) <|
 some (.inl (x52+(1:Int)))
 else
 aN (
 aN (
 aN (
 aN (
 some false))))
 else
 aN (
 some (.inl ()))) (0:Int)) λ_=>
 aD (I64 (x44+(1:Int))) <|
 some (.inl (x44+(1:Int)))
 else
 aN (
 some (.inl ()))) (0:Int)) λ_=>
 some true
def fQ (p0:(List RouteState)):Option ((List RouteState)):=
 qKM p0 (
 some ([]:List RouteState)) (
 aD ((([]:List RouteState)++p0).length≤1000000000) <|
 some (([]:List RouteState)++p0))
def jS (p0:Inter):Option Inter:=
 aC (fQ p0.routes) λr1=>
 aC (cT p0.lies) λr2=>
 some (⟨r1,r2⟩:Inter)
def jX (p0:(List Int)) (p1:Int→Option Bool):Option Int:=
 dN (
 bB (λx3=>
 if x3 < (p0.length:Int) then
 aU p0 x3 λe6=>
 aC (p1 e6) λr7=>
 if r7=true then
 aN (
 aN (
 some x3))
 else
 aD (I64 (x3+(1:Int))) <|
 some (.inl (x3+(1:Int)))
 else
 aN (
 some (.inl ()))) (0:Int)) λ_=>
 some (-1:Int)
def eO (p0:(List Int)) (p1:Int→Option Bool):Option Bool:=
 aC (jX p0 p1) λr1=>
 some (decide ((0:Int)≤r1))
def mT (p0:Int):Option Bool:=
 some ((!(decide (p0=(1:Int))))&&(!(decide (p0=(2:Int)))))
def nC (p0:Table) (p1:Inter):Option Bool:=
 aC (
 aC (gW p0) λr3=>
 if r3=(0:Int) then
 if (p1.routes.length:Int)=(p0.routes.length:Int) then
 some (!(decide ((p1.lies.length:Int)=(p0.points.length:Int))))
 else
 some true
 else
 some true) λx1=>
 if x1=true then
 some false
 else
 dN (
 bB (λx9=>
 if x9 < (p1.routes.length:Int) then
 aU p1.routes x9 λe12=>
 aU p0.routes x9 λe13=>
 if ((decide (e12.state < (0:Int)))||(decide ((4:Int) < e12.state)))=true then
 aN (
 aN (
 some false))
 else
 if ((!(((decide (e12.state=(3:Int)))||(decide (e12.state=(4:Int))))))&&((!(decide (e12.rel=(0:Int))))||(!(decide (e12.timer=(0:Int))))))=true then
 aN (
 aN (
 some false))
 else
 if ((decide (e12.rel < (0:Int)))||((decide ((e13.sections.length:Int)≤e12.rel))||(decide (e12.timer < (0:Int)))))=true then
 aN (
 aN (
 some false))
 else
 aC (
 if e12.state=(3:Int) then
 if (0:Int) < e12.timer then
 aD (I64 ((e13.sections.length:Int) - (1:Int))) <|
 if e12.rel=((e13.sections.length:Int) - (1:Int)) then
 some (decide ((4:Int)≤e12.timer))
 else
 some true
 else
 some false
 else
 some false) λx29=>
 if x29=true then
 aN (
 aN (
 some false))
 else
 if ((decide (e12.state=(4:Int)))&&(decide ((12:Int)≤e12.timer)))=true then
 aN (
 aN (
 some false))
 else
 aD (I64 (x9+(1:Int))) <|
 some (.inl (x9+(1:Int)))
 else
 aN (
 some (.inl ()))) (0:Int)) λ_=>
 aC (eO p1.lies mT) λr44=>
 some (!(r44))
def sM (p0:Table) (p1:Inter) (p2:Int):Option ((List Int)):=
 aC (
 if p2 < (0:Int) then
 some true
 else
 if (p0.routes.length:Int)≤p2 then
 some true
 else
 aC (nR p0 p1) λr5=>
 some (!(r5))) λx1=>
 if x1=true then
 some ([]:List Int)
 else
 aU p0.routes p2 λe7=>
 aU p1.routes p2 λe8=>
 aC (pO e7 e8) λr9=>
 some r9
def eA (p0:Inputs) (p1:Int):Option Bool:=
 aC (
 if p1 < (0:Int) then
 some true
 else
 if (p0.occupied.length:Int)≤p1 then
 some true
 else
 aU p0.occupied p1 λe5=>
 some e5) λx1=>
 some x1
def eY (p0:Table) (p1:Inter) (p2:Inputs) (p3:Int):Option Bool:=
 dN (
 aC (sM p0 p1 p3) λr2=>
 bB (λx4=>
 if x4 < (r2.length:Int) then
 aU r2 x4 λe7=>
 aC (eA p2 e7) λr8=>
 if r8=true then
 aN (
 aN (
 some false))
 else
 aD (I64 (x4+(1:Int))) <|
 some (.inl (x4+(1:Int)))
 else
 aN (
 some (.inl ()))) (0:Int)) λ_=>
 some true
def jR (p0:Table) (p1:Inputs) (p2:Route):Option Bool:=
 dN (
 aC (gA ([p2.sections,p2.overSections]:List (List Int))) λr2=>
 bB (λx4=>
 if x4 < (r2.length:Int) then
 aU r2 x4 λe7=>
 aC (eA p1 e7) λr8=>
 if r8=true then
 aN (
 aN (
 some false))
 else
 aD (I64 (x4+(1:Int))) <|
 some (.inl (x4+(1:Int)))
 else
 aN (
 some (.inl ()))) (0:Int)) λ_=>
 dN (
 aC (dW p2) λr15=>
 bB (λx17=>
 if x17 < (r15.length:Int) then
 aU r15 x17 λe20=>
 aC (eK p0 e20.el) λr21=>
 aC (
 if (p1.detected.length:Int)≤r21 then
 some true
 else
 aU p1.detected r21 λe25=>
 some (!(decide (e25=e20.pos)))) λx22=>
 if x22=true then
 aN (
 aN (
 some false))
 else
 aD (I64 (x17+(1:Int))) <|
 some (.inl (x17+(1:Int)))
 else
 aN (
 some (.inl ()))) (0:Int)) λ_=>
 some true
def iG (p0:View):Option RouteState:=
 aU p0.route.sections (0:Int) λe1=>
 aC (eA p0.inV e1) λr2=>
 if r2=true then
 some (⟨(3:Int),(0:Int),(0:Int)⟩:RouteState)
 else
 aC (
 if (p0.cancelled)=true then
 if (!(p0.claimed))=true then
 aC (eA p0.inV p0.route.approach) λr8=>
 some (!(r8))
 else
 some false
 else
 some false) λx4=>
 if x4=true then
 some (⟨(0:Int),(0:Int),(0:Int)⟩:RouteState)
 else
 aC (
 if (p0.cancelled)=true then
 some true
 else
 aC (jR p0.t p0.inV p0.route) λr13=>
 some (!(r13))) λx10=>
 if x10=true then
 some (⟨(4:Int),(0:Int),(0:Int)⟩:RouteState)
 else
 some (⟨(2:Int),(0:Int),(0:Int)⟩:RouteState)
def jC (p0:View):Option RouteState:=
 aD (I64 ((p0.route.sections.length:Int) - (1:Int))) <|
 if (p0.claimed)=true then
 some (⟨(3:Int),p0.old.rel,(0:Int)⟩:RouteState)
 else
 if ((p0.cancelled)&&(p0.emptied))=true then
 some (⟨(4:Int),p0.old.rel,(0:Int)⟩:RouteState)
 else
 aU p0.route.sections p0.old.rel λe5=>
 aC (eA p0.inV e5) λr6=>
 if (!(r6))=true then
 if p0.old.rel=((p0.route.sections.length:Int) - (1:Int)) then
 some (⟨(0:Int),(0:Int),(0:Int)⟩:RouteState)
 else
 aC (
 if (p0.passed)=true then
 some true
 else
 aD (I64 (p0.old.rel+(1:Int))) <|
 aU p0.route.sections (p0.old.rel+(1:Int)) λe13=>
 aC (eA p0.inV e13) λr14=>
 some r14) λx9=>
 if x9=true then
 aD (I64 (p0.old.rel+(1:Int))) <|
 some (⟨(3:Int),(p0.old.rel+(1:Int)),(0:Int)⟩:RouteState)
 else
 some (⟨(3:Int),p0.old.rel,(0:Int)⟩:RouteState)
 else
 if p0.old.rel < ((p0.route.sections.length:Int) - (1:Int)) then
 some (⟨(3:Int),p0.old.rel,(0:Int)⟩:RouteState)
 else
 aD (I64 (p0.old.timer+(1:Int))) <|
 if (p0.old.timer+(1:Int))=(4:Int) then
 some (⟨(0:Int),(0:Int),(0:Int)⟩:RouteState)
 else
 some (⟨(3:Int),p0.old.rel,(p0.old.timer+(1:Int))⟩:RouteState)
def jD (p0:View):Option RouteState:=
 aU p0.route.sections p0.old.rel λe1=>
 aC (eA p0.inV e1) λr2=>
 if r2=true then
 some (⟨(3:Int),p0.old.rel,(0:Int)⟩:RouteState)
 else
 if ((p0.claimed)||(!(p0.emptied)))=true then
 some (⟨(4:Int),p0.old.rel,(0:Int)⟩:RouteState)
 else
 aD (I64 (p0.old.timer+(1:Int))) <|
 if (p0.old.timer+(1:Int))=(12:Int) then
 some (⟨(0:Int),(0:Int),(0:Int)⟩:RouteState)
 else
 some (⟨(4:Int),p0.old.rel,(p0.old.timer+(1:Int))⟩:RouteState)
def nD (p0:Table) (p1:Inter) (p2:Inputs) (p3:Int):Option RouteState:=
 aC (
 if p3 < (0:Int) then
 some true
 else
 if (p0.routes.length:Int)≤p3 then
 some true
 else
 aC (nC p0 p1) λr5=>
 some (!(r5))) λx1=>
 if x1=true then
 some (⟨(0:Int),(0:Int),(0:Int)⟩:RouteState)
 else
 aC (
 aU p0.routes p3 λe29=>
 aU p1.routes p3 λe30=>
 if (p2.claimed.length:Int)≤p3 then
 if p3 < (p2.passed.length:Int) then
 aU p2.passed p3 λe42=>
 aC (bP p2.cancels p3) λr43=>
 aC (eY p0 p1 p2 p3) λr44=>
 some (e29.name,e29.entry,e29.exit,e29.path,e29.points,e29.sections,e29.approach,e29.length,e29.over,e29.overPoints,e29.overSections,e29.flank,e29.guards,e29.gaps,e30.state,e30.rel,e30.timer,true,e42,r43,r44)
 else
 aC (bP p2.cancels p3) λr40=>
 aC (eY p0 p1 p2 p3) λr41=>
 some (e29.name,e29.entry,e29.exit,e29.path,e29.points,e29.sections,e29.approach,e29.length,e29.over,e29.overPoints,e29.overSections,e29.flank,e29.guards,e29.gaps,e30.state,e30.rel,e30.timer,true,false,r40,r41)
 else
 aU p2.claimed p3 λe32=>
 if p3 < (p2.passed.length:Int) then
 aU p2.passed p3 λe36=>
 aC (bP p2.cancels p3) λr37=>
 aC (eY p0 p1 p2 p3) λr38=>
 some (e29.name,e29.entry,e29.exit,e29.path,e29.points,e29.sections,e29.approach,e29.length,e29.over,e29.overPoints,e29.overSections,e29.flank,e29.guards,e29.gaps,e30.state,e30.rel,e30.timer,e32,e36,r37,r38)
 else
 aC (bP p2.cancels p3) λr34=>
 aC (eY p0 p1 p2 p3) λr35=>
 some (e29.name,e29.entry,e29.exit,e29.path,e29.points,e29.sections,e29.approach,e29.length,e29.over,e29.overPoints,e29.overSections,e29.flank,e29.guards,e29.gaps,e30.state,e30.rel,e30.timer,e32,false,r34,r35)) λ(c7,c8,c9,c10,c11,c12,c13,c14,c15,c16,c17,c18,c19,c20,c21,c22,c23,c24,c25,c26,c27)=>
 dN (
 if c21=(1:Int) then
 if c26=true then
 aN (
 some (⟨(0:Int),(0:Int),(0:Int)⟩:RouteState))
 else
 aC (jR p0 p2 (⟨c7,c8,c9,c10,c11,c12,c13,c14,c15,c16,c17,c18,c19,c20⟩:Route)) λr49=>
 if (!(r49))=true then
 aN (
 some (⟨c21,c22,c23⟩:RouteState))
 else
 some (.inl ())
 else
 if c21=(2:Int) then
 some (.inl ())
 else
 if c21=(3:Int) then
 aN (
 aC (jC (⟨p0,p2,(⟨c7,c8,c9,c10,c11,c12,c13,c14,c15,c16,c17,c18,c19,c20⟩:Route),(⟨c21,c22,c23⟩:RouteState),c24,c25,c26,c27⟩:View)) λr55=>
 some r55)
 else
 if c21=(4:Int) then
 aN (
 aC (jD (⟨p0,p2,(⟨c7,c8,c9,c10,c11,c12,c13,c14,c15,c16,c17,c18,c19,c20⟩:Route),(⟨c21,c22,c23⟩:RouteState),c24,c25,c26,c27⟩:View)) λr58=>
 some r58)
 else
 aN (
 some (⟨(0:Int),(0:Int),(0:Int)⟩:RouteState))) λ_=>
 aC (iG (⟨p0,p2,(⟨c7,c8,c9,c10,c11,c12,c13,c14,c15,c16,c17,c18,c19,c20⟩:Route),(⟨c21,c22,c23⟩:RouteState),c24,c25,c26,c27⟩:View)) λr60=>
 some r60
def hZ (p0:(List Bool)) (p1:Int):Option Bool:=
 aC (
 if p1 < (0:Int) then
 some true
 else
 if (p0.length:Int)≤p1 then
 some true
 else
 aU p0 p1 λe5=>
 some e5) λx1=>
 some x1
def sN (p0:Table) (p1:Inter) (p2:Inputs) (p3:Int):Option Int:=
 aC (
 aC (oD p0 p1) λr3=>
 if (!(r3))=true then
 some true
 else
 if p3 < (0:Int) then
 some true
 else
 some (decide ((p0.routes.length:Int)≤p3))) λx1=>
 if x1=true then
 some (1:Int)
 else
 aU p1.routes p3 λe7=>
 if e7.state=(0:Int) then
 aU p0.routes p3 λe9=>
 aC (kY e9 (⟨(1:Int),(0:Int),(0:Int)⟩:RouteState)) λr10=>
 dN (
 bB (λx13=>
 if x13 < (r10.length:Int) then
 aU r10 x13 λe16=>
 aC (hZ p2.closed e16.a0) λr17=>
 if r17=true then
 aN (
 aN (
 some (13:Int)))
 else
 aD (I64 (x13+(1:Int))) <|
 some (.inl (x13+(1:Int)))
 else
 aN (
 some (.inl ()))) (0:Int)) λ_=>
 dN (
 bB (λx25=>
 if x25 < (p0.routes.length:Int) then
 aU p0.routes x25 λe28=>
 aC (
 if x25=p3 then
 some false
 else
 aU p1.routes x25 λe32=>
 aC (kY e28 e32) λr33=>
 aC (mK e9 e28 r10 r33) λr34=>
 some r34) λx29=>
 if x29=true then
 aN (
 aN (
 some (12:Int)))
 else
 aD (I64 (x25+(1:Int))) <|
 some (.inl (x25+(1:Int)))
 else
 aN (
 some (.inl ()))) (0:Int)) λ_=>
 aC (dW e9) λr40=>
 dN (
 bB (λx43=>
 if x43 < (p0.routes.length:Int) then
 aU p0.routes x43 λe46=>
 aC (
 if x43=p3 then
 some false
 else
 aU p1.routes x43 λe50=>
 aC (oC p0 e46 e50) λr51=>
 aC (eU r40 r51) λr52=>
 some (!(r52))) λx47=>
 if x47=true then
 aN (
 aN (
 some (10:Int)))
 else
 aD (I64 (x43+(1:Int))) <|
 some (.inl (x43+(1:Int)))
 else
 aN (
 some (.inl ()))) (0:Int)) λ_=>
 dN (
 bB (λx60=>
 if x60 < (r40.length:Int) then
 aU r40 x60 λe63=>
 aC (eK p0 e63.el) λr64=>
 aC (
 aU p1.lies r64 λe67=>
 if e67=e63.pos then
 some false
 else
 aU p0.homes r64 λe69=>
 aC (hZ p2.occupied e69) λr70=>
 some r70) λx65=>
 if x65=true then
 aN (
 aN (
 some (14:Int)))
 else
 aD (I64 (x60+(1:Int))) <|
 some (.inl (x60+(1:Int)))
 else
 aN (
 some (.inl ()))) (0:Int)) λ_=>
 some (0:Int)
 else
 some (11:Int)
def iA (p0:Table) (p1:Inter):Option ((List Bool)):=
 aD (0≤p0.signals∧p0.signals≤1000000000) <|
 aC (
 bB (λ(x7,b8)=>
 if x7 < (p0.routes.length:Int) then
 aU p0.routes x7 λe11=>
 aU p1.routes x7 λe12=>
 if e12.state=(2:Int) then
 aU b8 e11.entry λe14=>
 aD (I64 (x7+(1:Int))) <|
 some (.inl ((x7+(1:Int)),(b8.set e11.entry.toNat true)))
 else
 aD (I64 (x7+(1:Int))) <|
 some (.inl ((x7+(1:Int)),b8))
 else
 aN (
 some b8)) ((0:Int),(List.replicate p0.signals.toNat false))) λb2=>
 some b2
def fS (p0:Cycle) (p1:Int):Option Cycle:=
 aC (sN p0.t p0.inter p0.inV p1) λr1=>
 if r1=(0:Int) then
 aU p0.inter.routes p1 λe4=>
 aU p0.t.routes p1 λe5=>
 aC (dW e5) λr6=>
 bB (λ(x10,b11)=>
 if x10 < (r6.length:Int) then
 aU r6 x10 λe14=>
 aC (eK p0.t e14.el) λr15=>
 aU b11 r15 λe16=>
 aD (I64 (x10+(1:Int))) <|
 some (.inl ((x10+(1:Int)),(b11.set r15.toNat e14.pos)))
 else
 aN (
 some (⟨(⟨(p0.inter.routes.set p1.toNat (⟨(1:Int),(0:Int),(0:Int)⟩:RouteState)),b11⟩:Inter),p0.t,p0.inV,p0.refused⟩:Cycle))) ((0:Int),p0.inter.lies)
 else
 aD ((p0.refused++([p1]:List Int)).length≤1000000000) <|
 some (⟨p0.inter,p0.t,p0.inV,(p0.refused++([p1]:List Int))⟩:Cycle)
def lI (p0:Table) (p1:Inter) (p2:Inputs):Option (Inter×Outputs):=
 aC (sQ p2.calls) λr1=>
 aC (oD p0 p1) λr2=>
 if (!(r2))=true then
 aC (cT p1.lies) λr4=>
 aC (
 aC (gW p0) λr7=>
 if r7=(0:Int) then
 aD (0≤p0.signals∧p0.signals≤1000000000) <|
 some (List.replicate p0.signals.toNat false)
 else
 some ([]:List Bool)) λc5=>
 aC (jS p1) λr10=>
 some (r10,(⟨c5,r4,r1⟩:Outputs))
 else
 aC (jS p1) λr11=>
 aC (
 bB (λ(x17,b18)=>
 if x17 < (r11.routes.length:Int) then
 aC (nD p0 p1 p2 x17) λr21=>
 aU b18 x17 λe22=>
 aD (I64 (x17+(1:Int))) <|
 some (.inl ((x17+(1:Int)),(b18.set x17.toNat r21)))
 else
 aN (
 some b18)) ((0:Int),r11.routes)) λb12=>
 aC (
 bB (λ(x34,b35,b36,b37)=>
 if x34 < (r1.length:Int) then
 aU r1 x34 λe40=>
 aC (fS (⟨(⟨b36,b37⟩:Inter),p0,p2,b35⟩:Cycle) e40) λr41=>
 aD (I64 (x34+(1:Int))) <|
 some (.inl ((x34+(1:Int)),r41.refused,r41.inter.routes,r41.inter.lies))
 else
 aN (
 some (b36,b37,b35))) ((0:Int),([]:List Int),b12,r11.lies)) λ(b25,b26,b27)=>
 aC (iA p0 (⟨b25,b26⟩:Inter)) λr44=>
 aC (cT b26) λr45=>
 some ((⟨b25,b26⟩:Inter),(⟨r44,r45,b27⟩:Outputs))
def qM (p0:Table) (p1:Machine) (p2:Inter):Option Bool:=
 aC (mH p0) λr1=>
 if ((!(decide ((p1.vars.length:Int)=r1.all)))||(!(decide ((p2.routes.length:Int)=(p0.routes.length:Int)))))=true then
 some false
 else
 dN (
 bB (λx6=>
 if x6 < (p2.routes.length:Int) then
 dN (
 aU p2.routes x6 λe10=>
 aU r1.states x6 λe11=>
 aC (
 bB (λ(n16,x17)=>
 if x17 < (4:Int) then
 aD (I64 (e11+x17)) <|
 aU p1.vars (e11+x17) λe21=>
 if e21=true then
 aD (I64 (n16+(1:Int))) <|
 aD (I64 (x17+(1:Int))) <|
 some (.inl ((n16+(1:Int)),(x17+(1:Int))))
 else
 aD (I64 (x17+(1:Int))) <|
 some (.inl (n16,(x17+(1:Int))))
 else
 aN (
 some n16)) ((0:Int),(0:Int))) λn12=>
 if (1:Int) < n12 then
 aN (
 aN (
 aN (
 some false)))
 else
 aU p0.routes x6 λe31=>
 aD (I64 ((e31.sections.length:Int) - (1:Int))) <|
 bB (λx34=>
 if x34 < ((e31.sections.length:Int) - (1:Int)) then
 aD (I64 (e11+(4:Int))) <|
 aD (I64 ((e11+(4:Int))+x34)) <|
 aU p1.vars ((e11+(4:Int))+x34) λe39=>
 if (!((e39 == (decide (x34 < e10.rel)))))=true then
 aN (
 aN (
 aN (
 aN (
 some false))))
 else
 aD (I64 (x34+(1:Int))) <|
 some (.inl (x34+(1:Int)))
 else
 aN (
 some (.inl ()))) (0:Int)) λ_=>
 aD (I64 (x6+(1:Int))) <|
 some (.inl (x6+(1:Int)))
 else
 aN (
 some (.inl ()))) (0:Int)) λ_=>
 some true
def kO (p0:Table) (p1:(List Inputs)):Option Bool:=
 aC (
 aC (qL p0) λr3=>
 if (!(r3))=true then
 some true
 else
 some (decide ((24:Int) < (p1.length:Int)))) λx1=>
 if x1=true then
 aC (oE) λr6=>
 some r6
 else
 aC (jT p0) λ(r8,r9)=>
 if r9=(0:Int) then
 aC (mU r8) λr12=>
 aC (lH p0) λr13=>
 dN (
 bB (λ(x27,c28,c29,c30,c31,c32)=>
 if x27 < (p1.length:Int) then
 aU p1 x27 λe35=>
 aC (hU p0 e35) λr36=>
 aC (qJ r8 (⟨c28,c29,c30⟩:Machine) r36) λr37=>
 aC (lI p0 (⟨c31,c32⟩:Inter) e35) λ(r39,r40)=>
 aC (
 if (r37.halted)=true then
 some true
 else
 aC (kH p0 r37) λr44=>
 aC (sI r44 r39) λr45=>
 if (!(r45))=true then
 some true
 else
 aC (lN p0 r37) λr47=>
 aC (qN r47 r40.clear) λr48=>
 if (!(r48))=true then
 some true
 else
 aC (qM p0 r37 r39) λr50=>
 some (!(r50))) λx41=>
 if x41=true then
 aN (
 aN (
 some false))
 else
 aD (I64 (x27+(1:Int))) <|
 some (.inl ((x27+(1:Int)),r37.vars,r37.counts,r37.halted,r39.routes,r39.lies))
 else
 aN (
 some (.inl (c28,c29,c30,c31,c32)))) ((0:Int),r12.vars,r12.counts,r12.halted,r13.routes,r13.lies)) λ(c14,c15,c16,c17,c18)=>
 aC (oE) λr56=>
 some r56
 else
 aC (oE) λr11=>
 some r11
@[simp] theorem aB {α:Type} {p:Prop} [Decidable p] {k:Option α} (h:p):aD p k=k:=if_pos h
@[simp] theorem aA {α β:Type} (a:α) (k:α→Option β):aC (some a) k=k a:=rfl
@[simp] theorem dB {α β:Type} (a:α) (k:α→Option β):dN (some (.inl a)) k=k a:=rfl
@[simp] theorem jV {α β:Type} (b:β) (k:α→Option β):dN (some (.inr b)) k=some b:=rfl
@[simp] theorem eP {α β:Type} (b:β):(aN (some b):Option (α ⊕ β))=some (.inr b):=rfl
theorem aG {α β:Type} {l:List α} {i:Nat} {e:α} {k:α→Option β} (h:l[i]?=some e):aU l (i:Int) k=k e:=by simp [aU,h]
theorem oX {α β:Type} {l:List α} {i:Int} {e:α} {k:α→Option β} (h0:0≤i) (h:l[i.toNat]?=some e):aU l i k=k e:=by simp [aU,h0,h]
@[simp] theorem ite_bindM {α β:Type} {p:Prop} [Decidable p] (a b:α) (k:α→Option β):aC (if p then some a else some b) k=k (if p then a else b):=by split<;>rfl
theorem rW {α β:Type} {p:Prop} [Decidable p] (a b:Option α) (k:α→Option β):aC (if p then a else b) k=if p then aC a k else aC b k:=by split<;>rfl
theorem xU {α:Type} {p:Prop} [Decidable p] (a b:α):(if p then some a else some b)=some (if p then a else b):=by split<;>rfl
theorem qJO {p:Prop} [Decidable p] {a b:Bool}:((if p then a else b)=true)=((p∧a=true)∨(¬ p∧b=true)):=by split<;>simp_all
theorem qPW {α:Type} (l:List α) (i:Nat):sub l (i:Int) (l.length:Int)=l.drop i:=by simp [sub,← List.length_drop]
theorem zCD {α:Type} (l:List α) (i:Nat):sub l 0 (i:Int)=l.take i:=by simp [sub]
variable {σ ρ:Type}
theorem qSF {f:σ→Option (σ ⊕ ρ)} (B:Nat→σ) {o:ρ}:∀ (n k:Nat),(∀ i,k≤i→i < k+n→f (B i)=some (.inl (B (i+1))))→f (B (k+n))=some (.inr o)→pI f (n+1) (B k)=some o
 | 0,k,_,he=>by simp only [Nat.add_zero] at he;simp [pI,he]
 | n+1,k,hf,he=>by
  simp only [pI];rw [hf k (zQW _) (by omega)];exact qSF B n (k+1) (λi h1 h2=>hf i (by omega) (by omega)) (by rw [show k+1+n=k+(n+1) by omega];exact he)
theorem oT {f:σ→Option (σ ⊕ ρ)} (B:Nat→σ) (n:Nat) {o:ρ} {s:σ} (hs:s=B 0) (hn:n≤9223372036854775807) (hf:∀ i,i < n→f (B i)=some (.inl (B (i+1)))) (he:f (B n)=some (.inr o)):bB f s=some o:=by
 subst hs;exact xP (qSF B n 0 (λi _ h=>hf i (by omega)) (by rw [Nat.zero_add];exact he)) (by unfold kN;omega)
theorem qIJ {f : Int → Option (Int ⊕ ρ)} (n : Nat) (c : Nat → Option ρ) (o : ρ) (hn : n ≤ 9223372036854775807) (hf : ∀ i, i < n → f (i : Int) = match c i with
  | some r => some (.inr r)
  | none => some (.inl ((i : Int) + 1))) (he : f (n : Int) = some (.inr o)) : bB f 0 = some (((List.range n).findSome? c).getD o) := by
 cases h:(List.range n).findSome? c with
 | none=>
  rw [List.findSome?_eq_none_iff] at h;refine oT (λi=>(i:Int)) n rfl hn (λi hi=>?_) he;rw [hf i hi,h i (List.mem_range.2 hi)];rfl
 | some r=>
  rw [List.findSome?_eq_some_iff] at h;obtain⟨l1,a,l2,h1,h2,h3⟩:=h
  have ha:l1.length=a∧a < n:=by
   have hlen:l1.length < (List.range n).length:=by rw [h1];simp
   have:(List.range n)[l1.length]?=some a:=by rw [h1];simp
   simp only [List.length_range] at hlen;simp [hlen] at this;exact⟨this,by omega⟩
  obtain⟨ha1,ha2⟩:=ha;refine oT (λi=>(i:Int)) a rfl (by omega) (λi hi=>?_) ?_
  ·have hm:i∈l1:=by
    have:(List.range n)[i]?=some i:=List.getElem?_range (by omega);rw [h1,List.getElem?_append_left (by omega)] at this;exact zQM this
   rw [hf i (by omega),h3 i hm];rfl
  rw [hf a ha2,h2];rfl
theorem qIZ {α β:Type} (l:List α) (c:Nat→Option β) (d:α→Option β) (h:∀ (i:Nat) (e:α),l[i]?=some e→c i=d e):(List.range l.length).findSome? c=l.findSome? d:=by
 induction l generalizing c with
 | nil=>rfl
 | cons x r ih=>
  rw [List.length_cons,List.range_succ_eq_map,List.findSome?_cons,List.findSome?_map,List.findSome?_cons,h 0 x rfl]
  cases d x with
  | some b=>rfl
  | none=>exact ih (c ∘ Nat.succ) λi e he=>h (i+1) e (by simpa using he)
theorem zAI {α : Type} {f : Int → Option (Int ⊕ ρ)} (l : List α) (d : α → Option ρ) (o : ρ) (hn : l.length ≤ 9223372036854775807) (hf : ∀ (i : Nat) (e : α), l[i]? = some e → f (i : Int) = match d e with
  | some r => some (.inr r)
  | none => some (.inl ((i : Int) + 1))) (he : f (l.length : Int) = some (.inr o)) : bB f 0 = some ((l.findSome? d).getD o) := by
 rw [qIJ l.length (λi=>(l[i]?).bind d) o hn (λi hi=>?_) he,qIZ l _ d (λi e he=>by simp [he])];rw [hf i l[i] (by simp),zQR hi];rfl
theorem qCD {α β:Type} (l:List α) (c:α→Bool) (v:β):l.findSome? (λe=>if c e=true then some v else none)=if l.any c=true then some v else none:=by
 induction l with
 | nil=>rfl
 | cons x r ih=>
  rw [List.findSome?_cons,List.any_cons,ih];cases c x<;>simp
theorem fE {α:Type} {f:Int→Option (Int ⊕ ρ)} (l:List α) (c:α→Bool) (v o:ρ) (hn:l.length≤9223372036854775807) (hf:∀ (i:Nat) (e:α),l[i]?=some e→f (i:Int)=if c e=true then some (.inr v) else some (.inl ((i:Int)+1))) (he:f (l.length:Int)=some (.inr o)):bB f 0=some (if l.any c=true then v else o):=by
 rw [zAI l (λe=>if c e=true then some v else none) o hn (λi e h=>by rw [hf i e h];cases c e<;>simp) he,qCD];split<;>rfl
theorem lL {f:Int→Option (Int ⊕ ρ)} (n:Nat) (c:Nat→Bool) (v o:ρ) (hn:n≤9223372036854775807) (hf:∀ i,i < n→f (i:Int)=if c i=true then some (.inr v) else some (.inl ((i:Int)+1))) (he:f (n:Int)=some (.inr o)):bB f 0=some (if (List.range n).any c=true then v else o):=by
 rw [qIJ n (λe=>if c e=true then some v else none) o hn (λi h=>by rw [hf i h];cases c i<;>simp) he,qCD];split<;>rfl
theorem qDY {α:Type} {f:Int→Option (Int ⊕ ρ)} (l:List α) (c:α→Bool) (w:Nat→ρ) (o:ρ) (hn:l.length≤9223372036854775807) (hf:∀ (i:Nat) (e:α),l[i]?=some e→f (i:Int)=if c e=true then some (.inr (w i)) else some (.inl ((i:Int)+1))) (he:f (l.length:Int)=some (.inr o)):bB f 0=some (match l.findIdx? c with|some i=>w i|none=>o):=by
 cases h:l.findIdx? c with
 | none=>
  rw [List.findIdx?_eq_none_iff] at h;refine oT (λi=>(i:Int)) l.length rfl hn (λi hi=>?_) he;rw [hf i l[i] (by simp),if_neg (by rw [h l[i] (by simp)];simp)];rfl
 | some k=>
  rw [List.findIdx?_eq_some_iff_getElem] at h;obtain⟨hk,h1,h2⟩:=h;refine oT (λi=>(i:Int)) k rfl (by omega) (λi hi=>?_) ?_
  ·have hl : i < l.length := by omega
   have:=h2 i hi;rw [hf i l[i] (by simp),if_neg (by simpa using this)];rfl
  rw [hf k l[k] (by simp),if_pos h1]
theorem fF {β:Type} {f:Int×β→Option ((Int×β) ⊕ ρ)} (n:Nat) (B:Nat→β) {o:ρ} {b:β} (hb:b=B 0) (hn:n≤9223372036854775807) (hf:∀ i,i < n→f ((i:Int),B i)=some (.inl ((i:Int)+1,B (i+1)))) (he:f ((n:Int),B n)=some (.inr o)):bB f (0,b)=some o:=
 oT (λi=>((i:Int),B i)) n (by rw [hb];rfl) hn (λi hi=>by rw [hf i hi];rfl) he
theorem qDZ {β:Type} {f:Int×β→Option ((Int×β) ⊕ ρ)} (n:Nat) (B:Nat→β) (c:Nat→Bool) (v o:ρ) {b:β} (hb:b=B 0) (hn:n≤9223372036854775807) (hf:∀ i,i < n→(∀ j,j < i→c j=false)→f ((i:Int),B i)=if c i=true then some (.inr v) else some (.inl ((i:Int)+1,B (i+1)))) (he:(∀ j,j < n→c j=false)→f ((n:Int),B n)=some (.inr o)):bB f (0,b)=some (if (List.range n).any c=true then v else o):=by
 cases h:(List.range n).findIdx? c with
 | none=>
  rw [List.findIdx?_eq_none_iff] at h;have hall:∀ j,j < n→c j=false:=λj hj=>by simpa using h j (List.mem_range.2 hj)
  have hno:¬ (List.range n).any c=true:=by
   rw [zQU];rintro⟨j,hj,hc⟩;rw [hall j (List.mem_range.1 hj)] at hc;cases hc
  rw [if_neg hno];exact fF n B hb hn (λi hi=>by rw [hf i hi (λj hj=>hall j (by omega)),hall i hi];rfl) (he hall)
 | some k=>
  rw [List.findIdx?_eq_some_iff_getElem] at h;obtain⟨hk,h1,h2⟩:=h;simp only [List.length_range] at hk;simp only [List.getElem_range] at h1;have hb':∀ j,j < k→c j=false:=λj hj=>by have:=h2 j hj;simpa using this
  have hyes:(List.range n).any c=true:=zQU.2 ⟨k,List.mem_range.2 hk,h1⟩;rw [if_pos hyes];exact fF k B hb (by omega) (λi hi=>by rw [hf i (by omega) (λj hj=>hb' j (by omega)),hb' i hi];rfl) (by rw [hf k hk hb',h1];rfl)
theorem aO {i n:Nat} (h:i < n) (hn:n≤9223372036854775807):I64 ((i:Int)+1):=by unfold I64;omega
def sgn (x y:Int):Int:=if x < y then -1 else if y < x then 1 else 0
theorem qVY (x y:Int):jU x y=some (sgn x y):=by
 simp only [jU,nM,decide_true,Bool.not_true,aA,Bool.false_eq_true,if_false,sgn];split
 ·rfl
 split<;>rfl
theorem or_eq (x y:Int):sZ [x,y]=some (if x=0 then y else x):=by
 unfold sZ;by_cases hx:x=0
 ·by_cases hy:y=0
  ·rw [xP (n := 3) (r := (.inl () : Unit ⊕ Int)) (by simp [pI, aU, aD, I64, hx, hy, aN]) (by decide)];simp [dN,hx,hy]
  rw [xP (n := 3) (r := (.inr y : Unit ⊕ Int)) (by simp [pI, aU, aD, I64, hx, hy, aN]) (by decide)];simp [dN,hx]
 rw [xP (n := 3) (r := (.inr x : Unit ⊕ Int)) (by simp [pI, aU, aD, I64, hx, aN]) (by decide)];simp [dN,hx]
theorem sD (x y:Setting):cX x y=some (if sgn x.el y.el=0 then sgn x.pos y.pos else sgn x.el y.el):=by
 simp only [cX,qVY,aA,or_eq]
theorem oM:SortOk cX:=by
 have hl:∀ x y,ltM cX x y=decide (x.el < y.el∨x.el=y.el∧x.pos < y.pos):=by
  intro x y;simp only [ltM,sD,Option.getD_some,sgn];rw [decide_eq_decide];split<;>split<;>(try split)<;>(try split)<;>omega
 refine⟨λx y=>⟨_,sD x y⟩,λx=>?_,λx y z h1 h2=>?_,λx y z h1 h2=>?_,λx y h1 h2=>?_⟩
 ·rw [hl];simp
 ·rw [hl,decide_eq_true_eq] at *; omega
 ·rw [hl,decide_eq_false_iff_not] at *; omega
 rw [hl,decide_eq_false_iff_not] at *;obtain⟨a,b⟩:=x;obtain⟨c,d⟩:=y;simp only at h1 h2;have h3:a=c:=by omega
 have h4:b=d:=by omega
 rw [h3,h4]
end Go.Proofs.YtcagmechagiclaaGreatDoor
