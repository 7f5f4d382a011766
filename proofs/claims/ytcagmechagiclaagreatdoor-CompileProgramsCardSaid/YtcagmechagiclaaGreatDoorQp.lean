/- Texts of this proof, joined, without what it does not use. No condition. -/
import Derived.Lib.ItoaNum
import Derived.Test.YtcagmechagiclaaGreatDoorQo

set_option maxHeartbeats 8000000
set_option linter.unusedSimpArgs false
set_option linter.unusedVariables false
set_option maxRecDepth 20000
namespace Go.Proofs.YtcagmechagiclaaGreatDoor
open Go Go.TL

def oK (p0:Table):Option Bool:=
 eP (
 bE (fun x3=>
 if x3 < (p0.routes.length:Int) then
 bC p0.routes x3 fun e6=>
 aD (I64 ((e6.path.length:Int)+(e6.sections.length:Int))) <|
 aD (I64 (((e6.path.length:Int)+(e6.sections.length:Int))+(e6.overSections.length:Int))) <|
 aD (I64 ((((e6.path.length:Int)+(e6.sections.length:Int))+(e6.overSections.length:Int))+(e6.points.length:Int))) <|
 aD (I64 (((((e6.path.length:Int)+(e6.sections.length:Int))+(e6.overSections.length:Int))+(e6.points.length:Int))+(e6.overPoints.length:Int))) <|
 aD (I64 ((((((e6.path.length:Int)+(e6.sections.length:Int))+(e6.overSections.length:Int))+(e6.points.length:Int))+(e6.overPoints.length:Int))+(e6.flank.length:Int))) <|
 if (200:Int) < ((((((e6.path.length:Int)+(e6.sections.length:Int))+(e6.overSections.length:Int))+(e6.points.length:Int))+(e6.overPoints.length:Int))+(e6.flank.length:Int)) then
 aW (
 aW (
 some false))
 else
 aD (I64 (x3+(1:Int))) <|
 some (.inl (x3+(1:Int)))
 else
 aW (
 some (.inl ()))) (0:Int)) fun _=>
 some ((decide ((p0.routes.length:Int)≤(100:Int)))&&(decide ((p0.points.length:Int)≤(100:Int))))

def xJ:Option Table:=
 some (⟨([(⟨(⟨#[115,49,45,115,50]⟩:ByteArray),(0:Int),(1:Int),([(⟨(1:Int),(0:Int),(1:Int)⟩:Step)]:List Step),([]:List Setting),([(1:Int)]:List Int),(0:Int),(20000:Int),([]:List Step),([]:List Setting),([]:List Int),([]:List Setting),([]:List Int),([]:List End)⟩:Route),(⟨(⟨#[115,50,45,101,110,100]⟩:ByteArray),(1:Int),(-1:Int),([(⟨(2:Int),(0:Int),(1:Int)⟩:Step)]:List Step),([]:List Setting),([(2:Int)]:List Int),(1:Int),(20000:Int),([]:List Step),([]:List Setting),([]:List Int),([]:List Setting),([]:List Int),([]:List End)⟩:Route)]:List Route),([]:List Int),([]:List Int),(3:Int),(2:Int)⟩:Table)

def eC (p0:Int) (p1:Int):Option Bool:=
 some ((decide ((0:Int)≤p0))&&(decide (p0 < p1)))

def jI (p0:Table):Option Bool:=
 if (p0.homes.length:Int)=(p0.points.length:Int) then
 eP (
 bE (fun x4=>
 if x4 < (p0.points.length:Int) then
 bC p0.points x4 fun e7=>
 aC (
 if e7 < (0:Int) then
 some true
 else
 if (0:Int) < x4 then
 aD (I64 (x4 - (1:Int))) <|
 bC p0.points (x4 - (1:Int)) fun e15=>
 if e7≤e15 then
 some true
 else
 bC p0.homes x4 fun e17=>
 aC (eC e17 p0.sections) fun r18=>
 some (!(r18))
 else
 bC p0.homes x4 fun e12=>
 aC (eC e12 p0.sections) fun r13=>
 some (!(r13))) fun x8=>
 if x8=true then
 aW (
 aW (
 some false))
 else
 aD (I64 (x4+(1:Int))) <|
 some (.inl (x4+(1:Int)))
 else
 aW (
 some (.inl ()))) (0:Int)) fun _=>
 some true
 else
 some false

def hU (p0:List (List Int)):Option (List Int):=
 aD (p0.length≤1000∧p0.flatten.length≤1000000000) <|
 some p0.flatten

def iT (p0:Table) (p1:Route):Option Bool:=
 aC (
 aC (eC p1.entry p0.signals) fun r3=>
 if (!(r3))=true then
 some true
 else
 if p1.exit=(-1:Int) then
 some false
 else
 aC (eC p1.exit p0.signals) fun r6=>
 some (!(r6))) fun x1=>
 if x1=true then
 some false
 else
 if ((decide ((p1.path.length:Int) < (1:Int)))||((decide ((12:Int) < (p1.path.length:Int)))||(decide ((p1.sections.length:Int)=(0:Int)))))=true then
 some false
 else
 eP (
 aC (hU ([p1.sections,p1.overSections]:List (List Int))) fun r13=>
 bE (fun (x17,b18)=>
 if x17 < (r13.length:Int) then
 bC r13 x17 fun e21=>
 aC (
 aC (eC e21 p0.sections) fun r24=>
 if (!(r24))=true then
 some true
 else
 aD (e21 < 24) <|
 bC b18 e21 fun e26=>
 some e26) fun x22=>
 if x22=true then
 aW (
 aW (
 some false))
 else
 aD (e21 < 24) <|
 bC b18 e21 fun e31=>
 aD (I64 (x17+(1:Int))) <|
 some (.inl ((x17+(1:Int)),(b18.set e21.toNat true)))
 else
 aW (
 some (.inl b18))) ((0:Int),(List.replicate 24 false))) fun b11=>
 aC (
 aC (eC p1.approach p0.sections) fun r37=>
 if r37=true then
 some (decide ((1:Int)≤p1.length))
 else
 some false) fun x35=>
 some x35

def dV (p0:(List Int)) (p1:Int):Option Int:=
 eP (
 bE (fun x3=>
 if x3 < (p0.length:Int) then
 bC p0 x3 fun e6=>
 if p1=e6 then
 aW (
 aW (
 some x3))
 else
 aD (I64 (x3+(1:Int))) <|
 some (.inl (x3+(1:Int)))
 else
 aW (
 some (.inl ()))) (0:Int)) fun _=>
 some (-1:Int)

def iP (p0:Table) (p1:Int):Option Int:=
 aC (dV p0.points p1) fun r1=>
 some r1

def dT (p0:Table) (p1:(List Setting)):Option Bool:=
 eP (
 bE (fun x3=>
 if x3 < (p1.length:Int) then
 bC p1 x3 fun e6=>
 aC (
 if (0:Int) < x3 then
 aD (I64 (x3 - (1:Int))) <|
 bC p1 (x3 - (1:Int)) fun e12=>
 if e6.el≤e12.el then
 some true
 else
 aC (iP p0 e6.el) fun r14=>
 some (decide (r14 < (0:Int)))
 else
 aC (iP p0 e6.el) fun r10=>
 some (decide (r10 < (0:Int)))) fun x7=>
 if x7=true then
 aW (
 aW (
 some false))
 else
 if ((!(decide (e6.pos=(1:Int))))&&(!(decide (e6.pos=(2:Int)))))=true then
 aW (
 aW (
 some false))
 else
 aD (I64 (x3+(1:Int))) <|
 some (.inl (x3+(1:Int)))
 else
 aW (
 some (.inl ()))) (0:Int)) fun _=>
 some true

def fS (p0:(List Setting)) (p1:(List Setting)):Option Bool:=
 eP (
 bE (fun x3=>
 if x3 < (p0.length:Int) then
 eP (
 bC p0 x3 fun e7=>
 bE (fun x9=>
 if x9 < (p1.length:Int) then
 bC p1 x9 fun e12=>
 if ((decide (e7.el=e12.el))&&(!(decide (e7.pos=e12.pos))))=true then
 aW (
 aW (
 aW (
 aW (
 some false))))
 else
 aD (I64 (x9+(1:Int))) <|
 some (.inl (x9+(1:Int)))
 else
 aW (
 some (.inl ()))) (0:Int)) fun _=>
 aD (I64 (x3+(1:Int))) <|
 some (.inl (x3+(1:Int)))
 else
 aW (
 some (.inl ()))) (0:Int)) fun _=>
 some true

def kR (p0:Table):Option Int:=
 aC (
 if (48:Int) < (p0.routes.length:Int) then
 some true
 else
 if (32:Int) < (p0.points.length:Int) then
 some true
 else
 aC (eC p0.sections (25:Int)) fun r5=>
 if (!(r5))=true then
 some true
 else
 aC (eC p0.signals (21:Int)) fun r7=>
 some (!(r7))) fun x1=>
 if x1=true then
 some (2:Int)
 else
 aC (jI p0) fun r9=>
 if (!(r9))=true then
 some (1:Int)
 else
 eP (
 bE (fun x13=>
 if x13 < (p0.routes.length:Int) then
 bC p0.routes x13 fun e16=>
 aC (iT p0 e16) fun r17=>
 if (!(r17))=true then
 aW (
 aW (
 some (1:Int)))
 else
 aD (I64 (x13+(1:Int))) <|
 some (.inl (x13+(1:Int)))
 else
 aW (
 some (.inl ()))) (0:Int)) fun _=>
 eP (
 bE (fun x25=>
 if x25 < (p0.routes.length:Int) then
 bC p0.routes x25 fun e28=>
 aC (
 aC (dT p0 e28.points) fun r31=>
 if (!(r31))=true then
 some true
 else
 aC (dT p0 e28.overPoints) fun r33=>
 if (!(r33))=true then
 some true
 else
 aC (dT p0 e28.flank) fun r35=>
 some (!(r35))) fun x29=>
 if x29=true then
 aW (
 aW (
 some (1:Int)))
 else
 aD (I64 (x25+(1:Int))) <|
 some (.inl (x25+(1:Int)))
 else
 aW (
 some (.inl ()))) (0:Int)) fun _=>
 eP (
 bE (fun x43=>
 if x43 < (p0.routes.length:Int) then
 bC p0.routes x43 fun e46=>
 aC (
 aC (fS e46.points e46.overPoints) fun r49=>
 if (!(r49))=true then
 some true
 else
 aC (fS e46.points e46.flank) fun r51=>
 if (!(r51))=true then
 some true
 else
 aC (fS e46.overPoints e46.flank) fun r53=>
 some (!(r53))) fun x47=>
 if x47=true then
 aW (
 aW (
 some (10:Int)))
 else
 aD (I64 (x43+(1:Int))) <|
 some (.inl (x43+(1:Int)))
 else
 aW (
 some (.inl ()))) (0:Int)) fun _=>
 eP (
 bE (fun (x64,b65)=>
 if x64 < (p0.routes.length:Int) then
 bC p0.routes x64 fun e68=>
 aD (b65.map (·.1)).Nodup <|
 if (((jF b65 e68.name).getD false))=true then
 aW (
 aW (
 some (8:Int)))
 else
 aD (b65.map (·.1)).Nodup <|
 aD (I64 (x64+(1:Int))) <|
 some (.inl ((x64+(1:Int)),(qLU b65 e68.name true)))
 else
 aW (
 some (.inl b65))) ((0:Int),([]:List (ByteArray×Bool)))) fun m59=>
 some (0:Int)

def bI (p0:Numbering) (p1:Int):Option Int:=
 bC p0.t.routes p1 fun e1=>
 aD (I64 ((e1.sections.length:Int) - (1:Int))) <|
 some ((e1.sections.length:Int) - (1:Int))

def iY (p0:Table):Option (Numbering×Int):=
 aC (kR p0) fun r1=>
 if r1=(0:Int) then
 aD (I64 ((2:Int) * p0.sections)) <|
 aD (I64 ((2:Int) * (p0.points.length:Int))) <|
 aD (I64 (((2:Int) * p0.sections)+((2:Int) * (p0.points.length:Int)))) <|
 aD (I64 ((4:Int) * (p0.routes.length:Int))) <|
 aD (I64 ((((2:Int) * p0.sections)+((2:Int) * (p0.points.length:Int)))+((4:Int) * (p0.routes.length:Int)))) <|
 aD (I64 (((((2:Int) * p0.sections)+((2:Int) * (p0.points.length:Int)))+((4:Int) * (p0.routes.length:Int)))+(p0.points.length:Int))) <|
 aC (
 bE (fun (x16,c17,b18)=>
 if x16 < (p0.routes.length:Int) then
 aD ((b18++([c17]:List Int)).length≤1000000000) <|
 aC (bI (⟨p0,((((2:Int) * p0.sections)+((2:Int) * (p0.points.length:Int)))+((4:Int) * (p0.routes.length:Int))),(b18++([c17]:List Int)),c17,(0:Int)⟩:Numbering) x16) fun r22=>
 aD (I64 ((4:Int)+r22)) <|
 aD (I64 (((4:Int)+r22)+(2:Int))) <|
 aD (I64 (c17+(((4:Int)+r22)+(2:Int)))) <|
 aD (I64 (x16+(1:Int))) <|
 some (.inl ((x16+(1:Int)),(c17+(((4:Int)+r22)+(2:Int))),(b18++([c17]:List Int))))
 else
 aW (
 some (c17,b18))) ((0:Int),(((((2:Int) * p0.sections)+((2:Int) * (p0.points.length:Int)))+((4:Int) * (p0.routes.length:Int)))+(p0.points.length:Int)),([]:List Int))) fun (c9,b10)=>
 aD (I64 ((5:Int) * (p0.routes.length:Int))) <|
 aD (I64 (c9+((5:Int) * (p0.routes.length:Int)))) <|
 if (2000:Int) < (c9+((5:Int) * (p0.routes.length:Int))) then
 some ((⟨(⟨([]:List Route),([]:List Int),([]:List Int),(0:Int),(0:Int)⟩:Table),(0:Int),([]:List Int),(0:Int),(0:Int)⟩:Numbering),(2:Int))
 else
 some ((⟨p0,((((2:Int) * p0.sections)+((2:Int) * (p0.points.length:Int)))+((4:Int) * (p0.routes.length:Int))),b10,c9,(c9+((5:Int) * (p0.routes.length:Int)))⟩:Numbering),(0:Int))
 else
 some ((⟨(⟨([]:List Route),([]:List Int),([]:List Int),(0:Int),(0:Int)⟩:Table),(0:Int),([]:List Int),(0:Int),(0:Int)⟩:Numbering),r1)

def bO (p0:Numbering) (p1:Int) (p2:Int):Option Int:=
 bC p0.bases p1 fun e1=>
 aD (I64 (e1+p2)) <|
 some (e1+p2)

def eK (p0:Numbering) (p1:Int):Option Int:=
 aC (bI p0 p1) fun r1=>
 aD (I64 ((4:Int)+r1)) <|
 aC (bO p0 p1 ((4:Int)+r1)) fun r3=>
 some r3

def cB (p0:Int):Option Expr:=
 some (⟨(3:Int),p0,([]:List Expr)⟩:Expr)

def gN (p0:Numbering) (p1:Int) (p2:Int):Option Int:=
 aD (I64 ((2:Int) * p0.t.sections)) <|
 aD (I64 ((2:Int) * (p0.t.points.length:Int))) <|
 aD (I64 (((2:Int) * p0.t.sections)+((2:Int) * (p0.t.points.length:Int)))) <|
 aD (I64 ((4:Int) * p1)) <|
 aD (I64 ((((2:Int) * p0.t.sections)+((2:Int) * (p0.t.points.length:Int)))+((4:Int) * p1))) <|
 aD (I64 (((((2:Int) * p0.t.sections)+((2:Int) * (p0.t.points.length:Int)))+((4:Int) * p1))+p2)) <|
 some (((((2:Int) * p0.t.sections)+((2:Int) * (p0.t.points.length:Int)))+((4:Int) * p1))+p2)

def eH (p0:Numbering) (p1:Int) (p2:Int):Option Int:=
 aD (I64 ((2:Int) * p1)) <|
 aD (I64 (((2:Int) * p1)+p2)) <|
 some (((2:Int) * p1)+p2)

def dO (p0:(List Expr)):Option Expr:=
 some (⟨(6:Int),(0:Int),p0⟩:Expr)

def cJ (p0:(List Expr)):Option Expr:=
 some (⟨(5:Int),(0:Int),p0⟩:Expr)

def eX (p0:Numbering) (p1:Int):Option Int:=
 aC (eK p0 p1) fun r1=>
 aD (I64 (r1+(1:Int))) <|
 some (r1+(1:Int))

def cS (p0:Expr):Option Expr:=
 some (⟨(4:Int),(0:Int),([p0]:List Expr)⟩:Expr)

def aS (p0:Numbering) (p1:Int) (p2:Int):Option Int:=
 aD (I64 ((5:Int) * p1)) <|
 aD (I64 (p0.extra+((5:Int) * p1))) <|
 aD (I64 ((p0.extra+((5:Int) * p1))+p2)) <|
 some ((p0.extra+((5:Int) * p1))+p2)

def jA (p0:List (List Setting)):Option (List Setting):=
 aD (p0.length≤1000∧p0.flatten.length≤1000000000) <|
 some p0.flatten

def mA (p0:Int):Option Bool:=
 some (!(decide (p0=p0)))

def jH (p0:Int) (p1:Int):Option Int:=
 aC (mA p0) fun r1=>
 aC (mA p1) fun r2=>
 if r1=true then
 if r2=true then
 some (0:Int)
 else
 some (-1:Int)
 else
 if r2=true then
 some (1:Int)
 else
 if p0 < p1 then
 some (-1:Int)
 else
 if p1 < p0 then
 some (1:Int)
 else
 some (0:Int)

def qF (p0:(List Int)):Option Int:=
 eP (
 bE (fun x3=>
 if x3 < (p0.length:Int) then
 bC p0 x3 fun e6=>
 if e6=(0:Int) then
 aD (I64 (x3+(1:Int))) <|
 some (.inl (x3+(1:Int)))
 else
 aW (
 aW (
 some e6))
 else
 aW (
 some (.inl ()))) (0:Int)) fun _=>
 some (0:Int)

def dF (p0:Setting) (p1:Setting):Option Int:=
 aC (jH p0.el p1.el) fun r1=>
 aC (jH p0.pos p1.pos) fun r2=>
 aC (qF ([r1,r2]:List Int)) fun r3=>
 some r3

def gD (p0:Route):Option ((List Setting)):=
 aC (jA ([p0.points,p0.overPoints,p0.flank]:List (List Setting))) fun r1=>
 aD (r1.length≤1000000000) <|
 aC (
 bE (fun (x8,b9)=>
 if x8 < ((qP dF r1).length:Int) then
 bC (qP dF r1) x8 fun e12=>
 aC (
 if x8=(0:Int) then
 some true
 else
 aD (I64 (x8 - (1:Int))) <|
 bC (qP dF r1) (x8 - (1:Int)) fun e17=>
 aD (Setting.ok e12∧Setting.ok e17) <|
 some (!(decide (e12=e17)))) fun x13=>
 if x13=true then
 aD ((b9++([e12]:List Setting)).length≤1000000000) <|
 aD (I64 (x8+(1:Int))) <|
 some (.inl ((x8+(1:Int)),(b9++([e12]:List Setting))))
 else
 aD (I64 (x8+(1:Int))) <|
 some (.inl ((x8+(1:Int)),b9))
 else
 aW (
 some b9)) ((0:Int),([]:List Setting))) fun b3=>
 some b3

def gY (p0:Numbering) (p1:Int) (p2:Int):Option Int:=
 aD (I64 ((2:Int) * p0.t.sections)) <|
 aD (I64 ((2:Int) * p1)) <|
 aD (I64 (((2:Int) * p0.t.sections)+((2:Int) * p1))) <|
 aD (I64 ((((2:Int) * p0.t.sections)+((2:Int) * p1))+p2)) <|
 some ((((2:Int) * p0.t.sections)+((2:Int) * p1))+p2)

def iV (p0:Route) (p1:Route):Option Bool:=
 some ((decide ((0:Int)≤p0.exit))&&(decide (p1.entry=p0.exit)))

def dH (p0:(List Int)) (p1:Int):Option Bool:=
 aC (dV p0 p1) fun r1=>
 some (decide ((0:Int)≤r1))

def hJ (p0:(List Setting)) (p1:Setting):Option Int:=
 eP (
 bE (fun x3=>
 if x3 < (p0.length:Int) then
 bC p0 x3 fun e6=>
 aD (Setting.ok p1∧Setting.ok e6) <|
 if p1=e6 then
 aW (
 aW (
 some x3))
 else
 aD (I64 (x3+(1:Int))) <|
 some (.inl (x3+(1:Int)))
 else
 aW (
 some (.inl ()))) (0:Int)) fun _=>
 some (-1:Int)

def cV (p0:(List Setting)) (p1:Setting):Option Bool:=
 aC (hJ p0 p1) fun r1=>
 some (decide ((0:Int)≤r1))

def eB (p0:Numbering) (p1:Int):Option Int:=
 aD (I64 (p0.inputs+p1)) <|
 some (p0.inputs+p1)

def sA (n:Nat):ByteArray:=⟨(Go.Lib.decDigits n).toArray⟩
def lF (p0:Int):Option ByteArray:=aD (0≤p0∧p0 < 100) <| some (sA p0.toNat)

def bP (p0:Int) (p1:(List ByteArray)) (p2:(List ByteArray)):Option ((List ByteArray)):=
 bE (fun (x4,b5)=>
 if x4 < (p1.length:Int) then
 bC p1 x4 fun e8=>
 aD (e8.size+(⟨#[46]⟩:ByteArray).size≤9223372036854775807) <|
 aC (lF p0) fun r10=>
 aD ((e8++(⟨#[46]⟩:ByteArray)).size+r10.size≤9223372036854775807) <|
 aD ((b5++([((e8++(⟨#[46]⟩:ByteArray))++r10)]:List ByteArray)).length≤1000000000) <|
 aD (I64 (x4+(1:Int))) <|
 some (.inl ((x4+(1:Int)),(b5++([((e8++(⟨#[46]⟩:ByteArray))++r10)]:List ByteArray))))
 else
 aW (
 some b5)) ((0:Int),p2)

def fZ (p0:Numbering):Option ((List ByteArray)):=
 aC (
 bE (fun (x6,b7)=>
 if x6 < p0.t.sections then
 aC (bP x6 ([(⟨#[102,114,101,101]⟩:ByteArray),(⟨#[111,112,101,110]⟩:ByteArray)]:List ByteArray) b7) fun r10=>
 aD (I64 (x6+(1:Int))) <|
 some (.inl ((x6+(1:Int)),r10))
 else
 aW (
 some b7)) ((0:Int),([]:List ByteArray))) fun b1=>
 aC (
 bE (fun (x18,b19)=>
 if x18 < (p0.t.points.length:Int) then
 aC (bP x18 ([(⟨#[110,111,114,109,97,108]⟩:ByteArray),(⟨#[114,101,118,101,114,115,101]⟩:ByteArray)]:List ByteArray) b19) fun r22=>
 aD (I64 (x18+(1:Int))) <|
 some (.inl ((x18+(1:Int)),r22))
 else
 aW (
 some b19)) ((0:Int),b1)) fun b13=>
 aC (
 bE (fun (x30,b31)=>
 if x30 < (p0.t.routes.length:Int) then
 aC (bP x30 ([(⟨#[117,110,99,108,97,105,109,101,100]⟩:ByteArray),(⟨#[112,97,115,115,101,100]⟩:ByteArray),(⟨#[99,97,108,108]⟩:ByteArray),(⟨#[99,97,110,99,101,108]⟩:ByteArray)]:List ByteArray) b31) fun r34=>
 aD (I64 (x30+(1:Int))) <|
 some (.inl ((x30+(1:Int)),r34))
 else
 aW (
 some b31)) ((0:Int),b13)) fun b25=>
 aC (
 bE (fun (x42,b43)=>
 if x42 < (p0.t.points.length:Int) then
 aC (bP x42 ([(⟨#[108,105,101]⟩:ByteArray)]:List ByteArray) b43) fun r46=>
 aD (I64 (x42+(1:Int))) <|
 some (.inl ((x42+(1:Int)),r46))
 else
 aW (
 some b43)) ((0:Int),b25)) fun b37=>
 aC (
 bE (fun (x54,b55)=>
 if x54 < (p0.t.routes.length:Int) then
 aC (
 aC (bP x54 ([(⟨#[115,101,116]⟩:ByteArray),(⟨#[99,108,101,97,114]⟩:ByteArray),(⟨#[117,115,101,100]⟩:ByteArray),(⟨#[104,101,108,100]⟩:ByteArray)]:List ByteArray) b55) fun r60=>
 aC (
 aC (bI p0 x54) fun r63=>
 bE (fun (x67,b68)=>
 if x67 < r63 then
 aC (lF x54) fun r71=>
 aD ((⟨#[114,101,108,46]⟩:ByteArray).size+r71.size≤9223372036854775807) <|
 aC (bP x67 ([((⟨#[114,101,108,46]⟩:ByteArray)++r71)]:List ByteArray) b68) fun r73=>
 aD (I64 (x67+(1:Int))) <|
 some (.inl ((x67+(1:Int)),r73))
 else
 aW (
 some b68)) ((0:Int),r60)) fun b61=>
 aC (bP x54 ([(⟨#[119,97,105,116]⟩:ByteArray),(⟨#[115,116,97,110,100]⟩:ByteArray)]:List ByteArray) b61) fun r76=>
 some r76) fun b58=>
 aD (I64 (x54+(1:Int))) <|
 some (.inl ((x54+(1:Int)),b58))
 else
 aW (
 some b55)) ((0:Int),b37)) fun b49=>
 aC (
 bE (fun (x84,b85)=>
 if x84 < (p0.t.routes.length:Int) then
 aC (bP x84 ([(⟨#[107,101,101,112]⟩:ByteArray),(⟨#[117,115,101]⟩:ByteArray),(⟨#[104,111,108,100]⟩:ByteArray),(⟨#[97,99,116]⟩:ByteArray),(⟨#[99,97,108,108,101,100]⟩:ByteArray)]:List ByteArray) b85) fun r88=>
 aD (I64 (x84+(1:Int))) <|
 some (.inl ((x84+(1:Int)),r88))
 else
 aW (
 some b85)) ((0:Int),b49)) fun b79=>
 some b79

def bJ (p0:Builder) (p1:Int) (p2:Int):Option Expr:=
 aC (bO p0.numbering p1 p2) fun r1=>
 aC (cB r1) fun r2=>
 some r2

def bN (p0:Builder) (p1:Int) (p2:Int):Option Expr:=
 aC (gN p0.numbering p1 p2) fun r1=>
 aC (cB r1) fun r2=>
 some r2

def cM (p0:Builder) (p1:Int) (p2:Int):Option Expr:=
 aD (I64 ((4:Int)+p2)) <|
 aC (bO p0.numbering p1 ((4:Int)+p2)) fun r2=>
 aC (cB r2) fun r3=>
 some r3

def bQ (p0:Builder) (p1:Int):Option Expr:=
 aC (eH p0.numbering p1 (0:Int)) fun r1=>
 aC (cB r1) fun r2=>
 some r2

def eG (p0:Builder) (p1:Int):Option Expr:=
 aC (
 bC p0.numbering.t.routes p1 fun e3=>
 bE (fun (x7,b8)=>
 if x7 < (e3.sections.length:Int) then
 bC e3.sections x7 fun e11=>
 aC (bI p0.numbering p1) fun r12=>
 if x7 < r12 then
 aC (cM p0 p1 x7) fun r14=>
 aC (bQ p0 e11) fun r15=>
 aC (dO ([r14,r15]:List Expr)) fun r16=>
 aD ((b8++([r16]:List Expr)).length≤1000000000) <|
 aD (I64 (x7+(1:Int))) <|
 some (.inl ((x7+(1:Int)),(b8++([r16]:List Expr))))
 else
 aC (bQ p0 e11) fun r19=>
 aD ((b8++([r19]:List Expr)).length≤1000000000) <|
 aD (I64 (x7+(1:Int))) <|
 some (.inl ((x7+(1:Int)),(b8++([r19]:List Expr))))
 else
 aW (
 some b8)) ((0:Int),([]:List Expr))) fun b1=>
 aC (cJ b1) fun r23=>
 some r23

def fG (p0:Builder) (p1:Int):Option Expr:=
 aC (bI p0.numbering p1) fun r1=>
 if r1=(0:Int) then
 aC (cJ []) fun r3=>
 some r3
 else
 aC (bI p0.numbering p1) fun r4=>
 aD (I64 (r4 - (1:Int))) <|
 aC (cM p0 p1 (r4 - (1:Int))) fun r6=>
 some r6

def gG (p0:Builder) (p1:Int):Option Builder:=
 bC p0.numbering.t.routes p1 fun e1=>
 aC (eK p0.numbering p1) fun r2=>
 aC (bJ p0 p1 (3:Int)) fun r3=>
 aC (bN p0 p1 (0:Int)) fun r4=>
 aC (eG p0 p1) fun r5=>
 aC (cJ ([r3,r4,r5]:List Expr)) fun r6=>
 aC (eX p0.numbering p1) fun r7=>
 aC (bJ p0 p1 (2:Int)) fun r8=>
 aC (bN p0 p1 (0:Int)) fun r9=>
 aC (fG p0 p1) fun r10=>
 aC (bI p0.numbering p1) fun r11=>
 bC e1.sections r11 fun e12=>
 aC (bQ p0 e12) fun r13=>
 aC (cS r13) fun r14=>
 aC (cJ ([r8,r9,r10,r14]:List Expr)) fun r15=>
 aD ((p0.rungs++([(⟨(2:Int),r2,(12:Int),r6⟩:Rung),(⟨(2:Int),r7,(4:Int),r15⟩:Rung)]:List Rung)).length≤1000000000) <|
 some (⟨p0.numbering,(p0.rungs++([(⟨(2:Int),r2,(12:Int),r6⟩:Rung),(⟨(2:Int),r7,(4:Int),r15⟩:Rung)]:List Rung))⟩:Builder)

def eL (p0:Builder) (p1:Int):Option Expr:=
 bC p0.numbering.t.routes p1 fun e1=>
 aC (
 aC (hU ([e1.sections,e1.overSections]:List (List Int))) fun r4=>
 bE (fun (x8,b9)=>
 if x8 < (r4.length:Int) then
 bC r4 x8 fun e12=>
 aC (bQ p0 e12) fun r13=>
 aD ((b9++([r13]:List Expr)).length≤1000000000) <|
 aD (I64 (x8+(1:Int))) <|
 some (.inl ((x8+(1:Int)),(b9++([r13]:List Expr))))
 else
 aW (
 some b9)) ((0:Int),([]:List Expr))) fun b2=>
 aC (
 aC (gD e1) fun r19=>
 bE (fun (x23,b24)=>
 if x23 < (r19.length:Int) then
 bC r19 x23 fun e27=>
 aC (
 if e27.pos=(2:Int) then
 some (1:Int)
 else
 some (0:Int)) fun kind28=>
 aC (iP p0.numbering.t e27.el) fun r31=>
 aC (gY p0.numbering r31 kind28) fun r32=>
 aC (cB r32) fun r33=>
 aD ((b24++([r33]:List Expr)).length≤1000000000) <|
 aD (I64 (x23+(1:Int))) <|
 some (.inl ((x23+(1:Int)),(b24++([r33]:List Expr))))
 else
 aW (
 some b24)) ((0:Int),b2)) fun b17=>
 aC (cJ b17) fun r37=>
 some r37

def cD (p0:Builder) (p1:Int) (p2:Expr):Option Builder:=
 aD ((p0.rungs++([(⟨(1:Int),p1,(0:Int),p2⟩:Rung)]:List Rung)).length≤1000000000) <|
 some (⟨p0.numbering,(p0.rungs++([(⟨(1:Int),p1,(0:Int),p2⟩:Rung)]:List Rung))⟩:Builder)

def eY (p0:Builder) (p1:Int):Option Expr:=
 aC (
 bC p0.numbering.t.routes p1 fun e3=>
 bE (fun (x7,b8)=>
 if x7 < (e3.sections.length:Int) then
 bC e3.sections x7 fun e11=>
 aC (bQ p0 e11) fun r12=>
 aC (
 if (0:Int) < x7 then
 aD (I64 (x7 - (1:Int))) <|
 aC (cM p0 p1 (x7 - (1:Int))) fun r17=>
 aD ((([r12]:List Expr)++([r17]:List Expr)).length≤1000000000) <|
 some (([r12]:List Expr)++([r17]:List Expr))
 else
 some ([r12]:List Expr)) fun b13=>
 aC (
 aC (bI p0.numbering p1) fun r21=>
 if x7 < r21 then
 aC (cM p0 p1 x7) fun r23=>
 aC (cS r23) fun r24=>
 aD ((b13++([r24]:List Expr)).length≤1000000000) <|
 some (b13++([r24]:List Expr))
 else
 some b13) fun b19=>
 aC (cJ b19) fun r26=>
 aD ((b8++([r26]:List Expr)).length≤1000000000) <|
 aD (I64 (x7+(1:Int))) <|
 some (.inl ((x7+(1:Int)),(b8++([r26]:List Expr))))
 else
 aW (
 some b8)) ((0:Int),([]:List Expr))) fun b1=>
 aC (dO b1) fun r30=>
 some r30

def fF (p0:Builder) (p1:Int):Option Expr:=
 aC (bJ p0 p1 (0:Int)) fun r1=>
 aC (bJ p0 p1 (1:Int)) fun r2=>
 aC (dO ([r1,r2]:List Expr)) fun r3=>
 aC (bN p0 p1 (3:Int)) fun r4=>
 aC (cS r4) fun r5=>
 aC (eL p0 p1) fun r6=>
 aC (cJ ([r3,r5,r6]:List Expr)) fun r7=>
 some r7

def fT (p0:Builder) (p1:Int):Option Builder:=
 bC p0.numbering.t.routes p1 fun e1=>
 bC e1.sections (0:Int) fun e2=>
 aC (bI p0.numbering p1) fun r3=>
 bC e1.sections r3 fun e4=>
 aC (aS p0.numbering p1 (0:Int)) fun r5=>
 aC (bJ p0 p1 (0:Int)) fun r6=>
 aC (bN p0 p1 (3:Int)) fun r7=>
 aC (cS r7) fun r8=>
 aC (eL p0 p1) fun r9=>
 aC (cS r9) fun r10=>
 aC (cJ ([r6,r8,r10]:List Expr)) fun r11=>
 aC (cD p0 r5 r11) fun r12=>
 aC (aS p0.numbering p1 (1:Int)) fun r13=>
 aC (bJ (⟨p0.numbering,r12.rungs⟩:Builder) p1 (1:Int)) fun r14=>
 aC (bQ (⟨p0.numbering,r12.rungs⟩:Builder) e2) fun r15=>
 aC (cS r15) fun r16=>
 aC (cJ ([r14,r16]:List Expr)) fun r17=>
 aC (bJ (⟨p0.numbering,r12.rungs⟩:Builder) p1 (2:Int)) fun r18=>
 aC (bN (⟨p0.numbering,r12.rungs⟩:Builder) p1 (0:Int)) fun r19=>
 aC (cS r19) fun r20=>
 aC (bN (⟨p0.numbering,r12.rungs⟩:Builder) p1 (3:Int)) fun r21=>
 aC (eG (⟨p0.numbering,r12.rungs⟩:Builder) p1) fun r22=>
 aC (cJ ([r21,r22]:List Expr)) fun r23=>
 aC (cS r23) fun r24=>
 aC (fG (⟨p0.numbering,r12.rungs⟩:Builder) p1) fun r25=>
 aC (bQ (⟨p0.numbering,r12.rungs⟩:Builder) e4) fun r26=>
 aC (cJ ([r25,r26]:List Expr)) fun r27=>
 aC (cS r27) fun r28=>
 aC (eX p0.numbering p1) fun r29=>
 aC (cB r29) fun r30=>
 aC (cS r30) fun r31=>
 aC (cJ ([r24,r28,r31]:List Expr)) fun r32=>
 aC (dO ([r20,r32]:List Expr)) fun r33=>
 aC (cJ ([r18,r33]:List Expr)) fun r34=>
 aC (bJ (⟨p0.numbering,r12.rungs⟩:Builder) p1 (3:Int)) fun r35=>
 aC (eY (⟨p0.numbering,r12.rungs⟩:Builder) p1) fun r36=>
 aC (cS r36) fun r37=>
 aC (cJ ([r35,r37]:List Expr)) fun r38=>
 aC (dO ([r17,r34,r38]:List Expr)) fun r39=>
 aC (cD (⟨p0.numbering,r12.rungs⟩:Builder) r13 r39) fun r40=>
 aC (aS p0.numbering p1 (2:Int)) fun r41=>
 aC (bJ (⟨p0.numbering,r40.rungs⟩:Builder) p1 (1:Int)) fun r42=>
 aC (bQ (⟨p0.numbering,r40.rungs⟩:Builder) e2) fun r43=>
 aC (bN (⟨p0.numbering,r40.rungs⟩:Builder) p1 (3:Int)) fun r44=>
 aC (bN (⟨p0.numbering,r40.rungs⟩:Builder) p1 (0:Int)) fun r45=>
 aC (bQ (⟨p0.numbering,r40.rungs⟩:Builder) e1.approach) fun r46=>
 aC (cJ ([r44,r45,r46]:List Expr)) fun r47=>
 aC (cS r47) fun r48=>
 aC (bN (⟨p0.numbering,r40.rungs⟩:Builder) p1 (3:Int)) fun r49=>
 aC (eL (⟨p0.numbering,r40.rungs⟩:Builder) p1) fun r50=>
 aC (cS r50) fun r51=>
 aC (dO ([r49,r51]:List Expr)) fun r52=>
 aC (cJ ([r42,r43,r48,r52]:List Expr)) fun r53=>
 aC (bJ (⟨p0.numbering,r40.rungs⟩:Builder) p1 (2:Int)) fun r54=>
 aC (bN (⟨p0.numbering,r40.rungs⟩:Builder) p1 (0:Int)) fun r55=>
 aC (bN (⟨p0.numbering,r40.rungs⟩:Builder) p1 (3:Int)) fun r56=>
 aC (eG (⟨p0.numbering,r40.rungs⟩:Builder) p1) fun r57=>
 aC (cJ ([r54,r55,r56,r57]:List Expr)) fun r58=>
 aC (bJ (⟨p0.numbering,r40.rungs⟩:Builder) p1 (3:Int)) fun r59=>
 aC (eY (⟨p0.numbering,r40.rungs⟩:Builder) p1) fun r60=>
 aC (eK p0.numbering p1) fun r61=>
 aC (cB r61) fun r62=>
 aC (cS r62) fun r63=>
 aC (cJ ([r59,r60,r63]:List Expr)) fun r64=>
 aC (dO ([r53,r58,r64]:List Expr)) fun r65=>
 aC (cD (⟨p0.numbering,r40.rungs⟩:Builder) r41 r65) fun r66=>
 aC (aS p0.numbering p1 (3:Int)) fun r67=>
 aC (aS p0.numbering p1 (0:Int)) fun r68=>
 aC (cB r68) fun r69=>
 aC (fF (⟨p0.numbering,r66.rungs⟩:Builder) p1) fun r70=>
 aC (aS p0.numbering p1 (1:Int)) fun r71=>
 aC (cB r71) fun r72=>
 aC (aS p0.numbering p1 (2:Int)) fun r73=>
 aC (cB r73) fun r74=>
 aC (dO ([r69,r70,r72,r74]:List Expr)) fun r75=>
 aC (cD (⟨p0.numbering,r66.rungs⟩:Builder) r67 r75) fun r76=>
 some (⟨p0.numbering,r76.rungs⟩:Builder)

def gR (p0:Builder) (p1:Int):Option Builder:=
 bC p0.numbering.t.routes p1 fun e1=>
 aC (
 aC (bI p0.numbering p1) fun r4=>
 aD (I64 (r4 - (1:Int))) <|
 bE (fun (k9,b10)=>
 if (0:Int)≤k9 then
 aC (bJ (⟨p0.numbering,b10⟩:Builder) p1 (2:Int)) fun r13=>
 aC (aS p0.numbering p1 (1:Int)) fun r14=>
 aC (cB r14) fun r15=>
 aC (bN (⟨p0.numbering,b10⟩:Builder) p1 (0:Int)) fun r16=>
 bC e1.sections k9 fun e17=>
 aC (bQ (⟨p0.numbering,b10⟩:Builder) e17) fun r18=>
 aD (I64 (k9+(1:Int))) <|
 bC e1.sections (k9+(1:Int)) fun e20=>
 aC (bQ (⟨p0.numbering,b10⟩:Builder) e20) fun r21=>
 aC (cS r21) fun r22=>
 aC (bN (⟨p0.numbering,b10⟩:Builder) p1 (1:Int)) fun r23=>
 aC (dO ([r22,r23]:List Expr)) fun r24=>
 aC (
 if (0:Int) < k9 then
 aD (I64 (k9 - (1:Int))) <|
 aC (cM (⟨p0.numbering,b10⟩:Builder) p1 (k9 - (1:Int))) fun r29=>
 aD ((([r13,r15,r16,r18,r24]:List Expr)++([r29]:List Expr)).length≤1000000000) <|
 some (([r13,r15,r16,r18,r24]:List Expr)++([r29]:List Expr))
 else
 some ([r13,r15,r16,r18,r24]:List Expr)) fun b25=>
 aD (I64 ((4:Int)+k9)) <|
 aC (bO p0.numbering p1 ((4:Int)+k9)) fun r32=>
 aC (aS p0.numbering p1 (1:Int)) fun r33=>
 aC (cB r33) fun r34=>
 aC (aS p0.numbering p1 (2:Int)) fun r35=>
 aC (cB r35) fun r36=>
 aC (dO ([r34,r36]:List Expr)) fun r37=>
 aC (cM (⟨p0.numbering,b10⟩:Builder) p1 k9) fun r38=>
 aC (cJ b25) fun r39=>
 aC (dO ([r38,r39]:List Expr)) fun r40=>
 aC (cJ ([r37,r40]:List Expr)) fun r41=>
 aC (cD (⟨p0.numbering,b10⟩:Builder) r32 r41) fun r42=>
 aD (I64 (k9 - (1:Int))) <|
 some (.inl ((k9 - (1:Int)),r42.rungs))
 else
 aW (
 some b10)) ((r4 - (1:Int)),p0.rungs)) fun b2=>
 aC (bO p0.numbering p1 (1:Int)) fun r45=>
 aC (fF (⟨p0.numbering,b2⟩:Builder) p1) fun r46=>
 aC (cD (⟨p0.numbering,b2⟩:Builder) r45 r46) fun r47=>
 aC (bO p0.numbering p1 (2:Int)) fun r48=>
 aC (aS p0.numbering p1 (1:Int)) fun r49=>
 aC (cB r49) fun r50=>
 aC (cD (⟨p0.numbering,r47.rungs⟩:Builder) r48 r50) fun r51=>
 aC (bO p0.numbering p1 (3:Int)) fun r52=>
 aC (aS p0.numbering p1 (2:Int)) fun r53=>
 aC (cB r53) fun r54=>
 aC (cD (⟨p0.numbering,r51.rungs⟩:Builder) r52 r54) fun r55=>
 some (⟨p0.numbering,r55.rungs⟩:Builder)

def bR (p0:Int) (p1:Builder) (p2:Int) (p3:Bool) (p4:(List Int)):Option (Bool×(List Int)):=
 aC (
 if p0 < (0:Int) then
 some true
 else
 aC (bI p1.numbering p2) fun r4=>
 some (decide (p0=r4))) fun x1=>
 if x1=true then
 some (true,p4)
 else
 aC (dH p4 p0) fun r6=>
 if (!(r6))=true then
 aD ((p4++([p0]:List Int)).length≤1000000000) <|
 some (p3,(p4++([p0]:List Int)))
 else
 some (p3,p4)

def gH (p0:Builder) (p1:Int) (p2:Int):Option (Bool×(List Int)):=
 bC p0.numbering.t.routes p1 fun e1=>
 bC p0.numbering.t.routes p2 fun e2=>
 aC (iV e2 e1) fun r3=>
 aC (iV e1 e2) fun r4=>
 aC (
 bE (fun (x12,c13,b14)=>
 if x12 < (e1.sections.length:Int) then
 bC e1.sections x12 fun e17=>
 aC (
 aC (dV e2.sections e17) fun r21=>
 if (0:Int)≤r21 then
 aC (bR r21 p0 p2 c13 b14) fun (r24,r25)=>
 some (r24,r25)
 else
 some (c13,b14)) fun (c18,b19)=>
 if c18=true then
 aD (I64 (x12+(1:Int))) <|
 some (.inl ((x12+(1:Int)),true,b19))
 else
 aC (dH e2.overSections e17) fun r27=>
 if r27=true then
 aD (I64 (x12+(1:Int))) <|
 some (.inl ((x12+(1:Int)),!(r3),b19))
 else
 aD (I64 (x12+(1:Int))) <|
 some (.inl ((x12+(1:Int)),false,b19))
 else
 aW (
 some (c13,b14))) ((0:Int),false,([]:List Int))) fun (c5,b6)=>
 aC (
 bE (fun (x40,c41,b42)=>
 if x40 < (e1.overSections.length:Int) then
 bC e1.overSections x40 fun e45=>
 aC (
 aC (dV e2.sections e45) fun r49=>
 if ((decide ((0:Int)≤r49))&&(!(r4)))=true then
 aC (bR r49 p0 p2 c41 b42) fun (r53,r54)=>
 some (r53,r54)
 else
 some (c41,b42)) fun (c46,b47)=>
 if c46=true then
 aD (I64 (x40+(1:Int))) <|
 some (.inl ((x40+(1:Int)),true,b47))
 else
 aC (dH e2.overSections e45) fun r56=>
 if r56=true then
 if (!(r3))=true then
 aD (I64 (x40+(1:Int))) <|
 some (.inl ((x40+(1:Int)),!(r4),b47))
 else
 aD (I64 (x40+(1:Int))) <|
 some (.inl ((x40+(1:Int)),false,b47))
 else
 aD (I64 (x40+(1:Int))) <|
 some (.inl ((x40+(1:Int)),false,b47))
 else
 aW (
 some (c41,b42))) ((0:Int),c5,b6)) fun (c33,b34)=>
 aC (
 aC (gD e1) fun r67=>
 bE (fun (x72,c73,b74)=>
 if x72 < (r67.length:Int) then
 bC r67 x72 fun e77=>
 aD (I64 ((3:Int) - e77.pos)) <|
 aC (
 aC (cV e2.overPoints (⟨e77.el,((3:Int) - e77.pos)⟩:Setting)) fun r81=>
 if r81=true then
 some true
 else
 aC (cV e2.flank (⟨e77.el,((3:Int) - e77.pos)⟩:Setting)) fun r83=>
 some r83) fun x79=>
 if x79=true then
 aD (I64 (x72+(1:Int))) <|
 some (.inl ((x72+(1:Int)),true,b74))
 else
 aC (cV e2.points (⟨e77.el,((3:Int) - e77.pos)⟩:Setting)) fun r86=>
 if r86=true then
 aC (iP p0.numbering.t e77.el) fun r88=>
 bC p0.numbering.t.homes r88 fun e89=>
 aC (dV e2.sections e89) fun r90=>
 aC (bR r90 p0 p2 c73 b74) fun (r92,r93)=>
 aD (I64 (x72+(1:Int))) <|
 some (.inl ((x72+(1:Int)),r92,r93))
 else
 aD (I64 (x72+(1:Int))) <|
 some (.inl ((x72+(1:Int)),c73,b74))
 else
 aW (
 some (c73,b74))) ((0:Int),c33,b34)) fun (c64,b65)=>
 some (c64,b65)

def gS (p0:Builder) (p1:Int) (p2:Int):Option ((List Expr)):=
 aC (gH p0 p1 p2) fun (r2,r3)=>
 aC (aS p0.numbering p2 (3:Int)) fun r4=>
 aC (cB r4) fun r5=>
 aC (
 if p2 < p1 then
 aC (aS p0.numbering p2 (4:Int)) fun r11=>
 aC (cB r11) fun r12=>
 aC (dO ([r5,r12]:List Expr)) fun r13=>
 some (r13.op,r13.var,r13.args)
 else
 some (r5.op,r5.var,r5.args)) fun (c6,c7,c8)=>
 if r2=true then
 aC (cS (⟨c6,c7,c8⟩:Expr)) fun r15=>
 some ([r15]:List Expr)
 else
 if (r3.length:Int)=(0:Int) then
 some ([]:List Expr)
 else
 aC (cS (⟨c6,c7,c8⟩:Expr)) fun r17=>
 aC (
 bE (fun (x23,b24)=>
 if x23 < (r3.length:Int) then
 bC r3 x23 fun e27=>
 aC (cM p0 p2 e27) fun r28=>
 aD ((b24++([r28]:List Expr)).length≤1000000000) <|
 aD (I64 (x23+(1:Int))) <|
 some (.inl ((x23+(1:Int)),(b24++([r28]:List Expr))))
 else
 aW (
 some b24)) ((0:Int),([]:List Expr))) fun b18=>
 aC (cJ b18) fun r32=>
 aD ((([r17]:List Expr)++([r32]:List Expr)).length≤1000000000) <|
 aC (dO (([r17]:List Expr)++([r32]:List Expr))) fun r34=>
 some ([r34]:List Expr)

def gI (p0:Builder) (p1:Int):Option Expr:=
 bC p0.numbering.t.routes p1 fun e1=>
 aC (bN p0 p1 (2:Int)) fun r2=>
 aC (aS p0.numbering p1 (3:Int)) fun r3=>
 aC (cB r3) fun r4=>
 aC (cS r4) fun r5=>
 aC (
 aC (hU ([e1.sections,e1.overSections]:List (List Int))) fun r8=>
 bE (fun (x12,b13)=>
 if x12 < (r8.length:Int) then
 bC r8 x12 fun e16=>
 aC (eH p0.numbering e16 (1:Int)) fun r17=>
 aC (cB r17) fun r18=>
 aD ((b13++([r18]:List Expr)).length≤1000000000) <|
 aD (I64 (x12+(1:Int))) <|
 some (.inl ((x12+(1:Int)),(b13++([r18]:List Expr))))
 else
 aW (
 some b13)) ((0:Int),([r2,r5]:List Expr))) fun b6=>
 aC (
 bE (fun (x27,b28)=>
 if x27 < (p0.numbering.t.routes.length:Int) then
 if x27=p1 then
 aD (I64 (x27+(1:Int))) <|
 some (.inl ((x27+(1:Int)),b28))
 else
 aC (gS p0 p1 x27) fun r32=>
 aD ((b28++r32).length≤1000000000) <|
 aD (I64 (x27+(1:Int))) <|
 some (.inl ((x27+(1:Int)),(b28++r32)))
 else
 aW (
 some b28)) ((0:Int),b6)) fun b22=>
 aC (
 aC (gD e1) fun r39=>
 bE (fun (x43,b44)=>
 if x43 < (r39.length:Int) then
 bC r39 x43 fun e47=>
 aC (iP p0.numbering.t e47.el) fun r48=>
 aC (eB p0.numbering r48) fun r49=>
 aC (cB r49) fun r50=>
 aC (
 if e47.pos=(1:Int) then
 aC (cS r50) fun r56=>
 some (r56.op,r56.var,r56.args)
 else
 some (r50.op,r50.var,r50.args)) fun (c51,c52,c53)=>
 bC p0.numbering.t.homes r48 fun e57=>
 aC (bQ p0 e57) fun r58=>
 aC (dO ([(⟨c51,c52,c53⟩:Expr),r58]:List Expr)) fun r59=>
 aD ((b44++([r59]:List Expr)).length≤1000000000) <|
 aD (I64 (x43+(1:Int))) <|
 some (.inl ((x43+(1:Int)),(b44++([r59]:List Expr))))
 else
 aW (
 some b44)) ((0:Int),b22)) fun b37=>
 aC (cJ b37) fun r63=>
 some r63

def hR (p0:Builder) (p1:Int):Option Expr:=
 aC (
 bE (fun (x8,b9,b10)=>
 if x8 < (p0.numbering.t.routes.length:Int) then
 aC (
 bC p0.numbering.t.routes x8 fun e16=>
 aC (gD e16) fun r17=>
 bE (fun (x22,b23,b24)=>
 if x22 < (r17.length:Int) then
 bC r17 x22 fun e27=>
 bC p0.numbering.t.points p1 fun e28=>
 if e27.el=e28 then
 if e27.pos=(2:Int) then
 aC (aS p0.numbering x8 (4:Int)) fun r32=>
 aC (cB r32) fun r33=>
 aD ((b24++([r33]:List Expr)).length≤1000000000) <|
 aD (I64 (x22+(1:Int))) <|
 some (.inl ((x22+(1:Int)),b23,(b24++([r33]:List Expr))))
 else
 aC (aS p0.numbering x8 (4:Int)) fun r36=>
 aC (cB r36) fun r37=>
 aD ((b23++([r37]:List Expr)).length≤1000000000) <|
 aD (I64 (x22+(1:Int))) <|
 some (.inl ((x22+(1:Int)),(b23++([r37]:List Expr)),b24))
 else
 aD (I64 (x22+(1:Int))) <|
 some (.inl ((x22+(1:Int)),b23,b24))
 else
 aW (
 some (b23,b24))) ((0:Int),b9,b10)) fun (b13,b14)=>
 aD (I64 (x8+(1:Int))) <|
 some (.inl ((x8+(1:Int)),b13,b14))
 else
 aW (
 some (b9,b10))) ((0:Int),([]:List Expr),([]:List Expr))) fun (b1,b2)=>
 aC (dO b2) fun r43=>
 aC (eB p0.numbering p1) fun r44=>
 aC (cB r44) fun r45=>
 aC (dO b1) fun r46=>
 aC (cS r46) fun r47=>
 aC (cJ ([r45,r47]:List Expr)) fun r48=>
 aC (dO ([r43,r48]:List Expr)) fun r49=>
 some r49

def jG (p0:Table):Option (Program×Int):=
 aC (iY p0) fun (r2,r3)=>
 if r3=(0:Int) then
 aC (
 bE (fun (x10,b11)=>
 if x10 < (p0.routes.length:Int) then
 aC (gG (⟨r2,b11⟩:Builder) x10) fun r14=>
 aD (I64 (x10+(1:Int))) <|
 some (.inl ((x10+(1:Int)),r14.rungs))
 else
 aW (
 some b11)) ((0:Int),([]:List Rung))) fun b5=>
 aC (
 bE (fun (x22,b23)=>
 if x22 < (p0.routes.length:Int) then
 aC (fT (⟨r2,b23⟩:Builder) x22) fun r26=>
 aD (I64 (x22+(1:Int))) <|
 some (.inl ((x22+(1:Int)),r26.rungs))
 else
 aW (
 some b23)) ((0:Int),b5)) fun b17=>
 aC (
 bE (fun (x34,b35)=>
 if x34 < (p0.routes.length:Int) then
 aC (gR (⟨r2,b35⟩:Builder) x34) fun r38=>
 aD (I64 (x34+(1:Int))) <|
 some (.inl ((x34+(1:Int)),r38.rungs))
 else
 aW (
 some b35)) ((0:Int),b17)) fun b29=>
 aC (
 bE (fun (x46,b47)=>
 if x46 < (p0.routes.length:Int) then
 aC (aS r2 x46 (4:Int)) fun r50=>
 aC (gI (⟨r2,b47⟩:Builder) x46) fun r51=>
 aC (cD (⟨r2,b47⟩:Builder) r50 r51) fun r52=>
 aD (I64 (x46+(1:Int))) <|
 some (.inl ((x46+(1:Int)),r52.rungs))
 else
 aW (
 some b47)) ((0:Int),b29)) fun b41=>
 aC (
 bE (fun (x60,b61)=>
 if x60 < (p0.points.length:Int) then
 aC (eB r2 x60) fun r64=>
 aC (hR (⟨r2,b61⟩:Builder) x60) fun r65=>
 aC (cD (⟨r2,b61⟩:Builder) r64 r65) fun r66=>
 aD (I64 (x60+(1:Int))) <|
 some (.inl ((x60+(1:Int)),r66.rungs))
 else
 aW (
 some b61)) ((0:Int),b41)) fun b55=>
 aC (
 bE (fun (x74,b75)=>
 if x74 < (p0.routes.length:Int) then
 aC (bO r2 x74 (0:Int)) fun r78=>
 aC (aS r2 x74 (0:Int)) fun r79=>
 aC (cB r79) fun r80=>
 aC (aS r2 x74 (4:Int)) fun r81=>
 aC (cB r81) fun r82=>
 aC (dO ([r80,r82]:List Expr)) fun r83=>
 aC (cD (⟨r2,b75⟩:Builder) r78 r83) fun r84=>
 aD (I64 (x74+(1:Int))) <|
 some (.inl ((x74+(1:Int)),r84.rungs))
 else
 aW (
 some b75)) ((0:Int),b55)) fun b69=>
 aC (fZ r2) fun r87=>
 some ((⟨r87,r2.inputs,b69⟩:Program),(0:Int))
 else
 some ((⟨([]:List ByteArray),(0:Int),([]:List Rung)⟩:Program),r3)

def iM:Nat→Expr→Int→Int→Int→Option (Bool×Int)
 | 0,_,_,_,_=>none
 | fu+1,p0,p1,p2,p3=>
 if ((decide ((12:Int) < p2))||(decide (p3=(0:Int))))=true then
 some (false,p3)
 else
 aD (I64 (p3 - (1:Int))) <|
 eP (
 aC (
 if p0.op=(1:Int) then
 some (decide (p0.op=(1:Int)))
 else
 some (decide (p0.op=(2:Int)))) fun x5=>
 if x5=true then
 aW (
 some (((decide (p0.var=(0:Int)))&&(decide ((p0.args.length:Int)=(0:Int)))),(p3 - (1:Int))))
 else
 if p0.op=(3:Int) then
 aW (
 some (((decide ((0:Int)≤p0.var))&&((decide (p0.var < p1))&&(decide ((p0.args.length:Int)=(0:Int))))),(p3 - (1:Int))))
 else
 if p0.op=(4:Int) then
 if (p0.args.length:Int)=(1:Int) then
 some (.inl ())
 else
 aW (
 some (false,(p3 - (1:Int))))
 else
 if p0.op=(5:Int) then
 some (.inl ())
 else
 if p0.op=(6:Int) then
 some (.inl ())
 else
 aW (
 some (false,(p3 - (1:Int))))) fun _=>
 if p0.var=(0:Int) then
 eP (
 bE (fun (x27,c28)=>
 if x27 < (p0.args.length:Int) then
 bC p0.args x27 fun e31=>
 aD (I64 (p2+(1:Int))) <|
 aC ((iM fu) e31 p1 (p2+(1:Int)) c28) fun (r34,r35)=>
 if (!(r34))=true then
 aW (
 aW (
 some (false,r35)))
 else
 aD (I64 (x27+(1:Int))) <|
 some (.inl ((x27+(1:Int)),r35))
 else
 aW (
 some (.inl c28))) ((0:Int),(p3 - (1:Int)))) fun c22=>
 some (true,c22)
 else
 some (false,(p3 - (1:Int)))
def xM (p0:Expr) (p1:Int) (p2:Int) (p3:Int):Option (Bool×Int):=iM lG p0 p1 p2 p3

def nO (p0:Expr) (p1:Int):Option Bool:=
 aC (xM p0 p1 (1:Int) (20000:Int)) fun (r2,r3)=>
 some r2

def lT (p0:Program) (p1:Rung):Option Bool:=
 eP (
 if p1.kind=(1:Int) then
 if p1.preset=(0:Int) then
 some (.inl ())
 else
 aW (
 some false)
 else
 if p1.kind=(2:Int) then
 if ((decide (p1.preset < (1:Int)))||(decide ((1073741824:Int) < p1.preset)))=true then
 aW (
 some false)
 else
 some (.inl ())
 else
 aW (
 some false)) fun _=>
 aC (
 if p0.inputs≤p1.var then
 if p1.var < (p0.names.length:Int) then
 aC (nO p1.expr (p0.names.length:Int)) fun r14=>
 some r14
 else
 some false
 else
 some false) fun x10=>
 some x10

def nL (p0:Program):Option Int:=
 if (2000:Int) < (p0.names.length:Int) then
 some (2:Int)
 else
 if ((decide (p0.inputs < (0:Int)))||(decide ((p0.names.length:Int) < p0.inputs)))=true then
 some (1:Int)
 else
 eP (
 bE (fun x6=>
 if x6 < (p0.rungs.length:Int) then
 bC p0.rungs x6 fun e9=>
 aC (lT p0 e9) fun r10=>
 if (!(r10))=true then
 aW (
 aW (
 some (1:Int)))
 else
 aD (I64 (x6+(1:Int))) <|
 some (.inl (x6+(1:Int)))
 else
 aW (
 some (.inl ()))) (0:Int)) fun _=>
 aD (0≤(p0.names.length:Int)∧(p0.names.length:Int)≤1000000000) <|
 eP (
 bE (fun (x22,b23)=>
 if x22 < (p0.rungs.length:Int) then
 bC p0.rungs x22 fun e26=>
 bC b23 e26.var fun e27=>
 if e27=true then
 aW (
 aW (
 some (8:Int)))
 else
 bC b23 e26.var fun e31=>
 aD (I64 (x22+(1:Int))) <|
 some (.inl ((x22+(1:Int)),(b23.set e26.var.toNat true)))
 else
 aW (
 some (.inl b23))) ((0:Int),(List.replicate (p0.names.length:Int).toNat false))) fun b17=>
 some (0:Int)

def pI (p0:Program):Option Machine:=
 aC (nL p0) fun r1=>
 if r1=(0:Int) then
 aD (0≤(p0.names.length:Int)∧(p0.names.length:Int)≤1000000000) <|
 aD (0≤(p0.rungs.length:Int)∧(p0.rungs.length:Int)≤1000000000) <|
 some (⟨(List.replicate (p0.names.length:Int).toNat false),(List.replicate (p0.rungs.length:Int).toNat (0:Int)),false⟩:Machine)
 else
 some (⟨([]:List Bool),([]:List Int),true⟩:Machine)

def gV (p0:(List Bool)) (p1:Int) (p2:Bool):Option Bool:=
 aC (
 if p1 < (p0.length:Int) then
 bC p0 p1 fun e4=>
 some (e4 == p2)
 else
 some false) fun x1=>
 some x1

def kP (p0:(List Int)) (p1:Int) (p2:Int):Option Bool:=
 aC (
 if p1 < (p0.length:Int) then
 bC p0 p1 fun e4=>
 some (decide (e4=p2))
 else
 some false) fun x1=>
 some x1

def nB (p0:Table) (p1:Inputs):Option ((List Bool)):=
 aC (kR p0) fun r1=>
 if r1=(0:Int) then
 aC (
 bE (fun (x8,b9)=>
 if x8 < p0.sections then
 aC (gV p1.occupied x8 false) fun r12=>
 aC (gV p1.closed x8 false) fun r13=>
 aD ((b9++([r12,r13]:List Bool)).length≤1000000000) <|
 aD (I64 (x8+(1:Int))) <|
 some (.inl ((x8+(1:Int)),(b9++([r12,r13]:List Bool))))
 else
 aW (
 some b9)) ((0:Int),([]:List Bool))) fun b3=>
 aC (
 bE (fun (x22,b23)=>
 if x22 < (p0.points.length:Int) then
 aC (kP p1.detected x22 (1:Int)) fun r26=>
 aC (kP p1.detected x22 (2:Int)) fun r27=>
 aD ((b23++([r26,r27]:List Bool)).length≤1000000000) <|
 aD (I64 (x22+(1:Int))) <|
 some (.inl ((x22+(1:Int)),(b23++([r26,r27]:List Bool))))
 else
 aW (
 some b23)) ((0:Int),b3)) fun b17=>
 aC (
 bE (fun (x36,b37)=>
 if x36 < (p0.routes.length:Int) then
 aC (gV p1.claimed x36 false) fun r40=>
 aC (gV p1.passed x36 true) fun r41=>
 aC (dH p1.calls x36) fun r42=>
 aC (dH p1.cancels x36) fun r43=>
 aD ((b37++([r40,r41,r42,r43]:List Bool)).length≤1000000000) <|
 aD (I64 (x36+(1:Int))) <|
 some (.inl ((x36+(1:Int)),(b37++([r40,r41,r42,r43]:List Bool))))
 else
 aW (
 some b37)) ((0:Int),b17)) fun b31=>
 some b31
 else
 some ([]:List Bool)

def qCV (p0:Program) (p1:Machine):Option Bool:=
 aC (
 aC (nL p0) fun r3=>
 if r3=(0:Int) then
 if (p1.vars.length:Int)=(p0.names.length:Int) then
 some (!(decide ((p1.counts.length:Int)=(p0.rungs.length:Int))))
 else
 some true
 else
 some true) fun x1=>
 if x1=true then
 some false
 else
 eP (
 bE (fun x9=>
 if x9 < (p0.rungs.length:Int) then
 bC p0.rungs x9 fun e12=>
 aC (
 bC p1.counts x9 fun e15=>
 if e15 < (0:Int) then
 some true
 else
 bC p1.counts x9 fun e17=>
 some (decide (e12.preset < e17))) fun x13=>
 if x13=true then
 aW (
 aW (
 some false))
 else
 aD (I64 (x9+(1:Int))) <|
 some (.inl (x9+(1:Int)))
 else
 aW (
 some (.inl ()))) (0:Int)) fun _=>
 some true

def qCU (p0:Program):Option Machine:=
 aC (pI p0) fun r1=>
 some (⟨r1.vars,r1.counts,true⟩:Machine)

def mV (p0:(List Bool)):Option ((List Bool)):=
 qPT p0 (
 some ([]:List Bool)) (
 aD ((([]:List Bool)++p0).length≤1000000000) <|
 some (([]:List Bool)++p0))

def nH (p0:(List Int)):Option ((List Int)):=
 qPT p0 (
 some ([]:List Int)) (
 aD ((([]:List Int)++p0).length≤1000000000) <|
 some (([]:List Int)++p0))

def oQ (p0:Int) (p1:Bool):Option (Int×Bool):=
 some (p0,p1)

def oP (p0:Int) (p1:Bool) (p2:Rung):Option (Int×Bool):=
 if (!(p1))=true then
 some ((0:Int),false)
 else
 if p0 < p2.preset then
 aD (I64 (p0+(1:Int))) <|
 some ((p0+(1:Int)),decide ((p0+(1:Int))=p2.preset))
 else
 some (p0,decide (p0=p2.preset))

def sV (p0:Rung):Option Effect:=
 if p0.kind=(2:Int) then
 some (⟨(Fn110.c124 p0)⟩:Effect)
 else
 some (⟨Fn110.c123⟩:Effect)

def uS (p0:Expr):Option If_node:=
 if p0.op=(3:Int) then
 some (⟨180,p0⟩:If_node)
 else
 if p0.op=(4:Int) then
 if (0:Int) < (p0.args.length:Int) then
 some (⟨181,p0⟩:If_node)
 else
 some (⟨200,p0⟩:If_node)
 else
 if p0.op=(5:Int) then
 some (⟨182,p0⟩:If_node)
 else
 if p0.op=(6:Int) then
 some (⟨183,p0⟩:If_node)
 else
 some (⟨200,p0⟩:If_node)

def lA:Nat→Expr→(List Bool)→Option Bool
 | 0,_,_=>none
 | fu+1,p0,p1=>
 eP (
 aC (uS p0) fun r2=>
 if r2.tid=180 then
 aC (
 if (0:Int)≤r2.e.var then
 if r2.e.var < (p1.length:Int) then
 bC p1 r2.e.var fun e8=>
 some e8
 else
 some false
 else
 some false) fun x4=>
 aW (
 some x4)
 else
 if r2.tid=181 then
 bC r2.e.args (0:Int) fun e11=>
 aC ((lA fu) e11 p1) fun r12=>
 aW (
 some (!(r12)))
 else
 if r2.tid=182 then
 eP (
 bE (fun x17=>
 if x17 < (r2.e.args.length:Int) then
 bC r2.e.args x17 fun e20=>
 aC ((lA fu) e20 p1) fun r21=>
 if (!(r21))=true then
 aW (
 aW (
 aW (
 some false)))
 else
 aD (I64 (x17+(1:Int))) <|
 some (.inl (x17+(1:Int)))
 else
 aW (
 some (.inl ()))) (0:Int)) fun _=>
 aW (
 some true)
 else
 if r2.tid=183 then
 eP (
 bE (fun x32=>
 if x32 < (r2.e.args.length:Int) then
 bC r2.e.args x32 fun e35=>
 aC ((lA fu) e35 p1) fun r36=>
 if r36=true then
 aW (
 aW (
 aW (
 some true)))
 else
 aD (I64 (x32+(1:Int))) <|
 some (.inl (x32+(1:Int)))
 else
 aW (
 some (.inl ()))) (0:Int)) fun _=>
 aW (
 some false)
 else
 some (.inl ())) fun _=>
 some (decide (p0.op=(2:Int)))
def qFX (p0:Expr) (p1:(List Bool)):Option Bool:=lA lG p0 p1

def zV (p0:Expr) (p1:(List Bool)):Option Bool:=
 aC (qFX p0 p1) fun r1=>
 some r1

def yA (p0:Program) (p1:Machine) (p2:(List Bool)):Option Machine:=
 aC (
 if (p1.halted)=true then
 some true
 else
 aC (qCV p0 p1) fun r4=>
 some (!(r4))) fun x1=>
 if x1=true then
 aC (qCU p0) fun r6=>
 some r6
 else
 aC (mV p1.vars) fun r7=>
 aC (nH p1.counts) fun r8=>
 aC (
 bE (fun (x14,b15)=>
 if x14 < p0.inputs then
 if x14 < (p2.length:Int) then
 bC p2 x14 fun e21=>
 bC b15 x14 fun e22=>
 aD (I64 (x14+(1:Int))) <|
 some (.inl ((x14+(1:Int)),(b15.set x14.toNat e21)))
 else
 bC b15 x14 fun e19=>
 aD (I64 (x14+(1:Int))) <|
 some (.inl ((x14+(1:Int)),(b15.set x14.toNat false)))
 else
 aW (
 some b15)) ((0:Int),r7)) fun b9=>
 aC (
 bE (fun (x32,b33,b34)=>
 if x32 < (p0.rungs.length:Int) then
 bC p0.rungs x32 fun e37=>
 aC (sV e37) fun r38=>
 bC b34 x32 fun e39=>
 aC (zV e37.expr b33) fun r40=>
 (match r38.act with
 | .c123=>
 aC (oQ e39 r40) fun (r43,r44)=>
 bC b34 x32 fun e45=>
 bC b33 e37.var fun e46=>
 aD (I64 (x32+(1:Int))) <|
 some (.inl ((x32+(1:Int)),(b33.set e37.var.toNat r44),(b34.set x32.toNat r43)))
 | .c124 u48=>
 aC (oP e39 r40 u48) fun (r50,r51)=>
 bC b34 x32 fun e52=>
 bC b33 e37.var fun e53=>
 aD (I64 (x32+(1:Int))) <|
 some (.inl ((x32+(1:Int)),(b33.set e37.var.toNat r51),(b34.set x32.toNat r50))))
 else
 aW (
 some (b33,b34))) ((0:Int),b9,r8)) fun (b25,b26)=>
 some (⟨b25,b26,false⟩:Machine)

def iN (p0:Numbering) (p1:Machine):Option Bool:=
 aC (
 if (p1.vars.length:Int)=p0.count then
 aD (I64 (p0.count - p0.inputs)) <|
 some (decide ((p1.counts.length:Int)=(p0.count - p0.inputs)))
 else
 some false) fun x1=>
 some x1

def iD (p0:Numbering) (p1:Machine) (p2:Int):Option RouteState:=
 aC (
 bE (fun x4=>
 if x4 < (4:Int) then
 bC ([(1:Int),(2:Int),(3:Int),(4:Int)]:List Int) x4 fun e7=>
 aD (I64 ((0:Int)+x4)) <|
 aC (bO p0 p2 ((0:Int)+x4)) fun r9=>
 bC p1.vars r9 fun e10=>
 if e10=true then
 aW (
 some e7)
 else
 aD (I64 (x4+(1:Int))) <|
 some (.inl (x4+(1:Int)))
 else
 aW (
 some (0:Int))) (0:Int)) fun c1=>
 if ((!(decide (c1=(3:Int))))&&(!(decide (c1=(4:Int)))))=true then
 some (⟨c1,(0:Int),(0:Int)⟩:RouteState)
 else
 aC (
 bE (fun c20=>
 aC (
 aC (bI p0 p2) fun r24=>
 if c20 < r24 then
 aD (I64 ((4:Int)+c20)) <|
 aC (bO p0 p2 ((4:Int)+c20)) fun r27=>
 bC p1.vars r27 fun e28=>
 some e28
 else
 some false) fun x22=>
 if x22=true then
 aD (I64 (c20+(1:Int))) <|
 some (.inl (c20+(1:Int)))
 else
 aW (
 some c20)) (0:Int)) fun c17=>
 if c1=(4:Int) then
 aD (I64 ((2:Int) * p2)) <|
 bC p1.counts ((2:Int) * p2) fun e34=>
 some (⟨c1,c17,e34⟩:RouteState)
 else
 aD (I64 ((2:Int) * p2)) <|
 aD (I64 (((2:Int) * p2)+(1:Int))) <|
 bC p1.counts (((2:Int) * p2)+(1:Int)) fun e37=>
 some (⟨c1,c17,e37⟩:RouteState)

def oB (p0:Table) (p1:Machine):Option Inter:=
 aC (iY p0) fun (r2,r3)=>
 aC (
 if r3=(0:Int) then
 aC (iN r2 p1) fun r7=>
 some (!(r7))
 else
 some true) fun x4=>
 if x4=true then
 some (⟨([]:List RouteState),([]:List Int)⟩:Inter)
 else
 aC (
 bE (fun (x14,b15)=>
 if x14 < (p0.routes.length:Int) then
 aC (iD r2 p1 x14) fun r18=>
 aD ((b15++([r18]:List RouteState)).length≤1000000000) <|
 aD (I64 (x14+(1:Int))) <|
 some (.inl ((x14+(1:Int)),(b15++([r18]:List RouteState))))
 else
 aW (
 some b15)) ((0:Int),([]:List RouteState))) fun b9=>
 aC (
 bE (fun (x27,b28)=>
 if x27 < (p0.points.length:Int) then
 aC (
 aC (eB r2 x27) fun r33=>
 bC p1.vars r33 fun e34=>
 if e34=true then
 some (2:Int)
 else
 some (1:Int)) fun pos31=>
 aD ((b28++([pos31]:List Int)).length≤1000000000) <|
 aD (I64 (x27+(1:Int))) <|
 some (.inl ((x27+(1:Int)),(b28++([pos31]:List Int))))
 else
 aW (
 some b28)) ((0:Int),([]:List Int))) fun b22=>
 some (⟨b9,b22⟩:Inter)

def rL (p0:Table) (p1:Machine):Option ((List Bool)):=
 aC (kR p0) fun r1=>
 if r1=(0:Int) then
 aD (0≤p0.signals∧p0.signals≤1000000000) <|
 aC (iY p0) fun (r5,r6)=>
 aC (
 if r6=(0:Int) then
 if (p1.halted)=true then
 some true
 else
 aC (iN r5 p1) fun r11=>
 some (!(r11))
 else
 some true) fun x7=>
 if x7=true then
 some (List.replicate p0.signals.toNat false)
 else
 aC (
 bE (fun (x18,b19)=>
 if x18 < (p0.routes.length:Int) then
 bC p0.routes x18 fun e22=>
 aC (bO r5 x18 (1:Int)) fun r23=>
 bC p1.vars r23 fun e24=>
 if e24=true then
 bC b19 e22.entry fun e26=>
 aD (I64 (x18+(1:Int))) <|
 some (.inl ((x18+(1:Int)),(b19.set e22.entry.toNat true)))
 else
 aD (I64 (x18+(1:Int))) <|
 some (.inl ((x18+(1:Int)),b19))
 else
 aW (
 some b19)) ((0:Int),(List.replicate p0.signals.toNat false))) fun b13=>
 some b13
 else
 some ([]:List Bool)

def mQ:Option Bool:=
 aC (xJ) fun r1=>
 aC (jG r1) fun (r3,r4)=>
 aC (
 if r4=(0:Int) then
 if (r3.names.length:Int)=(36:Int) then
 if r3.inputs=(14:Int) then
 if (r3.rungs.length:Int)=(22:Int) then
 bC r3.names (6:Int) fun e11=>
 if e11=(⟨#[117,110,99,108,97,105,109,101,100,46,48]⟩:ByteArray) then
 bC r3.names (14:Int) fun e13=>
 if e13=(⟨#[115,101,116,46,48]⟩:ByteArray) then
 bC r3.names (18:Int) fun e15=>
 if e15=(⟨#[119,97,105,116,46,48]⟩:ByteArray) then
 bC r3.names (26:Int) fun e17=>
 some (!(decide (e17=(⟨#[107,101,101,112,46,48]⟩:ByteArray))))
 else
 some true
 else
 some true
 else
 some true
 else
 some true
 else
 some true
 else
 some true
 else
 some true) fun x5=>
 if x5=true then
 some false
 else
 aD (0≤(3:Int)∧(3:Int)≤1000000000) <|
 aD (0≤(3:Int)∧(3:Int)≤1000000000) <|
 aD (0≤(2:Int)∧(2:Int)≤1000000000) <|
 aC (pI r3) fun r22=>
 aC (nB r1 (⟨(List.replicate (3:Int).toNat false),([]:List Int),(List.replicate (3:Int).toNat false),(List.replicate (2:Int).toNat false),([]:List Bool),([(0:Int)]:List Int),([]:List Int)⟩:Inputs)) fun r23=>
 aC (yA r3 r22 r23) fun r24=>
 aC (nB r1 (⟨(List.replicate (3:Int).toNat false),([]:List Int),(List.replicate (3:Int).toNat false),(List.replicate (2:Int).toNat false),([]:List Bool),([]:List Int),([]:List Int)⟩:Inputs)) fun r25=>
 aC (yA r3 r24 r25) fun r26=>
 aC (oB r1 r24) fun r27=>
 aC (oB r1 r26) fun r28=>
 if ((!(decide ((r27.routes.length:Int)=(2:Int))))||(!(decide ((r28.routes.length:Int)=(2:Int)))))=true then
 some false
 else
 aC (rL r1 r26) fun r31=>
 aC (
 bC r27.routes (0:Int) fun e34=>
 aD (RouteState.ok e34∧RouteState.ok (⟨(1:Int),(0:Int),(0:Int)⟩:RouteState)) <|
 if e34=(⟨(1:Int),(0:Int),(0:Int)⟩:RouteState) then
 bC r28.routes (0:Int) fun e38=>
 aD (RouteState.ok e38∧RouteState.ok (⟨(2:Int),(0:Int),(0:Int)⟩:RouteState)) <|
 if e38=(⟨(2:Int),(0:Int),(0:Int)⟩:RouteState) then
 if (r31.length:Int)=(2:Int) then
 bC r31 (0:Int) fun e43=>
 if e43=true then
 bC r31 (1:Int) fun e45=>
 some (!(e45))
 else
 some false
 else
 some false
 else
 some false
 else
 some false) fun x32=>
 some x32

def kV (p0:Table) (p1:(List Int)):Option Bool:=
 eP (
 bE (fun x3=>
 if x3 < (p1.length:Int) then
 eP (
 bC p1 x3 fun e7=>
 if ((decide (e7 < (0:Int)))||(decide (p0.sections≤e7)))=true then
 aW (
 aW (
 aW (
 some false)))
 else
 bE (fun x14=>
 if x14 < x3 then
 bC p1 x14 fun e17=>
 if e17=e7 then
 aW (
 aW (
 aW (
 aW (
 some false))))
 else
 aD (I64 (x14+(1:Int))) <|
 some (.inl (x14+(1:Int)))
 else
 aW (
 some (.inl ()))) (0:Int)) fun _=>
 aD (I64 (x3+(1:Int))) <|
 some (.inl (x3+(1:Int)))
 else
 aW (
 some (.inl ()))) (0:Int)) fun _=>
 some true

def mO (p0:Table) (p1:Route):Option Bool:=
 if ((decide (p1.entry < (0:Int)))||((decide (p0.signals≤p1.entry))||((decide (p1.exit < (-1:Int)))||((decide (p0.signals≤p1.exit))||((decide ((p1.path.length:Int) < (1:Int)))||((decide ((12:Int) < (p1.path.length:Int)))||(decide (p1.length < (1:Int)))))))))=true then
 some false
 else
 aD ((([]:List Int)++p1.sections).length≤1000000000) <|
 aD (((([]:List Int)++p1.sections)++p1.overSections).length≤1000000000) <|
 aC (
 if (0:Int) < (p1.sections.length:Int) then
 aC (kV p0 ((([]:List Int)++p1.sections)++p1.overSections)) fun r13=>
 if r13=true then
 if (0:Int)≤p1.approach then
 some (decide (p1.approach < p0.sections))
 else
 some false
 else
 some false
 else
 some false) fun x10=>
 some x10

def jY (p0:Table) (p1:Int):Option Int:=
 eP (
 bE (fun x3=>
 if x3 < (p0.points.length:Int) then
 bC p0.points x3 fun e6=>
 if e6=p1 then
 aW (
 aW (
 some x3))
 else
 aD (I64 (x3+(1:Int))) <|
 some (.inl (x3+(1:Int)))
 else
 aW (
 some (.inl ()))) (0:Int)) fun _=>
 some (-1:Int)

def fQ (p0:Table) (p1:(List Setting)):Option Bool:=
 eP (
 bE (fun x3=>
 if x3 < (p1.length:Int) then
 bC p1 x3 fun e6=>
 aC (
 aC (jY p0 e6.el) fun r9=>
 if r9 < (0:Int) then
 some true
 else
 if e6.pos < (1:Int) then
 some true
 else
 if (2:Int) < e6.pos then
 some true
 else
 if (0:Int) < x3 then
 aD (I64 (x3 - (1:Int))) <|
 bC p1 (x3 - (1:Int)) fun e15=>
 some (decide (e6.el≤e15.el))
 else
 some false) fun x7=>
 if x7=true then
 aW (
 aW (
 some false))
 else
 aD (I64 (x3+(1:Int))) <|
 some (.inl (x3+(1:Int)))
 else
 aW (
 some (.inl ()))) (0:Int)) fun _=>
 some true

def iR (p0:(List Setting)) (p1:(List Setting)):Option Bool:=
 eP (
 bE (fun x3=>
 if x3 < (p0.length:Int) then
 eP (
 bC p0 x3 fun e7=>
 bE (fun x9=>
 if x9 < (p1.length:Int) then
 bC p1 x9 fun e12=>
 if ((decide (e7.el=e12.el))&&(!(decide (e7.pos=e12.pos))))=true then
 aW (
 aW (
 aW (
 aW (
 some false))))
 else
 aD (I64 (x9+(1:Int))) <|
 some (.inl (x9+(1:Int)))
 else
 aW (
 some (.inl ()))) (0:Int)) fun _=>
 aD (I64 (x3+(1:Int))) <|
 some (.inl (x3+(1:Int)))
 else
 aW (
 some (.inl ()))) (0:Int)) fun _=>
 some true

def nK (p0:Table) (p1:ByteArray):Option Int:=
 eP (
 bE (fun x3=>
 if x3 < (p0.routes.length:Int) then
 bC p0.routes x3 fun e6=>
 if e6.name=p1 then
 aW (
 aW (
 some x3))
 else
 aD (I64 (x3+(1:Int))) <|
 some (.inl (x3+(1:Int)))
 else
 aW (
 some (.inl ()))) (0:Int)) fun _=>
 some (-1:Int)

def oI (p0:Table):Option Int:=
 if ((decide ((48:Int) < (p0.routes.length:Int)))||((decide ((32:Int) < (p0.points.length:Int)))||((decide (p0.sections < (0:Int)))||((decide ((24:Int) < p0.sections))||((decide (p0.signals < (0:Int)))||(decide ((20:Int) < p0.signals)))))))=true then
 some (2:Int)
 else
 if (p0.homes.length:Int)=(p0.points.length:Int) then
 eP (
 bE (fun x10=>
 if x10 < (p0.points.length:Int) then
 bC p0.points x10 fun e13=>
 aC (
 if e13 < (0:Int) then
 some true
 else
 if (0:Int) < x10 then
 aD (I64 (x10 - (1:Int))) <|
 bC p0.points (x10 - (1:Int)) fun e22=>
 if e13≤e22 then
 some true
 else
 bC p0.homes x10 fun e24=>
 if e24 < (0:Int) then
 some true
 else
 bC p0.homes x10 fun e26=>
 some (decide (p0.sections≤e26))
 else
 bC p0.homes x10 fun e18=>
 if e18 < (0:Int) then
 some true
 else
 bC p0.homes x10 fun e20=>
 some (decide (p0.sections≤e20))) fun x14=>
 if x14=true then
 aW (
 aW (
 some (1:Int)))
 else
 aD (I64 (x10+(1:Int))) <|
 some (.inl (x10+(1:Int)))
 else
 aW (
 some (.inl ()))) (0:Int)) fun _=>
 eP (
 bE (fun x34=>
 if x34 < (p0.routes.length:Int) then
 bC p0.routes x34 fun e37=>
 aC (
 aC (mO p0 e37) fun r40=>
 if (!(r40))=true then
 some true
 else
 aC (fQ p0 e37.points) fun r42=>
 if (!(r42))=true then
 some true
 else
 aC (fQ p0 e37.overPoints) fun r44=>
 if (!(r44))=true then
 some true
 else
 aC (fQ p0 e37.flank) fun r46=>
 some (!(r46))) fun x38=>
 if x38=true then
 aW (
 aW (
 some (1:Int)))
 else
 aD (I64 (x34+(1:Int))) <|
 some (.inl (x34+(1:Int)))
 else
 aW (
 some (.inl ()))) (0:Int)) fun _=>
 eP (
 bE (fun x54=>
 if x54 < (p0.routes.length:Int) then
 bC p0.routes x54 fun e57=>
 aC (
 aC (iR e57.points e57.overPoints) fun r60=>
 if (!(r60))=true then
 some true
 else
 aC (iR e57.points e57.flank) fun r62=>
 if (!(r62))=true then
 some true
 else
 aC (iR e57.overPoints e57.flank) fun r64=>
 some (!(r64))) fun x58=>
 if x58=true then
 aW (
 aW (
 some (10:Int)))
 else
 aD (I64 (x54+(1:Int))) <|
 some (.inl (x54+(1:Int)))
 else
 aW (
 some (.inl ()))) (0:Int)) fun _=>
 eP (
 bE (fun x72=>
 if x72 < (p0.routes.length:Int) then
 bC p0.routes x72 fun e75=>
 aC (nK p0 e75.name) fun r76=>
 if r76=x72 then
 aD (I64 (x72+(1:Int))) <|
 some (.inl (x72+(1:Int)))
 else
 aW (
 aW (
 some (8:Int)))
 else
 aW (
 some (.inl ()))) (0:Int)) fun _=>
 some (0:Int)
 else
 some (1:Int)

def kU (p0:Table):Option Places:=
 aD (I64 ((2:Int) * p0.sections)) <|
 aD (I64 ((2:Int) * (p0.points.length:Int))) <|
 aD (I64 (((2:Int) * p0.sections)+((2:Int) * (p0.points.length:Int)))) <|
 aD (I64 ((4:Int) * (p0.routes.length:Int))) <|
 aD (I64 ((((2:Int) * p0.sections)+((2:Int) * (p0.points.length:Int)))+((4:Int) * (p0.routes.length:Int)))) <|
 aD (I64 (((((2:Int) * p0.sections)+((2:Int) * (p0.points.length:Int)))+((4:Int) * (p0.routes.length:Int)))+(p0.points.length:Int))) <|
 aC (
 bE (fun (at15,i16,b17)=>
 if i16 < (p0.routes.length:Int) then
 aD ((b17++([at15]:List Int)).length≤1000000000) <|
 aD (I64 (at15+(6:Int))) <|
 bC p0.routes i16 fun e22=>
 aD (I64 ((e22.sections.length:Int) - (1:Int))) <|
 aD (I64 ((at15+(6:Int))+(max (0:Int) ((e22.sections.length:Int) - (1:Int))))) <|
 aD (I64 (i16+(1:Int))) <|
 some (.inl (((at15+(6:Int))+(max (0:Int) ((e22.sections.length:Int) - (1:Int)))),(i16+(1:Int)),(b17++([at15]:List Int))))
 else
 aW (
 some (at15,b17))) ((((((2:Int) * p0.sections)+((2:Int) * (p0.points.length:Int)))+((4:Int) * (p0.routes.length:Int)))+(p0.points.length:Int)),(0:Int),([]:List Int))) fun (at7,b8)=>
 aD (I64 ((5:Int) * (p0.routes.length:Int))) <|
 aD (I64 (at7+((5:Int) * (p0.routes.length:Int)))) <|
 some (⟨((2:Int) * p0.sections),(((2:Int) * p0.sections)+((2:Int) * (p0.points.length:Int))),((((2:Int) * p0.sections)+((2:Int) * (p0.points.length:Int)))+((4:Int) * (p0.routes.length:Int))),at7,(at7+((5:Int) * (p0.routes.length:Int))),b8⟩:Places)

def dY (p0:Int):Option Expr:=
 some (⟨(3:Int),p0,([]:List Expr)⟩:Expr)

def fP (p0:(List Expr)):Option Expr:=
 some (⟨(6:Int),(0:Int),p0⟩:Expr)

def dN (p0:(List Expr)):Option Expr:=
 some (⟨(5:Int),(0:Int),p0⟩:Expr)

def dR (p0:Expr):Option Expr:=
 some (⟨(4:Int),(0:Int),([p0]:List Expr)⟩:Expr)

def gU (p0:Setting) (p1:Setting):Option Bool:=
 some ((decide (p0.el < p1.el))||((decide (p0.el=p1.el))&&(decide (p0.pos < p1.pos))))

def gF (p0:Route):Option ((List Setting)):=
 aD ((([]:List Setting)++p0.points).length≤1000000000) <|
 aD (((([]:List Setting)++p0.points)++p0.overPoints).length≤1000000000) <|
 aD ((((([]:List Setting)++p0.points)++p0.overPoints)++p0.flank).length≤1000000000) <|
 bE (fun b5=>
 aC (
 bE (fun (found11,x12)=>
 if x12 < ((((([]:List Setting)++p0.points)++p0.overPoints)++p0.flank).length:Int) then
 bC (((([]:List Setting)++p0.points)++p0.overPoints)++p0.flank) x12 fun e15=>
 aC (
 if (b5.length:Int)=(0:Int) then
 if found11 < (0:Int) then
 some true
 else
 bC (((([]:List Setting)++p0.points)++p0.overPoints)++p0.flank) found11 fun e27=>
 aC (gU e15 e27) fun r28=>
 some r28
 else
 aD (I64 ((b5.length:Int) - (1:Int))) <|
 bC b5 ((b5.length:Int) - (1:Int)) fun e20=>
 aC (gU e20 e15) fun r21=>
 if r21=true then
 if found11 < (0:Int) then
 some true
 else
 bC (((([]:List Setting)++p0.points)++p0.overPoints)++p0.flank) found11 fun e24=>
 aC (gU e15 e24) fun r25=>
 some r25
 else
 some false) fun x16=>
 if x16=true then
 aD (I64 (x12+(1:Int))) <|
 some (.inl (x12,(x12+(1:Int))))
 else
 aD (I64 (x12+(1:Int))) <|
 some (.inl (found11,(x12+(1:Int))))
 else
 aW (
 some found11)) ((-1:Int),(0:Int))) fun found7=>
 if found7 < (0:Int) then
 aW (
 some b5)
 else
 bC (((([]:List Setting)++p0.points)++p0.overPoints)++p0.flank) found7 fun e35=>
 aD ((b5++([e35]:List Setting)).length≤1000000000) <|
 some (.inl (b5++([e35]:List Setting)))) ([]:List Setting)

def kH (p0:Route) (p1:Route):Option Bool:=
 some ((decide ((0:Int)≤p0.exit))&&(decide (p1.entry=p0.exit)))

def rT (p0:(List Int)) (p1:Int):Option Bool:=
 eP (
 bE (fun i3=>
 if i3 < (p0.length:Int) then
 bC p0 i3 fun e6=>
 if e6=p1 then
 aW (
 aW (
 some true))
 else
 aD (I64 (i3+(1:Int))) <|
 some (.inl (i3+(1:Int)))
 else
 aW (
 some (.inl ()))) (0:Int)) fun _=>
 some false

def jN (p0:(List Int)) (p1:(List Int)):Option Int:=
 aC (
 bE (fun (out5,i6)=>
 if i6 < (p0.length:Int) then
 bC p0 i6 fun e9=>
 aC (rT p1 e9) fun r10=>
 if r10=true then
 aD (I64 (i6+(1:Int))) <|
 some (.inl (i6,(i6+(1:Int))))
 else
 aD (I64 (i6+(1:Int))) <|
 some (.inl (out5,(i6+(1:Int))))
 else
 aW (
 some out5)) ((-1:Int),(0:Int))) fun out1=>
 some out1

def mN (p0:(List Setting)) (p1:Setting):Option Bool:=
 eP (
 bE (fun i3=>
 if i3 < (p0.length:Int) then
 bC p0 i3 fun e6=>
 aD (Setting.ok e6∧Setting.ok p1) <|
 if e6=p1 then
 aW (
 aW (
 some true))
 else
 aD (I64 (i3+(1:Int))) <|
 some (.inl (i3+(1:Int)))
 else
 aW (
 some (.inl ()))) (0:Int)) fun _=>
 some false

def mW (p0:Table) (p1:Int) (p2:Int):Option Int:=
 bC p0.routes p1 fun e1=>
 bC p0.routes p2 fun e2=>
 aD (I64 ((e1.sections.length:Int) - (1:Int))) <|
 aC (kH e1 e2) fun r4=>
 aC (kH e2 e1) fun r5=>
 aC (jN e1.sections e2.sections) fun r6=>
 aC (
 if (!(r5))=true then
 aC (jN e1.sections e2.overSections) fun r10=>
 some (max r6 r10)
 else
 some r6) fun out7=>
 aC (
 if (!(r4))=true then
 aC (jN e1.overSections e2.sections) fun r17=>
 if (0:Int)≤r17 then
 some true
 else
 if (!(r4))=true then
 if (!(r5))=true then
 aC (jN e1.overSections e2.overSections) fun r21=>
 some (decide ((0:Int)≤r21))
 else
 some false
 else
 some false
 else
 if (!(r4))=true then
 if (!(r5))=true then
 aC (jN e1.overSections e2.overSections) fun r16=>
 some (decide ((0:Int)≤r16))
 else
 some false
 else
 some false) fun x11=>
 if x11=true then
 some ((e1.sections.length:Int) - (1:Int))
 else
 aC (gF e1) fun r23=>
 aC (gF e2) fun r24=>
 eP (
 bE (fun (out29,i30)=>
 if i30 < (r23.length:Int) then
 eP (
 bE (fun (out37,k38)=>
 if k38 < (r24.length:Int) then
 aC (
 bC r23 i30 fun e43=>
 bC r24 k38 fun e44=>
 if e43.el=e44.el then
 bC r23 i30 fun e46=>
 bC r24 k38 fun e47=>
 some (decide (e46.pos=e47.pos))
 else
 some true) fun x41=>
 if x41=true then
 aD (I64 (k38+(1:Int))) <|
 some (.inl (out37,(k38+(1:Int))))
 else
 bC r23 i30 fun e50=>
 aC (jY p0 e50.el) fun r51=>
 bC p0.homes r51 fun e52=>
 aC (jN e1.sections ([e52]:List Int)) fun r53=>
 aC (
 if r53 < (0:Int) then
 some true
 else
 bC r23 i30 fun e57=>
 aC (mN e1.overPoints e57) fun r58=>
 if r58=true then
 some true
 else
 bC r23 i30 fun e60=>
 aC (mN e1.flank e60) fun r61=>
 some r61) fun x54=>
 if x54=true then
 aW (
 aW (
 aW (
 aW (
 some ((e1.sections.length:Int) - (1:Int))))))
 else
 aD (I64 (k38+(1:Int))) <|
 some (.inl ((max out37 r53),(k38+(1:Int))))
 else
 aW (
 some (.inl out37))) (out29,(0:Int))) fun out33=>
 aD (I64 (i30+(1:Int))) <|
 some (.inl (out33,(i30+(1:Int))))
 else
 aW (
 some (.inl out29))) (out7,(0:Int))) fun out25=>
 some out25

def pC (p0:Int):Option ByteArray:=
 aC (
 bE (fun (s5,m6)=>
 if ((!(decide (m6=(0:Int))))||(decide (s5=(⟨#[]⟩:ByteArray))))=true then
 aD (¬ (10:Int)=0) <|
 aC (
 if (m6.tmod (10:Int)) < (0:Int) then
 some (IntKind.i64.wrap (0 - (m6.tmod (10:Int))))
 else
 some (m6.tmod (10:Int))) fun d11=>
 aD (I64 (d11+(1:Int))) <|
 aD (0≤d11∧d11≤(d11+(1:Int))∧(d11+(1:Int))≤((⟨#[48,49,50,51,52,53,54,55,56,57]⟩:ByteArray).size:Int)) <|
 aD (((⟨#[48,49,50,51,52,53,54,55,56,57]⟩:ByteArray).extract d11.toNat (d11+(1:Int)).toNat).size+s5.size≤9223372036854775807) <|
 aD (¬ (10:Int)=0) <|
 some (.inl ((((⟨#[48,49,50,51,52,53,54,55,56,57]⟩:ByteArray).extract d11.toNat (d11+(1:Int)).toNat)++s5),(IntKind.i64.wrap (m6.tdiv (10:Int)))))
 else
 aW (
 some s5)) ((⟨#[]⟩:ByteArray),p0)) fun s1=>
 if p0 < (0:Int) then
 aD ((⟨#[45]⟩:ByteArray).size+s1.size≤9223372036854775807) <|
 some ((⟨#[45]⟩:ByteArray)++s1)
 else
 some s1

def dB (p0:ByteArray) (p1:Int):Option ByteArray:=
 aD (p0.size+(⟨#[46]⟩:ByteArray).size≤9223372036854775807) <|
 aC (pC p1) fun r2=>
 aD ((p0++(⟨#[46]⟩:ByteArray)).size+r2.size≤9223372036854775807) <|
 some ((p0++(⟨#[46]⟩:ByteArray))++r2)

def oH (p0:Table):Option ((List ByteArray)×Int):=
 aC (
 bE (fun (i6,b7)=>
 if i6 < p0.sections then
 aC (dB (⟨#[102,114,101,101]⟩:ByteArray) i6) fun r10=>
 aD ((b7++([r10]:List ByteArray)).length≤1000000000) <|
 aC (dB (⟨#[111,112,101,110]⟩:ByteArray) i6) fun r12=>
 aD (((b7++([r10]:List ByteArray))++([r12]:List ByteArray)).length≤1000000000) <|
 aD (I64 (i6+(1:Int))) <|
 some (.inl ((i6+(1:Int)),((b7++([r10]:List ByteArray))++([r12]:List ByteArray))))
 else
 aW (
 some b7)) ((0:Int),([]:List ByteArray))) fun b1=>
 aC (
 bE (fun (i21,b22)=>
 if i21 < (p0.points.length:Int) then
 aC (dB (⟨#[110,111,114,109,97,108]⟩:ByteArray) i21) fun r25=>
 aD ((b22++([r25]:List ByteArray)).length≤1000000000) <|
 aC (dB (⟨#[114,101,118,101,114,115,101]⟩:ByteArray) i21) fun r27=>
 aD (((b22++([r25]:List ByteArray))++([r27]:List ByteArray)).length≤1000000000) <|
 aD (I64 (i21+(1:Int))) <|
 some (.inl ((i21+(1:Int)),((b22++([r25]:List ByteArray))++([r27]:List ByteArray))))
 else
 aW (
 some b22)) ((0:Int),b1)) fun b16=>
 aC (
 bE (fun (i36,b37)=>
 if i36 < (p0.routes.length:Int) then
 aC (dB (⟨#[117,110,99,108,97,105,109,101,100]⟩:ByteArray) i36) fun r40=>
 aD ((b37++([r40]:List ByteArray)).length≤1000000000) <|
 aC (dB (⟨#[112,97,115,115,101,100]⟩:ByteArray) i36) fun r42=>
 aD (((b37++([r40]:List ByteArray))++([r42]:List ByteArray)).length≤1000000000) <|
 aC (dB (⟨#[99,97,108,108]⟩:ByteArray) i36) fun r44=>
 aD ((((b37++([r40]:List ByteArray))++([r42]:List ByteArray))++([r44]:List ByteArray)).length≤1000000000) <|
 aC (dB (⟨#[99,97,110,99,101,108]⟩:ByteArray) i36) fun r46=>
 aD (((((b37++([r40]:List ByteArray))++([r42]:List ByteArray))++([r44]:List ByteArray))++([r46]:List ByteArray)).length≤1000000000) <|
 aD (I64 (i36+(1:Int))) <|
 some (.inl ((i36+(1:Int)),((((b37++([r40]:List ByteArray))++([r42]:List ByteArray))++([r44]:List ByteArray))++([r46]:List ByteArray))))
 else
 aW (
 some b37)) ((0:Int),b16)) fun b31=>
 aC (
 bE (fun (i55,b56)=>
 if i55 < (p0.points.length:Int) then
 aC (dB (⟨#[108,105,101]⟩:ByteArray) i55) fun r59=>
 aD ((b56++([r59]:List ByteArray)).length≤1000000000) <|
 aD (I64 (i55+(1:Int))) <|
 some (.inl ((i55+(1:Int)),(b56++([r59]:List ByteArray))))
 else
 aW (
 some b56)) ((0:Int),b31)) fun b50=>
 aC (
 bE (fun (i68,b69)=>
 if i68 < (p0.routes.length:Int) then
 aC (
 aC (dB (⟨#[115,101,116]⟩:ByteArray) i68) fun r74=>
 aD ((b69++([r74]:List ByteArray)).length≤1000000000) <|
 aC (dB (⟨#[99,108,101,97,114]⟩:ByteArray) i68) fun r76=>
 aD (((b69++([r74]:List ByteArray))++([r76]:List ByteArray)).length≤1000000000) <|
 aC (dB (⟨#[117,115,101,100]⟩:ByteArray) i68) fun r78=>
 aD ((((b69++([r74]:List ByteArray))++([r76]:List ByteArray))++([r78]:List ByteArray)).length≤1000000000) <|
 aC (dB (⟨#[104,101,108,100]⟩:ByteArray) i68) fun r80=>
 aD (((((b69++([r74]:List ByteArray))++([r76]:List ByteArray))++([r78]:List ByteArray))++([r80]:List ByteArray)).length≤1000000000) <|
 aC (
 bE (fun (k87,b88)=>
 bC p0.routes i68 fun e90=>
 aD (I64 ((e90.sections.length:Int) - (1:Int))) <|
 if k87 < ((e90.sections.length:Int) - (1:Int)) then
 aC (dB (⟨#[114,101,108]⟩:ByteArray) i68) fun r93=>
 aC (dB r93 k87) fun r94=>
 aD ((b88++([r94]:List ByteArray)).length≤1000000000) <|
 aD (I64 (k87+(1:Int))) <|
 some (.inl ((k87+(1:Int)),(b88++([r94]:List ByteArray))))
 else
 aW (
 some b88)) ((0:Int),((((b69++([r74]:List ByteArray))++([r76]:List ByteArray))++([r78]:List ByteArray))++([r80]:List ByteArray)))) fun b82=>
 aC (dB (⟨#[119,97,105,116]⟩:ByteArray) i68) fun r98=>
 aD ((b82++([r98]:List ByteArray)).length≤1000000000) <|
 aC (dB (⟨#[115,116,97,110,100]⟩:ByteArray) i68) fun r100=>
 aD (((b82++([r98]:List ByteArray))++([r100]:List ByteArray)).length≤1000000000) <|
 some ((b82++([r98]:List ByteArray))++([r100]:List ByteArray))) fun b72=>
 aD (I64 (i68+(1:Int))) <|
 some (.inl ((i68+(1:Int)),b72))
 else
 aW (
 some b69)) ((0:Int),b50)) fun b63=>
 aC (
 bE (fun (i109,b110)=>
 if i109 < (p0.routes.length:Int) then
 aC (dB (⟨#[107,101,101,112]⟩:ByteArray) i109) fun r113=>
 aD ((b110++([r113]:List ByteArray)).length≤1000000000) <|
 aC (dB (⟨#[117,115,101]⟩:ByteArray) i109) fun r115=>
 aD (((b110++([r113]:List ByteArray))++([r115]:List ByteArray)).length≤1000000000) <|
 aC (dB (⟨#[104,111,108,100]⟩:ByteArray) i109) fun r117=>
 aD ((((b110++([r113]:List ByteArray))++([r115]:List ByteArray))++([r117]:List ByteArray)).length≤1000000000) <|
 aC (dB (⟨#[97,99,116]⟩:ByteArray) i109) fun r119=>
 aD (((((b110++([r113]:List ByteArray))++([r115]:List ByteArray))++([r117]:List ByteArray))++([r119]:List ByteArray)).length≤1000000000) <|
 aC (dB (⟨#[99,97,108,108,101,100]⟩:ByteArray) i109) fun r121=>
 aD ((((((b110++([r113]:List ByteArray))++([r115]:List ByteArray))++([r117]:List ByteArray))++([r119]:List ByteArray))++([r121]:List ByteArray)).length≤1000000000) <|
 aD (I64 (i109+(1:Int))) <|
 some (.inl ((i109+(1:Int)),(((((b110++([r113]:List ByteArray))++([r115]:List ByteArray))++([r117]:List ByteArray))++([r119]:List ByteArray))++([r121]:List ByteArray))))
 else
 aW (
 some b110)) ((0:Int),b63)) fun b104=>
 some (b104,(b31.length:Int))

def dU (p0:Compiler) (p1:Int):Option Int:=
 bC p0.t.routes p1 fun e1=>
 aD (I64 ((e1.sections.length:Int) - (1:Int))) <|
 some ((e1.sections.length:Int) - (1:Int))

def bU (p0:Compiler) (p1:Int):Option Expr:=
 aD (I64 ((2:Int) * p1)) <|
 aC (dY ((2:Int) * p1)) fun r2=>
 some r2

def aR (p0:Compiler) (p1:Int) (p2:Int):Option Expr:=
 bC p0.p.states p1 fun e1=>
 aD (I64 (e1+p2)) <|
 aC (dY (e1+p2)) fun r3=>
 some r3

def cF (p0:Compiler) (p1:Int) (p2:Int):Option Expr:=
 aD (I64 ((4:Int) * p1)) <|
 aD (I64 (p0.p.routes+((4:Int) * p1))) <|
 aD (I64 ((p0.p.routes+((4:Int) * p1))+p2)) <|
 aC (dY ((p0.p.routes+((4:Int) * p1))+p2)) fun r4=>
 some r4

def dG (p0:Compiler) (p1:Int) (p2:Int):Option Expr:=
 bC p0.p.states p1 fun e1=>
 aD (I64 (e1+(4:Int))) <|
 aD (I64 ((e1+(4:Int))+p2)) <|
 aC (dY ((e1+(4:Int))+p2)) fun r4=>
 some r4

def fE (p0:Compiler) (p1:Int):Option Expr:=
 bC p0.t.routes p1 fun e1=>
 aC (
 bE (fun (k7,b8)=>
 aD (I64 ((e1.sections.length:Int) - (1:Int))) <|
 if k7 < ((e1.sections.length:Int) - (1:Int)) then
 aC (dG p0 p1 k7) fun r12=>
 bC e1.sections k7 fun e13=>
 aC (bU p0 e13) fun r14=>
 aC (fP ([r12,r14]:List Expr)) fun r15=>
 aD ((b8++([r15]:List Expr)).length≤1000000000) <|
 aD (I64 (k7+(1:Int))) <|
 some (.inl ((k7+(1:Int)),(b8++([r15]:List Expr))))
 else
 aW (
 some b8)) ((0:Int),([]:List Expr))) fun b2=>
 aD (I64 ((e1.sections.length:Int) - (1:Int))) <|
 bC e1.sections ((e1.sections.length:Int) - (1:Int)) fun e20=>
 aC (bU p0 e20) fun r21=>
 aD ((b2++([r21]:List Expr)).length≤1000000000) <|
 aC (dN (b2++([r21]:List Expr))) fun r23=>
 some r23

def fJ (p0:Compiler) (p1:Int) (p2:Int):Option Expr:=
 aC (
 if (0:Int) < p2 then
 aD (I64 (p2 - (1:Int))) <|
 aC (dG p0 p1 (p2 - (1:Int))) fun r5=>
 aD ((([]:List Expr)++([r5]:List Expr)).length≤1000000000) <|
 some (([]:List Expr)++([r5]:List Expr))
 else
 some ([]:List Expr)) fun b1=>
 aC (
 aC (dU p0 p1) fun r9=>
 if p2 < r9 then
 aC (dG p0 p1 p2) fun r11=>
 aC (dR r11) fun r12=>
 aD ((b1++([r12]:List Expr)).length≤1000000000) <|
 some (b1++([r12]:List Expr))
 else
 some b1) fun b7=>
 aC (dN b7) fun r14=>
 some r14

def dM (p0:Compiler) (p1:Int) (p2:Int):Option Expr:=
 bC p0.p.states p1 fun e1=>
 aD (I64 (e1+(4:Int))) <|
 aC (dU p0 p1) fun r3=>
 aD (I64 ((e1+(4:Int))+r3)) <|
 aD (I64 (((e1+(4:Int))+r3)+p2)) <|
 aC (dY (((e1+(4:Int))+r3)+p2)) fun r6=>
 some r6

def gP (p0:Compiler) (p1:Int):Option Compiler:=
 aC (dU p0 p1) fun r1=>
 bC p0.t.routes p1 fun e2=>
 bC e2.sections r1 fun e3=>
 aC (bU p0 e3) fun r4=>
 aC (aR p0 p1 (3:Int)) fun r5=>
 aC (cF p0 p1 (0:Int)) fun r6=>
 aC (fE p0 p1) fun r7=>
 aC (dN ([r5,r6,r7]:List Expr)) fun r8=>
 aC (aR p0 p1 (2:Int)) fun r9=>
 aC (fJ p0 p1 r1) fun r10=>
 aC (cF p0 p1 (0:Int)) fun r11=>
 aC (dR r4) fun r12=>
 aC (dN ([r9,r10,r11,r12]:List Expr)) fun r13=>
 aC (dM p0 p1 (0:Int)) fun r14=>
 aD ((p0.rungs++([(⟨(2:Int),r14.var,(12:Int),r8⟩:Rung)]:List Rung)).length≤1000000000) <|
 aC (dM (⟨p0.t,p0.p,(p0.rungs++([(⟨(2:Int),r14.var,(12:Int),r8⟩:Rung)]:List Rung))⟩:Compiler) p1 (1:Int)) fun r16=>
 aD (((p0.rungs++([(⟨(2:Int),r14.var,(12:Int),r8⟩:Rung)]:List Rung))++([(⟨(2:Int),r16.var,(4:Int),r13⟩:Rung)]:List Rung)).length≤1000000000) <|
 some (⟨p0.t,p0.p,((p0.rungs++([(⟨(2:Int),r14.var,(12:Int),r8⟩:Rung)]:List Rung))++([(⟨(2:Int),r16.var,(4:Int),r13⟩:Rung)]:List Rung))⟩:Compiler)

def aX (p0:Compiler) (p1:Int) (p2:Int):Option Expr:=
 aD (I64 ((5:Int) * p1)) <|
 aD (I64 (p0.p.aux+((5:Int) * p1))) <|
 aD (I64 ((p0.p.aux+((5:Int) * p1))+p2)) <|
 aC (dY ((p0.p.aux+((5:Int) * p1))+p2)) fun r4=>
 some r4

def eS (p0:Compiler) (p1:Int):Option Expr:=
 bC p0.t.routes p1 fun e1=>
 aC (
 bE (fun (i7,b8)=>
 if i7 < (e1.sections.length:Int) then
 bC e1.sections i7 fun e11=>
 aC (bU p0 e11) fun r12=>
 aD ((b8++([r12]:List Expr)).length≤1000000000) <|
 aD (I64 (i7+(1:Int))) <|
 some (.inl ((i7+(1:Int)),(b8++([r12]:List Expr))))
 else
 aW (
 some b8)) ((0:Int),([]:List Expr))) fun b2=>
 aC (
 bE (fun (i21,b22)=>
 if i21 < (e1.overSections.length:Int) then
 bC e1.overSections i21 fun e25=>
 aC (bU p0 e25) fun r26=>
 aD ((b22++([r26]:List Expr)).length≤1000000000) <|
 aD (I64 (i21+(1:Int))) <|
 some (.inl ((i21+(1:Int)),(b22++([r26]:List Expr))))
 else
 aW (
 some b22)) ((0:Int),b2)) fun b16=>
 aC (gF e1) fun r30=>
 aC (
 bE (fun (i36,b37)=>
 if i36 < (r30.length:Int) then
 bC r30 i36 fun e40=>
 aC (jY p0.t e40.el) fun r41=>
 aD (I64 ((2:Int) * r41)) <|
 aD (I64 (p0.p.points+((2:Int) * r41))) <|
 bC r30 i36 fun e44=>
 aD (I64 ((p0.p.points+((2:Int) * r41))+e44.pos)) <|
 aD (I64 (((p0.p.points+((2:Int) * r41))+e44.pos) - (1:Int))) <|
 aC (dY (((p0.p.points+((2:Int) * r41))+e44.pos) - (1:Int))) fun r47=>
 aD ((b37++([r47]:List Expr)).length≤1000000000) <|
 aD (I64 (i36+(1:Int))) <|
 some (.inl ((i36+(1:Int)),(b37++([r47]:List Expr))))
 else
 aW (
 some b37)) ((0:Int),b16)) fun b31=>
 aC (dN b31) fun r51=>
 some r51

def cL (p0:Compiler) (p1:Expr) (p2:Expr):Option Compiler:=
 aD ((p0.rungs++([(⟨(1:Int),p1.var,(0:Int),p2⟩:Rung)]:List Rung)).length≤1000000000) <|
 some (⟨p0.t,p0.p,(p0.rungs++([(⟨(1:Int),p1.var,(0:Int),p2⟩:Rung)]:List Rung))⟩:Compiler)

def fA (p0:Compiler) (p1:Int):Option Expr:=
 aC (cF p0 p1 (3:Int)) fun r1=>
 aC (fE p0 p1) fun r2=>
 aC (dN ([r1,r2]:List Expr)) fun r3=>
 some r3

def gK (p0:Compiler) (p1:Int):Option Expr:=
 aC (
 bE (fun (k6,b7)=>
 aC (dU p0 p1) fun r9=>
 if k6≤r9 then
 aC (fJ p0 p1 k6) fun r11=>
 bC p0.t.routes p1 fun e12=>
 bC e12.sections k6 fun e13=>
 aC (bU p0 e13) fun r14=>
 aC (dN ([r11,r14]:List Expr)) fun r15=>
 aD ((b7++([r15]:List Expr)).length≤1000000000) <|
 aD (I64 (k6+(1:Int))) <|
 some (.inl ((k6+(1:Int)),(b7++([r15]:List Expr))))
 else
 aW (
 some b7)) ((0:Int),([]:List Expr))) fun b1=>
 aC (fP b1) fun r19=>
 some r19

def fX (p0:Compiler) (p1:Int):Option Compiler:=
 bC p0.t.routes p1 fun e1=>
 aC (dU p0 p1) fun r2=>
 aC (cF p0 p1 (0:Int)) fun r3=>
 aC (cF p0 p1 (3:Int)) fun r4=>
 bC e1.sections (0:Int) fun e5=>
 aC (bU p0 e5) fun r6=>
 bC e1.sections r2 fun e7=>
 aC (bU p0 e7) fun r8=>
 aC (aX p0 p1 (0:Int)) fun r9=>
 aC (aR p0 p1 (0:Int)) fun r10=>
 aC (dR r4) fun r11=>
 aC (eS p0 p1) fun r12=>
 aC (dR r12) fun r13=>
 aC (dN ([r10,r11,r13]:List Expr)) fun r14=>
 aC (cL p0 r9 r14) fun r15=>
 aC (dR r3) fun r16=>
 aC (fA (⟨p0.t,p0.p,r15.rungs⟩:Compiler) p1) fun r17=>
 aC (dR r17) fun r18=>
 aC (fJ (⟨p0.t,p0.p,r15.rungs⟩:Compiler) p1 r2) fun r19=>
 aC (dN ([r19,r8]:List Expr)) fun r20=>
 aC (dR r20) fun r21=>
 aC (dM (⟨p0.t,p0.p,r15.rungs⟩:Compiler) p1 (1:Int)) fun r22=>
 aC (dR r22) fun r23=>
 aC (dN ([r18,r21,r23]:List Expr)) fun r24=>
 aC (fP ([r16,r24]:List Expr)) fun r25=>
 aC (aX (⟨p0.t,p0.p,r15.rungs⟩:Compiler) p1 (1:Int)) fun r26=>
 aC (aR (⟨p0.t,p0.p,r15.rungs⟩:Compiler) p1 (1:Int)) fun r27=>
 aC (dR r6) fun r28=>
 aC (dN ([r27,r28]:List Expr)) fun r29=>
 aC (aR (⟨p0.t,p0.p,r15.rungs⟩:Compiler) p1 (3:Int)) fun r30=>
 aC (gK (⟨p0.t,p0.p,r15.rungs⟩:Compiler) p1) fun r31=>
 aC (dR r31) fun r32=>
 aC (dN ([r30,r32]:List Expr)) fun r33=>
 aC (aR (⟨p0.t,p0.p,r15.rungs⟩:Compiler) p1 (2:Int)) fun r34=>
 aC (dN ([r34,r25]:List Expr)) fun r35=>
 aC (fP ([r29,r33,r35]:List Expr)) fun r36=>
 aC (cL (⟨p0.t,p0.p,r15.rungs⟩:Compiler) r26 r36) fun r37=>
 aC (bU (⟨p0.t,p0.p,r37.rungs⟩:Compiler) e1.approach) fun r38=>
 aC (dN ([r4,r3,r38]:List Expr)) fun r39=>
 aC (aX (⟨p0.t,p0.p,r37.rungs⟩:Compiler) p1 (2:Int)) fun r40=>
 aC (aR (⟨p0.t,p0.p,r37.rungs⟩:Compiler) p1 (1:Int)) fun r41=>
 aC (eS (⟨p0.t,p0.p,r37.rungs⟩:Compiler) p1) fun r42=>
 aC (dR r42) fun r43=>
 aC (fP ([r4,r43]:List Expr)) fun r44=>
 aC (dR r39) fun r45=>
 aC (dN ([r41,r6,r44,r45]:List Expr)) fun r46=>
 aC (aR (⟨p0.t,p0.p,r37.rungs⟩:Compiler) p1 (2:Int)) fun r47=>
 aC (fA (⟨p0.t,p0.p,r37.rungs⟩:Compiler) p1) fun r48=>
 aC (dN ([r47,r3,r48]:List Expr)) fun r49=>
 aC (aR (⟨p0.t,p0.p,r37.rungs⟩:Compiler) p1 (3:Int)) fun r50=>
 aC (gK (⟨p0.t,p0.p,r37.rungs⟩:Compiler) p1) fun r51=>
 aC (dM (⟨p0.t,p0.p,r37.rungs⟩:Compiler) p1 (0:Int)) fun r52=>
 aC (dR r52) fun r53=>
 aC (dN ([r50,r51,r53]:List Expr)) fun r54=>
 aC (fP ([r46,r49,r54]:List Expr)) fun r55=>
 aC (cL (⟨p0.t,p0.p,r37.rungs⟩:Compiler) r40 r55) fun r56=>
 aC (aR (⟨p0.t,p0.p,r56.rungs⟩:Compiler) p1 (1:Int)) fun r57=>
 aC (aR (⟨p0.t,p0.p,r56.rungs⟩:Compiler) p1 (0:Int)) fun r58=>
 aC (aR (⟨p0.t,p0.p,r56.rungs⟩:Compiler) p1 (1:Int)) fun r59=>
 aC (fP ([r58,r59]:List Expr)) fun r60=>
 aC (dR r4) fun r61=>
 aC (eS (⟨p0.t,p0.p,r56.rungs⟩:Compiler) p1) fun r62=>
 aC (dN ([r60,r61,r62]:List Expr)) fun r63=>
 aC (cL (⟨p0.t,p0.p,r56.rungs⟩:Compiler) r57 r63) fun r64=>
 aC (
 aD (I64 (r2 - (1:Int))) <|
 bE (fun (k71,b72)=>
 if (0:Int)≤k71 then
 aD (I64 (k71+(1:Int))) <|
 bC e1.sections (k71+(1:Int)) fun e76=>
 aC (bU (⟨p0.t,p0.p,b72⟩:Compiler) e76) fun r77=>
 aC (dR r77) fun r78=>
 aC (cF (⟨p0.t,p0.p,b72⟩:Compiler) p1 (1:Int)) fun r79=>
 aC (fP ([r78,r79]:List Expr)) fun r80=>
 aC (aR (⟨p0.t,p0.p,b72⟩:Compiler) p1 (2:Int)) fun r81=>
 aC (fA (⟨p0.t,p0.p,b72⟩:Compiler) p1) fun r82=>
 aC (dR r82) fun r83=>
 aC (fJ (⟨p0.t,p0.p,b72⟩:Compiler) p1 k71) fun r84=>
 bC e1.sections k71 fun e85=>
 aC (bU (⟨p0.t,p0.p,b72⟩:Compiler) e85) fun r86=>
 aC (dN ([r81,r3,r83,r84,r86,r80]:List Expr)) fun r87=>
 aC (dG (⟨p0.t,p0.p,b72⟩:Compiler) p1 k71) fun r88=>
 aC (aX (⟨p0.t,p0.p,b72⟩:Compiler) p1 (1:Int)) fun r89=>
 aC (aX (⟨p0.t,p0.p,b72⟩:Compiler) p1 (2:Int)) fun r90=>
 aC (fP ([r89,r90]:List Expr)) fun r91=>
 aC (dG (⟨p0.t,p0.p,b72⟩:Compiler) p1 k71) fun r92=>
 aC (fP ([r92,r87]:List Expr)) fun r93=>
 aC (dN ([r91,r93]:List Expr)) fun r94=>
 aC (cL (⟨p0.t,p0.p,b72⟩:Compiler) r88 r94) fun r95=>
 aD (I64 (k71 - (1:Int))) <|
 some (.inl ((k71 - (1:Int)),r95.rungs))
 else
 aW (
 some b72)) ((r2 - (1:Int)),r64.rungs)) fun b65=>
 aC (aR (⟨p0.t,p0.p,b65⟩:Compiler) p1 (2:Int)) fun r98=>
 aC (aX (⟨p0.t,p0.p,b65⟩:Compiler) p1 (1:Int)) fun r99=>
 aC (cL (⟨p0.t,p0.p,b65⟩:Compiler) r98 r99) fun r100=>
 aC (aR (⟨p0.t,p0.p,r100.rungs⟩:Compiler) p1 (3:Int)) fun r101=>
 aC (aX (⟨p0.t,p0.p,r100.rungs⟩:Compiler) p1 (2:Int)) fun r102=>
 aC (cL (⟨p0.t,p0.p,r100.rungs⟩:Compiler) r101 r102) fun r103=>
 aC (aX (⟨p0.t,p0.p,r103.rungs⟩:Compiler) p1 (3:Int)) fun r104=>
 aC (aX (⟨p0.t,p0.p,r103.rungs⟩:Compiler) p1 (0:Int)) fun r105=>
 aC (aR (⟨p0.t,p0.p,r103.rungs⟩:Compiler) p1 (1:Int)) fun r106=>
 aC (aR (⟨p0.t,p0.p,r103.rungs⟩:Compiler) p1 (2:Int)) fun r107=>
 aC (aR (⟨p0.t,p0.p,r103.rungs⟩:Compiler) p1 (3:Int)) fun r108=>
 aC (fP ([r105,r106,r107,r108]:List Expr)) fun r109=>
 aC (cL (⟨p0.t,p0.p,r103.rungs⟩:Compiler) r104 r109) fun r110=>
 some (⟨p0.t,p0.p,r110.rungs⟩:Compiler)

def gQ (p0:Compiler) (p1:Int):Option Compiler:=
 bC p0.t.routes p1 fun e1=>
 aC (cF p0 p1 (2:Int)) fun r2=>
 aC (aX p0 p1 (3:Int)) fun r3=>
 aC (dR r3) fun r4=>
 aC (
 bE (fun (i10,b11)=>
 if i10 < (e1.sections.length:Int) then
 bC e1.sections i10 fun e14=>
 aD (I64 ((2:Int) * e14)) <|
 aD (I64 (((2:Int) * e14)+(1:Int))) <|
 aC (dY (((2:Int) * e14)+(1:Int))) fun r17=>
 aD ((b11++([r17]:List Expr)).length≤1000000000) <|
 aD (I64 (i10+(1:Int))) <|
 some (.inl ((i10+(1:Int)),(b11++([r17]:List Expr))))
 else
 aW (
 some b11)) ((0:Int),([r2,r4]:List Expr))) fun b5=>
 aC (
 bE (fun (i26,b27)=>
 if i26 < (e1.overSections.length:Int) then
 bC e1.overSections i26 fun e30=>
 aD (I64 ((2:Int) * e30)) <|
 aD (I64 (((2:Int) * e30)+(1:Int))) <|
 aC (dY (((2:Int) * e30)+(1:Int))) fun r33=>
 aD ((b27++([r33]:List Expr)).length≤1000000000) <|
 aD (I64 (i26+(1:Int))) <|
 some (.inl ((i26+(1:Int)),(b27++([r33]:List Expr))))
 else
 aW (
 some b27)) ((0:Int),b5)) fun b21=>
 aC (
 bE (fun (o42,b43)=>
 if o42 < (p0.t.routes.length:Int) then
 aC (mW p0.t o42 p1) fun r46=>
 if ((decide (o42=p1))||(decide (r46 < (0:Int))))=true then
 aD (I64 (o42+(1:Int))) <|
 some (.inl ((o42+(1:Int)),b43))
 else
 aC (aX p0 o42 (3:Int)) fun r50=>
 aC (
 aC (dU p0 o42) fun r55=>
 if r46 < r55 then
 aC (dG p0 o42 r46) fun r57=>
 aC (dR r57) fun r58=>
 aC (dN ([r50,r58]:List Expr)) fun r59=>
 some (r59.op,r59.var,r59.args)
 else
 some (r50.op,r50.var,r50.args)) fun (c51,c52,c53)=>
 aC (
 if o42 < p1 then
 aC (aX p0 o42 (4:Int)) fun r65=>
 aC (fP ([(⟨c51,c52,c53⟩:Expr),r65]:List Expr)) fun r66=>
 some (r66.op,r66.var,r66.args)
 else
 some (c51,c52,c53)) fun (c60,c61,c62)=>
 aC (dR (⟨c60,c61,c62⟩:Expr)) fun r67=>
 aD ((b43++([r67]:List Expr)).length≤1000000000) <|
 aD (I64 (o42+(1:Int))) <|
 some (.inl ((o42+(1:Int)),(b43++([r67]:List Expr))))
 else
 aW (
 some b43)) ((0:Int),b21)) fun b37=>
 aC (gF e1) fun r71=>
 aC (
 bE (fun (i77,b78)=>
 if i77 < (r71.length:Int) then
 bC r71 i77 fun e81=>
 aC (jY p0.t e81.el) fun r82=>
 aD (I64 (p0.p.lies+r82)) <|
 aC (dY (p0.p.lies+r82)) fun r84=>
 aC (
 bC r71 i77 fun e89=>
 if e89.pos=(1:Int) then
 aC (dR r84) fun r91=>
 some (r91.op,r91.var,r91.args)
 else
 some (r84.op,r84.var,r84.args)) fun (c85,c86,c87)=>
 bC p0.t.homes r82 fun e92=>
 aC (bU p0 e92) fun r93=>
 aC (fP ([(⟨c85,c86,c87⟩:Expr),r93]:List Expr)) fun r94=>
 aD ((b78++([r94]:List Expr)).length≤1000000000) <|
 aD (I64 (i77+(1:Int))) <|
 some (.inl ((i77+(1:Int)),(b78++([r94]:List Expr))))
 else
 aW (
 some b78)) ((0:Int),b37)) fun b72=>
 aC (aX p0 p1 (4:Int)) fun r98=>
 aC (dN b72) fun r99=>
 aC (cL p0 r98 r99) fun r100=>
 some (⟨p0.t,p0.p,r100.rungs⟩:Compiler)

def iF (p0:Compiler) (p1:Int):Option Compiler:=
 aC (
 bE (fun (x8,b9,b10)=>
 if x8 < (p0.t.routes.length:Int) then
 bC p0.t.routes x8 fun e13=>
 aC (gF e13) fun r14=>
 aC (
 bC p0.t.points p1 fun e17=>
 aC (mN r14 (⟨e17,(1:Int)⟩:Setting)) fun r18=>
 if r18=true then
 aC (aX p0 x8 (4:Int)) fun r20=>
 aD ((b9++([r20]:List Expr)).length≤1000000000) <|
 some (b9++([r20]:List Expr))
 else
 some b9) fun b15=>
 bC p0.t.points p1 fun e22=>
 aC (mN r14 (⟨e22,(2:Int)⟩:Setting)) fun r23=>
 if r23=true then
 aC (aX p0 x8 (4:Int)) fun r25=>
 aD ((b10++([r25]:List Expr)).length≤1000000000) <|
 aD (I64 (x8+(1:Int))) <|
 some (.inl ((x8+(1:Int)),b15,(b10++([r25]:List Expr))))
 else
 aD (I64 (x8+(1:Int))) <|
 some (.inl ((x8+(1:Int)),b15,b10))
 else
 aW (
 some (b9,b10))) ((0:Int),([]:List Expr),([]:List Expr))) fun (b1,b2)=>
 aD (I64 (p0.p.lies+p1)) <|
 aC (dY (p0.p.lies+p1)) fun r31=>
 aC (fP b2) fun r32=>
 aC (fP b1) fun r33=>
 aC (dR r33) fun r34=>
 aC (dN ([r31,r34]:List Expr)) fun r35=>
 aC (fP ([r32,r35]:List Expr)) fun r36=>
 aC (cL p0 r31 r36) fun r37=>
 some (⟨p0.t,p0.p,r37.rungs⟩:Compiler)

def lS (p0:Table):Option (Program×Int):=
 aC (oI p0) fun r1=>
 if r1=(0:Int) then
 aC (kU p0) fun r3=>
 if (2000:Int) < r3.all then
 some ((⟨([]:List ByteArray),(0:Int),([]:List Rung)⟩:Program),(2:Int))
 else
 aC (
 bE (fun (x10,b11)=>
 if x10 < (p0.routes.length:Int) then
 aC (gP (⟨p0,r3,b11⟩:Compiler) x10) fun r14=>
 aD (I64 (x10+(1:Int))) <|
 some (.inl ((x10+(1:Int)),r14.rungs))
 else
 aW (
 some b11)) ((0:Int),([]:List Rung))) fun b5=>
 aC (
 bE (fun (x22,b23)=>
 if x22 < (p0.routes.length:Int) then
 aC (fX (⟨p0,r3,b23⟩:Compiler) x22) fun r26=>
 aD (I64 (x22+(1:Int))) <|
 some (.inl ((x22+(1:Int)),r26.rungs))
 else
 aW (
 some b23)) ((0:Int),b5)) fun b17=>
 aC (
 bE (fun (x34,b35)=>
 if x34 < (p0.routes.length:Int) then
 aC (gQ (⟨p0,r3,b35⟩:Compiler) x34) fun r38=>
 aD (I64 (x34+(1:Int))) <|
 some (.inl ((x34+(1:Int)),r38.rungs))
 else
 aW (
 some b35)) ((0:Int),b17)) fun b29=>
 aC (
 bE (fun (x46,b47)=>
 if x46 < (p0.routes.length:Int) then
 aC (aR (⟨p0,r3,b47⟩:Compiler) x46 (0:Int)) fun r50=>
 aC (aX (⟨p0,r3,b47⟩:Compiler) x46 (0:Int)) fun r51=>
 aC (aX (⟨p0,r3,b47⟩:Compiler) x46 (4:Int)) fun r52=>
 aC (fP ([r51,r52]:List Expr)) fun r53=>
 aC (cL (⟨p0,r3,b47⟩:Compiler) r50 r53) fun r54=>
 aD (I64 (x46+(1:Int))) <|
 some (.inl ((x46+(1:Int)),r54.rungs))
 else
 aW (
 some b47)) ((0:Int),b29)) fun b41=>
 aC (
 bE (fun (k62,b63)=>
 if k62 < (p0.points.length:Int) then
 aC (iF (⟨p0,r3,b63⟩:Compiler) k62) fun r66=>
 aD (I64 (k62+(1:Int))) <|
 some (.inl ((k62+(1:Int)),r66.rungs))
 else
 aW (
 some b63)) ((0:Int),b41)) fun b57=>
 aC (oH p0) fun (r70,r71)=>
 some ((⟨r70,r71,b57⟩:Program),(0:Int))
 else
 some ((⟨([]:List ByteArray),(0:Int),([]:List Rung)⟩:Program),r1)

def jB (p0:Table):Option Bool:=
 aC (oK p0) fun r1=>
 if (!(r1))=true then
 aC (mQ) fun r3=>
 some r3
 else
 aC (jG p0) fun (r5,r6)=>
 aC (lS p0) fun (r8,r9)=>
 if ((!(decide (r6=r9)))||(!(decide (r6=(0:Int)))))=true then
 aC (
 if r6=r9 then
 if (r5.names.length:Int)=(0:Int) then
 if (r5.rungs.length:Int)=(0:Int) then
 aC (mQ) fun r17=>
 some r17
 else
 some false
 else
 some false
 else
 some false) fun x12=>
 some x12
 else
 aC (
 if (r5.names.length:Int)=(r8.names.length:Int) then
 if r5.inputs=r8.inputs then
 if (r5.rungs.length:Int)=(r8.rungs.length:Int) then
 aC (nL r5) fun r23=>
 some (!(decide (r23=(0:Int))))
 else
 some true
 else
 some true
 else
 some true) fun x18=>
 if x18=true then
 some false
 else
 eP (
 bE (fun x27=>
 if x27 < (r8.names.length:Int) then
 bC r5.names x27 fun e30=>
 bC r8.names x27 fun e31=>
 if e30=e31 then
 aD (I64 (x27+(1:Int))) <|
 some (.inl (x27+(1:Int)))
 else
 aW (
 aW (
 some false))
 else
 aW (
 some (.inl ()))) (0:Int)) fun _=>
 eP (
 bE (fun x39=>
 if x39 < (r8.rungs.length:Int) then
 bC r5.rungs x39 fun e42=>
 bC r8.rungs x39 fun e43=>
 aC (
 aD (I64 ((2:Int) * (p0.routes.length:Int))) <|
 if x39 < ((2:Int) * (p0.routes.length:Int)) then
 if e42.kind=e43.kind then
 if e42.var=e43.var then
 if e42.preset=e43.preset then
 aD (I64 ((2:Int) * (p0.routes.length:Int))) <|
 if ((2:Int) * (p0.routes.length:Int))≤x39 then
 some (!(decide (e42.kind=(1:Int))))
 else
 some false
 else
 some true
 else
 some true
 else
 some true
 else
 aD (I64 ((2:Int) * (p0.routes.length:Int))) <|
 if ((2:Int) * (p0.routes.length:Int))≤x39 then
 some (!(decide (e42.kind=(1:Int))))
 else
 some false) fun x44=>
 if x44=true then
 aW (
 aW (
 some false))
 else
 aD (I64 (x39+(1:Int))) <|
 some (.inl (x39+(1:Int)))
 else
 aW (
 some (.inl ()))) (0:Int)) fun _=>
 aC (mQ) fun r60=>
 some r60

end Go.Proofs.YtcagmechagiclaaGreatDoor

set_option linter.unusedVariables false
set_option linter.unusedSimpArgs false
namespace Go.Proofs.YtcagmechagiclaaGreatDoor
open Go Go.TL

@[simp] theorem aB {α:Type} {p:Prop} [Decidable p] {k:Option α} (h:p):aD p k=k:=if_pos h
@[simp] theorem aA {α β:Type} (a:α) (k:α→Option β):aC (some a) k=k a:=rfl
@[simp] theorem iW {α β:Type} (a:α) (k:α→Option β):eP (some (.inl a)) k=k a:=rfl
@[simp] theorem jX {α β:Type} (b:β) (k:α→Option β):eP (some (.inr b)) k=some b:=rfl
@[simp] theorem eF {α β:Type} (b:β):(aW (some b):Option (α ⊕ β))=some (.inr b):=rfl
theorem aN {α β:Type} {l:List α} {i:Nat} {e:α} {k:α→Option β} (h:l[i]?=some e):bC l (i:Int) k=k e:=by simp [bC,h]
theorem qDP {α β:Type} {l:List α} {i:Int} {e:α} {k:α→Option β} (h0:0≤i) (h:l[i.toNat]?=some e):bC l i k=k e:=by simp [bC,h0,h]
@[simp] theorem ite_bindM {α β:Type} {p:Prop} [Decidable p] (a b:α) (k:α→Option β):aC (if p then some a else some b) k=k (if p then a else b):=by split<;>rfl
theorem kI {α β:Type} {p:Prop} [Decidable p] (a b:Option α) (k:α→Option β):aC (if p then a else b) k=if p then aC a k else aC b k:=by split<;>rfl
theorem qDM {α:Type} {p:Prop} [Decidable p] (a b:α):(if p then some a else some b)=some (if p then a else b):=by split<;>rfl
theorem qKJ {p:Prop} [Decidable p] {a b:Bool}:((if p then a else b)=true)=((p∧a=true)∨(¬ p∧b=true)):=by split<;>simp_all
variable {σ ρ:Type}
theorem qJR {f:σ→Option (σ ⊕ ρ)} (B:Nat→σ) {o:ρ}:∀ (n k:Nat),(∀ i,k≤i→i < k+n→f (B i)=some (.inl (B (i+1))))→f (B (k+n))=some (.inr o)→lV f (n+1) (B k)=some o
 | 0,k,_,he=>by simp only [Nat.add_zero] at he;simp [lV,he]
 | n+1,k,hf,he=>by
  simp only [lV]
  rw [hf k (Nat.le_refl _) (by omega)]
  exact qJR B n (k+1) (fun i h1 h2=>hf i (by omega) (by omega)) (by rw [show k+1+n=k+(n+1) by omega];exact he)
/-- So many rounds, then out. -/
theorem mE {f:σ→Option (σ ⊕ ρ)} (B:Nat→σ) (n:Nat) {o:ρ} {s:σ} (hs:s=B 0) (hn:n≤9223372036854775807) (hf:∀ i,i < n→f (B i)=some (.inl (B (i+1)))) (he:f (B n)=some (.inr o)):bE f s=some o:=by
 subst hs
 exact rY (qJR B n 0 (fun i _ h=>hf i (by omega)) (by rw [Nat.zero_add];exact he)) (by unfold lG;omega)

/-- Counted rounds, each of which may end the loop. -/
theorem qJJ {f : Int → Option (Int ⊕ ρ)} (n : Nat) (c : Nat → Option ρ) (o : ρ) (hn : n ≤ 9223372036854775807) (hf : ∀ i, i < n → f (i : Int) = match c i with
  | some r => some (.inr r)
  | none => some (.inl ((i : Int) + 1))) (he : f (n : Int) = some (.inr o)) : bE f 0 = some (((List.range n).findSome? c).getD o) := by
 cases h:(List.range n).findSome? c with
 | none=>
  rw [List.findSome?_eq_none_iff] at h
  refine mE (fun i=>(i:Int)) n rfl hn (fun i hi=>?_) he
  rw [hf i hi,h i (List.mem_range.2 hi)]
  rfl
 | some r=>
  rw [List.findSome?_eq_some_iff] at h
  obtain⟨l1,a,l2,h1,h2,h3⟩:=h
  have ha:l1.length=a∧a < n:=by
   have hlen:l1.length < (List.range n).length:=by rw [h1];simp
   have:(List.range n)[l1.length]?=some a:=by rw [h1];simp
   simp only [List.length_range] at hlen
   simp [hlen] at this
   exact⟨this,by omega⟩
  obtain⟨ha1,ha2⟩:=ha
  refine mE (fun i=>(i:Int)) a rfl (by omega) (fun i hi=>?_) ?_
  ·have hm:i∈l1:=by
    have:(List.range n)[i]?=some i:=List.getElem?_range (by omega)
    rw [h1,List.getElem?_append_left (by omega)] at this
    exact List.mem_of_getElem? this
   rw [hf i (by omega),h3 i hm]
   rfl
  ·rw [hf a ha2,h2];rfl

theorem qDS {α β:Type} (l:List α) (c:Nat→Option β) (d:α→Option β) (h:∀ (i:Nat) (e:α),l[i]?=some e→c i=d e):(List.range l.length).findSome? c=l.findSome? d:=by
 induction l generalizing c with
 | nil=>rfl
 | cons x r ih=>
  rw [List.length_cons,List.range_succ_eq_map,List.findSome?_cons,List.findSome?_map,List.findSome?_cons,h 0 x rfl]
  cases d x with
  | some b=>rfl
  | none=>exact ih (c ∘ Nat.succ) fun i e he=>h (i+1) e (by simpa using he)

/-- Through a list; a round that ends the loop. -/
theorem qPW {α : Type} {f : Int → Option (Int ⊕ ρ)} (l : List α) (d : α → Option ρ) (o : ρ) (hn : l.length ≤ 9223372036854775807) (hf : ∀ (i : Nat) (e : α), l[i]? = some e → f (i : Int) = match d e with
  | some r => some (.inr r)
  | none => some (.inl ((i : Int) + 1))) (he : f (l.length : Int) = some (.inr o)) : bE f 0 = some ((l.findSome? d).getD o) := by
 rw [qJJ l.length (fun i=>(l[i]?).bind d) o hn (fun i hi=>?_) he,qDS l _ d (fun i e he=>by simp [he])]
 rw [hf i l[i] (by simp),List.getElem?_eq_getElem hi]
 rfl
theorem yI {α β:Type} (l:List α) (c:α→Bool) (v:β):l.findSome? (fun e=>if c e=true then some v else none)=if l.any c=true then some v else none:=by
 induction l with
 | nil=>rfl
 | cons x r ih=>
  rw [List.findSome?_cons,List.any_cons,ih]
  cases c x<;>simp
/-- Is there one? -/
theorem kF {α:Type} {f:Int→Option (Int ⊕ ρ)} (l:List α) (c:α→Bool) (v o:ρ) (hn:l.length≤9223372036854775807) (hf:∀ (i:Nat) (e:α),l[i]?=some e→f (i:Int)=if c e=true then some (.inr v) else some (.inl ((i:Int)+1))) (he:f (l.length:Int)=some (.inr o)):bE f 0=some (if l.any c=true then v else o):=by
 rw [qPW l (fun e=>if c e=true then some v else none) o hn (fun i e h=>by rw [hf i e h];cases c e<;>simp) he,yI]
 split<;>rfl
theorem nN {f:Int→Option (Int ⊕ ρ)} (n:Nat) (c:Nat→Bool) (v o:ρ) (hn:n≤9223372036854775807) (hf:∀ i,i < n→f (i:Int)=if c i=true then some (.inr v) else some (.inl ((i:Int)+1))) (he:f (n:Int)=some (.inr o)):bE f 0=some (if (List.range n).any c=true then v else o):=by
 rw [qJJ n (fun e=>if c e=true then some v else none) o hn (fun i h=>by rw [hf i h];cases c i<;>simp) he,yI]
 split<;>rfl
/-- Where is the first one? -/
theorem vJ {α:Type} {f:Int→Option (Int ⊕ ρ)} (l:List α) (c:α→Bool) (w:Nat→ρ) (o:ρ) (hn:l.length≤9223372036854775807) (hf:∀ (i:Nat) (e:α),l[i]?=some e→f (i:Int)=if c e=true then some (.inr (w i)) else some (.inl ((i:Int)+1))) (he:f (l.length:Int)=some (.inr o)):bE f 0=some (match l.findIdx? c with|some i=>w i|none=>o):=by
 cases h:l.findIdx? c with
 | none=>
  rw [List.findIdx?_eq_none_iff] at h
  refine mE (fun i=>(i:Int)) l.length rfl hn (fun i hi=>?_) he
  rw [hf i l[i] (by simp),if_neg (by rw [h l[i] (by simp)];simp)];rfl
 | some k=>
  rw [List.findIdx?_eq_some_iff_getElem] at h
  obtain⟨hk,h1,h2⟩:=h
  refine mE (fun i=>(i:Int)) k rfl (by omega) (fun i hi=>?_) ?_
  ·have hl : i < l.length := by omega
   have:=h2 i hi
   rw [hf i l[i] (by simp),if_neg (by simpa using this)];rfl
  ·rw [hf k l[k] (by simp),if_pos h1]

/-- With something that grows. -/
theorem kY {β:Type} {f:Int×β→Option ((Int×β) ⊕ ρ)} (n:Nat) (B:Nat→β) {o:ρ} {b:β} (hb:b=B 0) (hn:n≤9223372036854775807) (hf:∀ i,i < n→f ((i:Int),B i)=some (.inl ((i:Int)+1,B (i+1)))) (he:f ((n:Int),B n)=some (.inr o)):bE f (0,b)=some o:=
 mE (fun i=>((i:Int),B i)) n (by rw [hb];rfl) hn (fun i hi=>by rw [hf i hi];rfl) he

/-- With something that grows, until a round ends it. -/
theorem zR {β:Type} {f:Int×β→Option ((Int×β) ⊕ ρ)} (n:Nat) (B:Nat→β) (c:Nat→Bool) (v o:ρ) {b:β} (hb:b=B 0) (hn:n≤9223372036854775807) (hf:∀ i,i < n→(∀ j,j < i→c j=false)→f ((i:Int),B i)=if c i=true then some (.inr v) else some (.inl ((i:Int)+1,B (i+1)))) (he:(∀ j,j < n→c j=false)→f ((n:Int),B n)=some (.inr o)):bE f (0,b)=some (if (List.range n).any c=true then v else o):=by
 cases h:(List.range n).findIdx? c with
 | none=>
  rw [List.findIdx?_eq_none_iff] at h
  have hall:∀ j,j < n→c j=false:=fun j hj=>by simpa using h j (List.mem_range.2 hj)
  have hno:¬ (List.range n).any c=true:=by
   rw [List.any_eq_true]
   rintro⟨j,hj,hc⟩
   rw [hall j (List.mem_range.1 hj)] at hc;cases hc
  rw [if_neg hno]
  exact kY n B hb hn (fun i hi=>by rw [hf i hi (fun j hj=>hall j (by omega)),hall i hi];rfl) (he hall)
 | some k=>
  rw [List.findIdx?_eq_some_iff_getElem] at h
  obtain⟨hk,h1,h2⟩:=h
  simp only [List.length_range] at hk
  simp only [List.getElem_range] at h1
  have hb':∀ j,j < k→c j=false:=fun j hj=>by have:=h2 j hj;simpa using this
  have hyes:(List.range n).any c=true:=List.any_eq_true.2 ⟨k,List.mem_range.2 hk,h1⟩
  rw [if_pos hyes]
  exact kY k B hb (by omega) (fun i hi=>by rw [hf i (by omega) (fun j hj=>hb' j (by omega)),hb' i hi];rfl) (by rw [hf k hk hb',h1];rfl)

theorem aP {i n:Nat} (h:i < n) (hn:n≤9223372036854775807):I64 ((i:Int)+1):=by unfold I64;omega
end Go.Proofs.YtcagmechagiclaaGreatDoor

set_option linter.unusedSimpArgs false
set_option linter.unusedVariables false
namespace Go.Proofs.YtcagmechagiclaaGreatDoor
open Go Go.TL

def sgn (x y:Int):Int:=if x < y then -1 else if y < x then 1 else 0

theorem qMR (x y:Int):jH x y=some (sgn x y):=by
 simp only [jH,mA,decide_true,Bool.not_true,aA,Bool.false_eq_true,if_false,sgn]
 split
 ·rfl
 ·split<;>rfl

theorem or_eq (x y:Int):qF [x,y]=some (if x=0 then y else x):=by
 unfold qF
 by_cases hx:x=0
 ·by_cases hy:y=0
  ·rw [rY (n := 3) (r := (.inl () : Unit ⊕ Int)) (by simp [lV, bC, aD, I64, hx, hy, aW]) (by decide)]
   simp [eP,hx,hy]
  ·rw [rY (n := 3) (r := (.inr y : Unit ⊕ Int)) (by simp [lV, bC, aD, I64, hx, hy, aW]) (by decide)]
   simp [eP,hx]
 ·rw [rY (n := 3) (r := (.inr x : Unit ⊕ Int)) (by simp [lV, bC, aD, I64, hx, aW]) (by decide)]
  simp [eP,hx]

theorem pT (x y:Setting):dF x y=some (if sgn x.el y.el=0 then sgn x.pos y.pos else sgn x.el y.el):=by
 simp only [dF,qMR,aA,or_eq]

theorem mT:SortOk dF:=by
 have hl:∀ x y,ltM dF x y=decide (x.el < y.el∨x.el=y.el∧x.pos < y.pos):=by
  intro x y
  simp only [ltM,pT,Option.getD_some,sgn]
  rw [decide_eq_decide]
  split<;>split<;>(try split)<;>(try split)<;>omega
 refine⟨fun x y=>⟨_,pT x y⟩,fun x=>?_,fun x y z h1 h2=>?_,fun x y z h1 h2=>?_,fun x y h1 h2=>?_⟩
 ·rw [hl];simp
 ·rw [hl,decide_eq_true_eq] at *; omega
 ·rw [hl,decide_eq_false_iff_not] at *; omega
 ·rw [hl,decide_eq_false_iff_not] at *
  obtain⟨a,b⟩:=x;obtain⟨c,d⟩:=y
  simp only at h1 h2
  have h3:a=c:=by omega
  have h4:b=d:=by omega
  rw [h3,h4]

end Go.Proofs.YtcagmechagiclaaGreatDoor
