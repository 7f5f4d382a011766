/- A part of the proof. No condition. -/
import Derived.Test.YtjmpojlgegloeaaGreatDoorQc
set_option linter.unusedSimpArgs false
set_option linter.unusedVariables false

set_option maxHeartbeats 8000000
set_option linter.unusedSimpArgs false
set_option linter.unusedVariables false
set_option maxRecDepth 20000
namespace Go.Proofs.YtjmpojlgegloeaaGreatDoor
open Go Go.TL
def passages:List A8:=[⟨1,0,1,0⟩,⟨1,1,0,0⟩,⟨2,0,1,1⟩,⟨2,0,2,2⟩,⟨2,1,0,1⟩,⟨2,2,0,2⟩,⟨3,0,1,0⟩,⟨3,1,0,0⟩,⟨3,2,3,0⟩,⟨3,3,2,0⟩]
def sides:List Int:=[0,2,3,4]
def cS(a:Int)(b:Int)(c:Int):Option Bool:=
 some ((decide (b<=a))&&(decide (a<=c)))
def jY(a:Aa):Option Bool:=
 aE (
 aE (cS (a.Ad.length:Int) (1:Int) (32:Int)) λb=>
 if b=true then
 aE (cS (a.Ai.length:Int) (1:Int) (24:Int)) λc=>
 if c=true then
 if(a.Aj.length:Int)<=20 then
 some (decide ((a.balises.length:Int)<=24))
 else
 some false
 else
 some false
 else
 some false) λd=>
 some d
def oF(a:BA):Option Bool:=
 aE (
 if a=(⟨#[]⟩:BA)then
 some true
 else
 if 12<(a.size:Int)then
 some true
 else
 bE a.data.toList (0:Int) λc=>
 if(c.toNat:Int)<97 then
 some true
 else
 bE a.data.toList (0:Int) λd=>
 some (decide (122<(d.toNat:Int)))) λe=>
 if e=true then
 some false
 else
 dE (
 bQ (λb=>
 if b<a.size then
 if(bif decide (((Utf8.decode a b).1:Int)<97)then(bif decide (((Utf8.decode a b).1:Int)<48)then !(decide (((Utf8.decode a b).1:Int)=95))else((decide (57<((Utf8.decode a b).1:Int)))&&(!(decide (((Utf8.decode a b).1:Int)=95)))))else((decide (122<((Utf8.decode a b).1:Int)))&&(bif decide (((Utf8.decode a b).1:Int)<48)then !(decide (((Utf8.decode a b).1:Int)=95))else((decide (57<((Utf8.decode a b).1:Int)))&&(!(decide (((Utf8.decode a b).1:Int)=95)))))))=true then
 aT (
 aT (
 some false))
 else
 some (.inl (b+(Utf8.decode a b).2))
 else
 aT (
 some (.inl ()))) (0:Nat)) λ_=>
 some true
def jH(a:Aa):Option Int:=
 aD (0<=(a.Ad.length:Int)/\(a.Ad.length:Int)<=1000000000) <|
 aE (
 bQ (λ(j,l)=>
 if j<(a.Ad.length:Int)then
 bE a.Ad j λm=>
 aD ((l++([m.name]:List BA)).length<=1000000000) <|
 aD (bD (j+1)) <|
 some (.inl ((j+1),(l++([m.name]:List BA))))
 else
 aT (
 some l)) ((0:Int),([]:List BA))) λc=>
 aD (0<=(a.Aj.length:Int)/\(a.Aj.length:Int)<=1000000000) <|
 aE (
 bQ (λ(e,k)=>
 if e<(a.Aj.length:Int)then
 bE a.Aj e λn=>
 aD ((k++([n.name]:List BA)).length<=1000000000) <|
 aD (bD (e+1)) <|
 some (.inl ((e+1),(k++([n.name]:List BA))))
 else
 aT (
 some k)) ((0:Int),([]:List BA))) λb=>
 dE (
 bQ (λf=>
 if f<(([([a.name]:List BA),a.Ai,c,b]:List (List BA)).length:Int)then
 dE (
 bE ([([a.name]:List BA),a.Ai,c,b]:List (List BA)) f λo=>
 bQ (λg=>
 if g<(o.length:Int)then
 bE o g λr=>
 aE (oF r) λs=>
 if(!(s))=true then
 aT (
 aT (
 aT (
 aT (
 some (3:Int)))))
 else
 aD (bD (g+1)) <|
 some (.inl (g+1))
 else
 aT (
 some (.inl ()))) (0:Int)) λ_=>
 aD (bD (f+1)) <|
 some (.inl (f+1))
 else
 aT (
 some (.inl ()))) (0:Int)) λ_=>
 dE (
 bQ (λh=>
 if h<(([([a.name]:List BA),a.Ai,c,b]:List (List BA)).length:Int)then
 dE (
 bE ([([a.name]:List BA),a.Ai,c,b]:List (List BA)) h λp=>
 bQ (λ(i,d)=>
 if i<(p.length:Int)then
 bE p i λq=>
 aD (d.map (·.1)).Nodup <|
 if(((bH d q).getD false))=true then
 aT (
 aT (
 aT (
 aT (
 some (8:Int)))))
 else
 aD (d.map (·.1)).Nodup <|
 aD (bD (i+1)) <|
 some (.inl ((i+1),(lP d q true)))
 else
 aT (
 some (.inl ()))) ((0:Int),([]:List (BA×Bool)))) λ_=>
 aD (bD (h+1)) <|
 some (.inl (h+1))
 else
 aT (
 some (.inl ()))) (0:Int)) λ_=>
 some (0:Int)
def iN(b:Aa):Option Bool:=
 dE (
 bQ (λc=>
 if c<(b.Ad.length:Int)then
 bE b.Ad c λa=>
 aE (
 aE (cS a.kind (1:Int) (3:Int)) λi=>
 if(!(i))=true then
 some true
 else
 aE (cS a.length (500:Int) (1000000:Int)) λd=>
 if(!(d))=true then
 some true
 else
 aE (cS a.grade (-50:Int) (50:Int)) λe=>
 if(!(e))=true then
 some true
 else
 aE (cS a.speed (100:Int) (10000:Int)) λf=>
 if(!(f))=true then
 some true
 else
 aD (bD ((b.Ai.length:Int)-1)) <|
 aE (cS a.Az (0:Int) ((b.Ai.length:Int)-1)) λg=>
 some (!(g))) λk=>
 if k=true then
 aT (
 aT (
 some false))
 else
 aE (
 if a.kind=2 then
 aE (cS a.slow (100:Int) a.speed) λh=>
 if(!(h))=true then
 some true
 else
 if a.kind=2 then
 some false
 else
 some (!(decide (a.slow=0)))
 else
 if a.kind=2 then
 some false
 else
 some (!(decide (a.slow=0)))) λj=>
 if j=true then
 aT (
 aT (
 some false))
 else
 aD (bD (c+1)) <|
 some (.inl (c+1))
 else
 aT (
 some (.inl ()))) (0:Int)) λ_=>
 some true
def mB(c:Aa)(d:Int):Option ((List Int)):=
 if((decide (d<0))||(decide ((c.Ai.length:Int)<=d)))=true then
 some ([]:List Int)
 else
 aE (
 bQ (λ(a,b)=>
 if a<(c.Ad.length:Int)then
 bE c.Ad a λf=>
 if f.Az=d then
 aD ((b++([a]:List Int)).length<=1000000000) <|
 aD (bD (a+1)) <|
 some (.inl ((a+1),(b++([a]:List Int))))
 else
 aD (bD (a+1)) <|
 some (.inl ((a+1),b))
 else
 aT (
 some b)) ((0:Int),([]:List Int))) λe=>
 some e
def gW(b:Aa):Option Bool:=
 dE (
 bQ (λa=>
 if a<(b.Ai.length:Int)then
 aE (mB b a) λc=>
 if(c.length:Int)=0 then
 aT (
 aT (
 some false))
 else
 aD (bD (a+1)) <|
 some (.inl (a+1))
 else
 aT (
 some (.inl ()))) (0:Int)) λ_=>
 some true
def pX(a:Int):Option Int:=
 if((decide (a<0))||(decide (4<=a)))=true then
 some (0:Int)
 else
 bE sides a λb=>
 some b
def jO(a:Aa)(b:End):Option Bool:=
 aE (
 aD (bD ((a.Ad.length:Int)-1)) <|
 aE (cS b.el (0:Int) ((a.Ad.length:Int)-1)) λe=>
 if e=true then
 bE a.Ad b.el λd=>
 aE (pX d.kind) λc=>
 aD (bD (c-1)) <|
 aE (cS b.side (0:Int) (c-1)) λf=>
 some f
 else
 some false) λg=>
 some g
def gU(f:Aa):Option (Option (List (End×End))×Int):=
 dE (
 bQ (λh=>
 if h<(f.joints.length:Int)then
 bE f.joints h λe=>
 aE (
 aE (jO f e.a) λk=>
 if(!(k))=true then
 some true
 else
 aE (jO f e.b) λj=>
 if(!(j))=true then
 some true
 else
 aD (End.ok e.a/\End.ok e.b) <|
 some (decide (e.a=e.b))) λl=>
 if l=true then
 aT (
 aT (
 some (none,(1:Int))))
 else
 aD (bD (h+1)) <|
 some (.inl (h+1))
 else
 aT (
 some (.inl ()))) (0:Int)) λ_=>
 dE (
 bQ (λ(g,d)=>
 if g<(f.joints.length:Int)then
 bE f.joints g λc=>
 aD (sM End.okb d c.a) <|
 aD (sM End.okb d c.b) <|
 if(((bH d c.a).isSome)||((bH d c.b).isSome))=true then
 aT (
 aT (
 some (none,(8:Int))))
 else
 aD (sM End.okb d c.a) <|
 aD (sM End.okb (lP d c.a c.b) c.b) <|
 aD (bD (g+1)) <|
 some (.inl ((g+1),(lP (lP d c.a c.b) c.b c.a)))
 else
 aT (
 some (.inl d))) ((0:Int),([]:List (End×End)))) λi=>
 some (some i,(0:Int))
def gE(c:Aa)(d:End):Option Int:=
 dE (
 bQ (λa=>
 if a<(c.Aj.length:Int)then
 bE c.Aj a λb=>
 aD (End.ok b.atV/\End.ok d) <|
 if b.atV=d then
 aT (
 aT (
 some a))
 else
 aD (bD (a+1)) <|
 some (.inl (a+1))
 else
 aT (
 some (.inl ()))) (0:Int)) λ_=>
 some (-1:Int)
def dD(b:Aa)(a:Int):Option Int:=
 if((decide (a<0))||(decide ((b.Ad.length:Int)<=a)))=true then
 some (-1:Int)
 else
 bE b.Ad a λc=>
 some c.Az
def hO(a:Aa):Option Int:=
 dE (
 bQ (λe=>
 if e<(a.balises.length:Int)then
 bE a.balises e λc=>
 aE (
 aE (cS c.id (1:Int) (1073741824:Int)) λj=>
 if(!(j))=true then
 some true
 else
 aD (bD ((a.Ad.length:Int)-1)) <|
 aE (cS c.el (0:Int) ((a.Ad.length:Int)-1)) λh=>
 if(!(h))=true then
 some true
 else
 bE a.Ad c.el λg=>
 aE (cS c.offset (0:Int) g.length) λi=>
 some (!(i))) λk=>
 if k=true then
 aT (
 aT (
 some (1:Int)))
 else
 aD (bD (e+1)) <|
 some (.inl (e+1))
 else
 aT (
 some (.inl ()))) (0:Int)) λ_=>
 dE (
 bQ (λ(d,b)=>
 if d<(a.balises.length:Int)then
 bE a.balises d λf=>
 aD (b.map (·.1)).Nodup <|
 if(((bH b f.id).getD false))=true then
 aT (
 aT (
 some (8:Int)))
 else
 aD (b.map (·.1)).Nodup <|
 aD (bD (d+1)) <|
 some (.inl ((d+1),(lP b f.id true)))
 else
 aT (
 some (.inl b))) ((0:Int),([]:List (Int×Bool)))) λl=>
 some (0:Int)
def gZ(a:Aa)(f:(List (End×End))):Option Int:=
 dE (
 bQ (λd=>
 if d<(a.Aj.length:Int)then
 bE a.Aj d λg=>
 aE (
 aE (jO a g.atV) λm=>
 if(!(m))=true then
 some true
 else
 aE (cS g.overlap (0:Int) (1000000:Int)) λi=>
 some (!(i))) λo=>
 if o=true then
 aT (
 aT (
 some (1:Int)))
 else
 aD (bD (d+1)) <|
 some (.inl (d+1))
 else
 aT (
 some (.inl ()))) (0:Int)) λ_=>
 dE (
 bQ (λb=>
 if b<(a.Aj.length:Int)then
 bE a.Aj b λh=>
 aE (gE a h.atV) λj=>
 if j=b then
 aD (bD (b+1)) <|
 some (.inl (b+1))
 else
 aT (
 aT (
 some (8:Int)))
 else
 aT (
 some (.inl ()))) (0:Int)) λ_=>
 dE (
 bQ (λe=>
 if e<(a.Aj.length:Int)then
 bE a.Aj e λc=>
 aD (sM End.okb f c.atV) <|
 aE (
 if(!((bH f c.atV).isSome))=true then
 some true
 else
 aE (dD a (((bH f c.atV).getD (⟨(0:Int),(0:Int)⟩:End)).el)) λk=>
 aE (dD a c.atV.el) λl=>
 some (decide (k=l))) λn=>
 if n=true then
 aT (
 aT (
 some (14:Int)))
 else
 aD (bD (e+1)) <|
 some (.inl (e+1))
 else
 aT (
 some (.inl ()))) (0:Int)) λ_=>
 some (0:Int)
def mM(a:Aa):Option Int:=
 aE (jY a) λg=>
 if(!(g))=true then
 some (2:Int)
 else
 aE (jH a) λd=>
 if d=0 then
 aE (
 aE (iN a) λi=>
 if(!(i))=true then
 some true
 else
 aE (gW a) λj=>
 some (!(j))) λk=>
 if k=true then
 some (1:Int)
 else
 aE (gU a) λ(e,b)=>
 match e with
 |none=>
 if b=0 then
 none
 else
 some b
 |some f=>
 if b=0 then
 aE (gZ a f) λc=>
 if c=0 then
 aE (hO a) λh=>
 some h
 else
 some c
 else
 some b
 else
 some d
def gF(f:Aa)(d:End):Option (End×Bool):=
 dE (
 bQ (λe=>
 if e<(f.joints.length:Int)then
 bE f.joints e λc=>
 aD (End.ok c.a/\End.ok d) <|
 if c.a=d then
 aT (
 aT (
 some (c.b,true)))
 else
 aD (End.ok c.b/\End.ok d) <|
 if c.b=d then
 aT (
 aT (
 some (c.a,true)))
 else
 aD (bD (e+1)) <|
 some (.inl (e+1))
 else
 aT (
 some (.inl ()))) (0:Int)) λ_=>
 some ((⟨(0:Int),(0:Int)⟩:End),false)
def kE(b:Aa)(a:Int):Option Bool:=
 some ((decide (0<=a))&&(decide (a<(b.Ad.length:Int))))
def pY(e:Int)(f:Int):Option ((List Int)):=
 aE (
 bQ (λ(a,b)=>
 if a<10 then
 bE passages a λc=>
 if((decide (c.kind=e))&&(decide (c.inV=f)))=true then
 aD ((b++([c.out]:List Int)).length<=1000000000) <|
 aD (bD (a+1)) <|
 some (.inl ((a+1),(b++([c.out]:List Int))))
 else
 aD (bD (a+1)) <|
 some (.inl ((a+1),b))
 else
 aT (
 some b)) ((0:Int),([]:List Int))) λd=>
 some d
def lD(e:Aa)(a:End):Option ((List Ae)):=
 aE (kE e a.el) λi=>
 if(!(i))=true then
 some ([]:List Ae)
 else
 aE (
 bE e.Ad a.el λh=>
 aE (pY h.kind a.side) λf=>
 bQ (λ(b,c)=>
 if b<(f.length:Int)then
 bE f b λd=>
 aD ((c++([(⟨a.el,a.side,d⟩:Ae)]:List Ae)).length<=1000000000) <|
 aD (bD (b+1)) <|
 some (.inl ((b+1),(c++([(⟨a.el,a.side,d⟩:Ae)]:List Ae))))
 else
 aT (
 some c)) ((0:Int),([]:List Ae))) λg=>
 some g
def pW(a:(List Ae)):Option End:=
 aD (bD ((a.length:Int)-1)) <|
 bE a ((a.length:Int)-1) λb=>
 some (⟨b.el,b.out⟩:End)
def gT(a:Ae)(b:Aa):Option (End×Bool):=
 aE (gF b (⟨a.el,a.out⟩:End)) λ(c,d)=>
 some (c,d)
def mH(a:Aa):Option Fn265:=
 some (Fn265.c191 a)
def pT(a:Aa)(b:Ae):Option (End×Bool):=
 aE (mH a) λc=>
 (match c with
 |.c191 f=>
 aE (gT b f) λ(d,e)=>
 some (d,e))
def cL(a:(List Ae)):Option ((List Ae)):=
 zX a (
 some ([]:List Ae)) (
 aD ((([]:List Ae)++a).length<=1000000000) <|
 some (([]:List Ae)++a))
def mK(c:Int)(d:Int)(e:Int):Option (Int×Bool):=
 dE (
 bQ (λb=>
 if b<10 then
 bE passages b λa=>
 if((decide (a.kind=c))&&((decide (a.inV=d))&&(decide (a.out=e))))=true then
 aT (
 aT (
 some (a.need,true)))
 else
 aD (bD (b+1)) <|
 some (.inl (b+1))
 else
 aT (
 some (.inl ()))) (0:Int)) λ_=>
 some ((0:Int),false)
def jM(b:Aa)(a:Ae):Option (Int×Bool):=
 aE (kE b a.el) λd=>
 if(!(d))=true then
 some ((0:Int),false)
 else
 bE b.Ad a.el λc=>
 aE (mK c.kind a.inV a.out) λ(e,f)=>
 some (e,f)
def nO(a:Int):Option Bool:=
 some (!(decide (a=a)))
def eI(a:Int)(b:Int):Option Int:=
 aE (nO a) λd=>
 aE (nO b) λc=>
 if d=true then
 if c=true then
 some (0:Int)
 else
 some (-1:Int)
 else
 if c=true then
 some (1:Int)
 else
 if a<b then
 some (-1:Int)
 else
 if b<a then
 some (1:Int)
 else
 some (0:Int)
def oH(c:(List Int)):Option Int:=
 dE (
 bQ (λa=>
 if a<(c.length:Int)then
 bE c a λb=>
 if b=0 then
 aD (bD (a+1)) <|
 some (.inl (a+1))
 else
 aT (
 aT (
 some b))
 else
 aT (
 some (.inl ()))) (0:Int)) λ_=>
 some (0:Int)
def dA(a:Ab)(b:Ab):Option Int:=
 aE (eI a.el b.el) λc=>
 aE (eI a.pos b.pos) λd=>
 aE (oH ([c,d]:List Int)) λe=>
 some e
def eM(a:(List Ab)):Option ((List Ab)):=
 if(a.length:Int)<2 then
 some a
 else
 dE (
 bQ (λk4=>
 if k4<(a.length:Int)then
 dE (
 bE a k4 λg=>
 aD (bD (k4-1)) <|
 bE a (k4-1) λd=>
 aD (Ab.ok g/\Ab.ok d) <|
 if g=d then
 aD (0<=k4/\k4<=((a.length:Nat):Int)/\((a.length:Nat):Int)<=((a.length:Nat):Int)) <|
 aE (
 bQ (λ(k23,k24,c)=>
 if k24<(((((a.length:Nat):Int).toNat-k4.toNat):Nat):Int)then
 aD (0<=k24/\k24<(((((a.length:Nat):Int).toNat-k4.toNat):Nat):Int)) <|
 bE c (((k4.toNat+k24.toNat):Nat):Int) λe=>
 aD (bD (k24-1)) <|
 aD (0<=(k24-1)/\(k24-1)<(((((a.length:Nat):Int).toNat-k4.toNat):Nat):Int)) <|
 bE c (((k4.toNat+(k24-1).toNat):Nat):Int) λf=>
 aD (Ab.ok e/\Ab.ok f) <|
 if e=f then
 aD (bD (k24+1)) <|
 some (.inl (k23,(k24+1),c))
 else
 aD (0<=k24/\k24<(((((a.length:Nat):Int).toNat-k4.toNat):Nat):Int)) <|
 bE c (((k4.toNat+k24.toNat):Nat):Int) λh=>
 bE c k23 λi=>
 aD (bD (k23+1)) <|
 aD (bD (k24+1)) <|
 some (.inl ((k23+1),(k24+1),(c.set k23.toNat h)))
 else
 aT (
 some (k23,c))) (k4,(1:Int),a)) λ(k15,b)=>
 aD (0<=k15/\k15<=((b.length:Nat):Int)/\((b.length:Nat):Int)<=((b.length:Nat):Int)) <|
 aD (k15.toNat+(((b.length:Nat):Int).toNat-k15.toNat)<=b.length) <|
 aD (0<=(0:Int)/\0<=k15/\k15<=((b.length:Nat):Int)) <|
 aD (k15.toNat<=(b.take k15.toNat).length) <|
 aT (
 aT (
 aT (
 some ((b.take k15.toNat).take k15.toNat))))
 else
 some (.inl ())) λ_=>
 aD (bD (k4+1)) <|
 some (.inl (k4+1))
 else
 aT (
 some (.inl ()))) (1:Int)) λ_=>
 some a
def lC(e:Aa)(f:(List Ae)):Option ((List Ab)):=
 aE (
 bQ (λ(a,b)=>
 if a<(f.length:Int)then
 bE f a λc=>
 aE (jM e c) λ(g,i)=>
 aE (
 if i=true then
 bE e.Ad c.el λh=>
 some (decide (h.kind=2))
 else
 some false) λk=>
 if k=true then
 aD ((b++([(⟨c.el,g⟩:Ab)]:List Ab)).length<=1000000000) <|
 aD (bD (a+1)) <|
 some (.inl ((a+1),(b++([(⟨c.el,g⟩:Ab)]:List Ab))))
 else
 aD (bD (a+1)) <|
 some (.inl ((a+1),b))
 else
 aT (
 some b)) ((0:Int),([]:List Ab))) λd=>
 aD (d.length<=1000000000) <|
 aE (eM (pP dA d)) λj=>
 some j
def gD(f:Aa)(g:(List Ae)):Option ((List Int)):=
 aE (
 bQ (λ(a,c,b)=>
 if a<(g.length:Int)then
 bE g a λe=>
 aE (kE f e.el) λi=>
 if(!(i))=true then
 aD (bD (a+1)) <|
 some (.inl ((a+1),c,b))
 else
 bE f.Ad e.el λd=>
 aD (b.map (·.1)).Nodup <|
 if(!(((bH b d.Az).getD false)))=true then
 aD (b.map (·.1)).Nodup <|
 aD ((c++([d.Az]:List Int)).length<=1000000000) <|
 aD (bD (a+1)) <|
 some (.inl ((a+1),(c++([d.Az]:List Int)),(lP b d.Az true)))
 else
 aD (bD (a+1)) <|
 some (.inl ((a+1),c,b))
 else
 aT (
 some (c,b))) ((0:Int),([]:List Int),([]:List (Int×Bool)))) λ(h,j)=>
 some h
def iX(e:Aa)(f:(List Ae)):Option Int:=
 aE (
 bQ (λ(b,a)=>
 if a<(f.length:Int)then
 bE f a λd=>
 aE (kE e d.el) λg=>
 if g=true then
 bE e.Ad d.el λc=>
 aD (bD (b+c.length)) <|
 aD (bD (a+1)) <|
 some (.inl ((b+c.length),(a+1)))
 else
 aD (bD (a+1)) <|
 some (.inl (b,(a+1)))
 else
 aT (
 some b)) ((0:Int),(0:Int))) λh=>
 some h
def qO(a:Aa)(e:Int)(b:(List Ae)):Option Al:=
 bE a.Aj e λc=>
 aE (pW b) λk=>
 aE (gE a k) λd=>
 aE (
 if 0<=d then
 bE a.Aj d λf=>
 some f.name
 else
 some (⟨#[101,110,100]⟩:BA)) λname4=>
 aD (c.name.size+(⟨#[45]⟩:BA).size<=9223372036854775807) <|
 aD ((c.name++(⟨#[45]⟩:BA)).size+name4.size<=9223372036854775807) <|
 aE (lC a b) λg=>
 aE (gD a b) λh=>
 aE (dD a c.atV.el) λi=>
 aE (iX a b) λj=>
 some (⟨((c.name++(⟨#[45]⟩:BA))++name4),e,d,b,g,h,i,j,([]:List Ae),([]:List Ab),([]:List Int),([]:List Ab),([]:List Int),([]:List End)⟩:Al)
def itoaB(n:Int):BA:=⟨(Go.Lib.itoa n).toArray⟩
def strconv_Itoa(a:Int):Option BA:=aD (bD a) <|some (itoaB a)
def jB(b:A0)(c:(List Ae))(e:Int):Option Bool:=
 aE (dD b.l e) λf=>
 dE (
 bQ (λa=>
 if a<(c.length:Int)then
 bE c a λd=>
 if d.el=e then
 aT (
 aT (
 some false))
 else
 aE (
 if 0<a then
 aD (bD (a-1)) <|
 bE c (a-1) λg=>
 aE (dD b.l g.el) λh=>
 if h=f then
 aE (dD b.l d.el) λi=>
 some (!(decide (i=f)))
 else
 some false
 else
 some false) λj=>
 if j=true then
 aT (
 aT (
 some false))
 else
 aD (bD (a+1)) <|
 some (.inl (a+1))
 else
 aT (
 some (.inl ()))) (0:Int)) λ_=>
 some true
def gQ(a:A0)(b:(List Ae)):Option (End×A0):=
 dE (
 aE (pW b) λe=>
 aE (gE a.l e) λf=>
 if f<0 then
 aD (bD ((b.length:Int)-1)) <|
 bE b ((b.length:Int)-1) λd=>
 aE (pT a.l d) λ(g,h)=>
 if h=true then
 aT (
 some (g,a))
 else
 some (.inl ())
 else
 some (.inl ())) λ_=>
 aE (cL b) λc=>
 aD ((a.paths++([c]:List (List Ae))).length<=1000000000) <|
 some ((⟨(-1:Int),(0:Int)⟩:End),(⟨a.l,(a.paths++([c]:List (List Ae)))⟩:A0))
def eA:Nat->A0->(List Ae)->End->Option (A0×(List Ae))
 |0,_,_,_=>none
 |fu+1,b,r,m=>
 bQ (λ(k,q,d,a)=>
 aE (
 if(a.length:Int)=12 then
 some true
 else
 aE (jB (⟨b.l,d⟩:A0) a k) λs=>
 some (!(s))) λu=>
 if u=true then
 aT (
 some ((⟨b.l,d⟩:A0),a))
 else
 aE (lD b.l (⟨k,q⟩:End)) λf=>
 if(f.length:Int)=1 then
 bE f (0:Int) λe=>
 aD ((a++([e]:List Ae)).length<=1000000000) <|
 aE (gQ (⟨b.l,d⟩:A0) (a++([e]:List Ae))) λ(h,n)=>
 if 0<=h.el then
 some (.inl (h.el,h.side,n.paths,(a++([e]:List Ae))))
 else
 aT (
 some ((⟨b.l,n.paths⟩:A0),(a++([e]:List Ae))))
 else
 bQ (λ(c,j)=>
 if c<(f.length:Int)then
 bE f c λg=>
 aE (cL a) λi=>
 aD ((i++([g]:List Ae)).length<=1000000000) <|
 aE (gQ (⟨b.l,j⟩:A0) (i++([g]:List Ae))) λ(o,p)=>
 if 0<=o.el then
 aE ((eA fu) (⟨b.l,p.paths⟩:A0) (i++([g]:List Ae)) o) λ(t,v)=>
 aD (bD (c+1)) <|
 some (.inl ((c+1),t.paths))
 else
 aD (bD (c+1)) <|
 some (.inl ((c+1),p.paths))
 else
 aT (
 aT (
 some ((⟨b.l,j⟩:A0),a)))) ((0:Int),d)) (m.el,m.side,b.paths,r)
def mZ(a:A0)(b:(List Ae))(c:End):Option (A0×(List Ae)):=eA lN a b c
def sI(c:Aa)(d:Int):Option ((List Al)):=
 if((decide (d<0))||(decide ((c.Aj.length:Int)<=d)))=true then
 some ([]:List Al)
 else
 bE c.Aj d λl=>
 aE (gF c l.atV) λ(m,n)=>
 if(!(n))=true then
 some ([]:List Al)
 else
 aE (mZ (⟨c,([]:List (List Ae))⟩:A0) ([]:List Ae) m) λ(i,p)=>
 aE (
 bQ (λ(e,f,b)=>
 if e<(i.paths.length:Int)then
 bE i.paths e λk=>
 aE (qO c d k) λa=>
 aD (b.map (·.1)).Nodup <|
 aD (bD (((bH b a.name).getD (0:Int))+1)) <|
 aD (b.map (·.1)).Nodup <|
 aE (
 aD ((lP b a.name (((bH b a.name).getD (0:Int))+1)).map (·.1)).Nodup <|
 if 1<((bH (lP b a.name (((bH b a.name).getD (0:Int))+1)) a.name).getD (0:Int))then
 aE (strconv_Itoa ((bH (lP b a.name (((bH b a.name).getD (0:Int))+1)) a.name).getD (0:Int))) λg=>
 aD ((⟨#[46]⟩:BA).size+g.size<=9223372036854775807) <|
 aD (a.name.size+((⟨#[46]⟩:BA)++g).size<=9223372036854775807) <|
 some (a.name++((⟨#[46]⟩:BA)++g))
 else
 some a.name) λh=>
 aD ((f++([(⟨h,a.entry,a.exit,a.path,a.A4,a.Ai,a.A2,a.length,a.over,a.Ax,a.Aw,a.A7,a.guards,a.gaps⟩:Al)]:List Al)).length<=1000000000) <|
 aD (bD (e+1)) <|
 some (.inl ((e+1),(f++([(⟨h,a.entry,a.exit,a.path,a.A4,a.Ai,a.A2,a.length,a.over,a.Ax,a.Aw,a.A7,a.guards,a.gaps⟩:Al)]:List Al)),(lP b a.name (((bH b a.name).getD (0:Int))+1))))
 else
 aT (
 some (f,b))) ((0:Int),([]:List Al),([]:List (BA×Int)))) λ(j,o)=>
 some j
def uG(c:Aa):Option ((List Al)×Int):=
 aE (mM c) λe=>
 if e=0 then
 aE (
 bQ (λ(a,b)=>
 if a<(c.Aj.length:Int)then
 aE (sI c a) λf=>
 aD ((b++f).length<=1000000000) <|
 aD (bD (a+1)) <|
 some (.inl ((a+1),(b++f)))
 else
 aT (
 some b)) ((0:Int),([]:List Al))) λd=>
 if 48<(d.length:Int)then
 some (([]:List Al),(2:Int))
 else
 some (d,(0:Int))
 else
 some (([]:List Al),e)
def gC(b:Aa)(a:Al):Option (As×Bool):=
 if((decide (a.exit<0))||(decide ((b.Aj.length:Int)<=a.exit)))=true then
 some ((⟨(⟨#[]⟩:BA),(⟨(0:Int),(0:Int)⟩:End),(0:Int)⟩:As),false)
 else
 bE b.Aj a.exit λc=>
 some (c,true)
def lO(a:Ae)(b:Int):Option Bool:=
 some (decide (a.el=b))
def iP(b:(List Ae))(d:Ae->Option Bool):Option Int:=
 dE (
 bQ (λa=>
 if a<(b.length:Int)then
 bE b a λc=>
 aE (d c) λe=>
 if e=true then
 aT (
 aT (
 some a))
 else
 aD (bD (a+1)) <|
 some (.inl (a+1))
 else
 aT (
 some (.inl ()))) (0:Int)) λ_=>
 some (-1:Int)
def cO(a:(List Ae))(b:Ae->Option Bool):Option Bool:=
 aE (iP a b) λc=>
 some (decide (0<=c))
def lX(b:(List Ae))(c:Int):Option Bool:=
 aE (cO b (λa=>lO a c)) λd=>
 some d
def mJ(b:(List Int))(d:Int):Option Int:=
 dE (
 bQ (λa=>
 if a<(b.length:Int)then
 bE b a λc=>
 if d=c then
 aT (
 aT (
 some a))
 else
 aD (bD (a+1)) <|
 some (.inl (a+1))
 else
 aT (
 some (.inl ()))) (0:Int)) λ_=>
 some (-1:Int)
def dY(a:(List Int))(b:Int):Option Bool:=
 aE (mJ a b) λc=>
 some (decide (0<=c))
def iM(a:Int)(b:(List Int)):Option Bool:=
 aE (dY b a) λc=>
 some c
def nI(c:Aa)(g:Al):Option ((List Ae)):=
 aE (gC c g) λ(h,n)=>
 if(!(n))=true then
 some ([]:List Ae)
 else
 aE (gF c h.atV) λ(j,s)=>
 aE (
 bQ (λ(ok17,b,d,a)=>
 aE (
 if ok17=true then
 aE (iX c a) λm=>
 if m<h.overlap then
 some (decide ((a.length:Int)<12))
 else
 some false
 else
 some false) λt=>
 if t=true then
 aE (
 aE (lX a b) λo=>
 if o=true then
 some true
 else
 aE (dD c b) λp=>
 aE (iM p g.Ai) λq=>
 some q) λu=>
 if u=true then
 aT (
 some (a,b,d))
 else
 aE (lD c (⟨b,d⟩:End)) λe=>
 if(e.length:Int)=0 then
 aT (
 some (a,b,d))
 else
 bE e (0:Int) λf=>
 aD ((a++([f]:List Ae)).length<=1000000000) <|
 bE e (0:Int) λl=>
 aE (pT c l) λ(i,r)=>
 some (.inl (r,i.el,i.side,(a++([f]:List Ae))))
 else
 aT (
 some (a,b,d))) (s,j.el,j.side,([]:List Ae))) λ(k,w,v)=>
 some k
def dT(a:(List Ab)):Option ((List Ab)):=
 zX a (
 some ([]:List Ab)) (
 aD ((([]:List Ab)++a).length<=1000000000) <|
 some (([]:List Ab)++a))
def bW(a:(List Int)):Option ((List Int)):=
 zX a (
 some ([]:List Int)) (
 aD ((([]:List Int)++a).length<=1000000000) <|
 some (([]:List Int)++a))
def jW(a:(List End)):Option ((List End)):=
 zX a (
 some ([]:List End)) (
 aD ((([]:List End)++a).length<=1000000000) <|
 some (([]:List End)++a))
def pD(b:Aa)(a:Al):Option Al:=
 aE (nI b a) λc=>
 aE (cL a.path) λd=>
 aE (dT a.A4) λe=>
 aE (bW a.Ai) λf=>
 aE (dT a.A7) λg=>
 aE (bW a.guards) λh=>
 aE (jW a.gaps) λi=>
 aE (lC b c) λj=>
 aE (gD b c) λk=>
 some (⟨a.name,a.entry,a.exit,d,e,f,a.A2,a.length,c,j,k,g,h,i⟩:Al)
def kL(a:List (List Ae)):Option (List Ae):=
 aD (a.length<=1000/\a.flatten.length<=1000000000) <|
 some a.flatten
def pI(e:Aa)(a:Ae):Option ((List End)):=
 if((decide (a.el<0))||(decide ((e.Ad.length:Int)<=a.el)))=true then
 some ([]:List End)
 else
 bE e.Ad a.el λd=>
 aE (mK d.kind a.inV a.out) λ(i,h)=>
 if(!(h))=true then
 some ([]:List End)
 else
 aE (
 aE (pX d.kind) λg=>
 bQ (λ(b,c)=>
 if b<g then
 if((!(decide (b=a.inV)))&&(!(decide (b=a.out))))=true then
 aD ((c++([(⟨a.el,b⟩:End)]:List End)).length<=1000000000) <|
 aD (bD (b+1)) <|
 some (.inl ((b+1),(c++([(⟨a.el,b⟩:End)]:List End))))
 else
 aD (bD (b+1)) <|
 some (.inl ((b+1),c))
 else
 aT (
 some c)) ((0:Int),([]:List End))) λf=>
 some f
def iV(a:Ae)(b:Int):Option Bool:=
 some (decide (a.el=b))
def pH(b:Al)(c:Int):Option Bool:=
 aE (
 aE (cO b.path (λa=>iV a c)) λd=>
 if d=true then
 some true
 else
 aE (cO b.over (λa=>iV a c)) λe=>
 some e) λf=>
 some f
def iZ(c:(List Ab))(d:Ab):Option Int:=
 dE (
 bQ (λa=>
 if a<(c.length:Int)then
 bE c a λb=>
 aD (Ab.ok d/\Ab.ok b) <|
 if d=b then
 aT (
 aT (
 some a))
 else
 aD (bD (a+1)) <|
 some (.inl (a+1))
 else
 aT (
 some (.inl ()))) (0:Int)) λ_=>
 some (-1:Int)
def dP(a:(List Ab))(b:Ab):Option Bool:=
 aE (iZ a b) λc=>
 some (decide (0<=c))
def qS(a:Al)(b:Ab):Option Bool:=
 aE (
 aE (dP a.A4 b) λc=>
 if c=true then
 some true
 else
 aE (dP a.Ax b) λd=>
 if d=true then
 some true
 else
 aE (dP a.A7 b) λe=>
 some e) λf=>
 some f
def sQ(c:Al)(a:End):Option (Gap ⊕ Ab):=
 aE (mK (2:Int) a.side (0:Int)) λ(b,d)=>
 aE (
 if(!(d))=true then
 some true
 else
 aE (qS c (⟨a.el,b⟩:Ab)) λe=>
 some e) λf=>
 if f=true then
 some (.inl (⟨a⟩:Gap))
 else
 aD (bD ((3:Int)-b)) <|
 some (.inr (⟨a.el,((3:Int)-b)⟩:Ab))
def kC(d:Aa)(g:Al)(h:End):Option (Gap ⊕ (Ab×Int)):=
 dE (
 bQ (λ(k,e,b,c)=>
 if e<4 then
 aE (gF d (⟨b,c⟩:End)) λ(a,o)=>
 if(!(o))=true then
 aT (
 aT (
 some (.inr ((⟨(0:Int),(0:Int)⟩:Ab),(-1:Int)))))
 else
 aE (gE d a) λi=>
 if 0<=i then
 aT (
 aT (
 some (.inr ((⟨(0:Int),(0:Int)⟩:Ab),i))))
 else
 aE (pH g a.el) λp=>
 if p=true then
 aT (
 aT (
 some (.inr ((⟨(0:Int),(0:Int)⟩:Ab),(-1:Int)))))
 else
 if((decide (a.el<0))||(decide ((d.Ad.length:Int)<=a.el)))=true then
 aT (
 aT (
 some (.inl (⟨(⟨b,c⟩:End)⟩:Gap))))
 else
 bE d.Ad a.el λf=>
 if f.kind=2 then
 aE (sQ g a) λq=>
 match q with
 |.inl s=>
 aT (
 aT (
 some (.inl s)))
 |.inr r=>
 aT (
 aT (
 some (.inr (r,(-1:Int)))))
 else
 aE (pY f.kind a.side) λj=>
 if(j.length:Int)=0 then
 aT (
 aT (
 some (.inl (⟨(⟨b,c⟩:End)⟩:Gap))))
 else
 bE j (0:Int) λn=>
 aD (bD (e+1)) <|
 some (.inl (k,(e+1),a.el,n))
 else
 aT (
 some (.inl (k,b,c)))) ((0:Int),(0:Int),h.el,h.side)) λ(t,l,m)=>
 some (.inl (⟨(⟨l,m⟩:End)⟩:Gap))
def pK(a:Ab)(b:Int)(c:Bool)(pv:Gap):Option (Ab×Int×Bool):=
 some ((⟨(0:Int),(0:Int)⟩:Ab),(-1:Int),false)
def pJ(a:Ab)(b:Int)(c:Bool):Option (Ab×Int×Bool):=
 some (a,b,c)
def pL(b:Aa)(c:Al)(d:End):Option (Ab×Int×Bool):=
 aE (kC b c d) λh=>
 match h with
 |.inl l=>
 aE (pK (⟨(0:Int),(0:Int)⟩:Ab) (0:Int) false l) λ(i,j,k)=>
 some (i,j,k)
 |.inr a=>
 aE (pJ a.1 a.2 true) λ(e,f,g)=>
 some (e,f,g)
def eY(a:Ab)(b:Ab):Option Int:=
 aE (eI a.el b.el) λc=>
 aE (eI a.pos b.pos) λd=>
 aE (oH ([c,d]:List Int)) λe=>
 some e
def sR(q:Aa)(a:Al):Option Al:=
 aE (cL a.path) λj=>
 aE (dT a.A4) λs=>
 aE (bW a.Ai) λu=>
 aE (cL a.over) λk=>
 aE (dT a.Ax) λv=>
 aE (bW a.Aw) λw=>
 aE (
 aE (kL ([j,k]:List (List Ae))) λr=>
 bQ (λ(g,m,n,o)=>
 if g<(r.length:Int)then
 aE (
 bE r g λB=>
 aE (pI q B) λt=>
 bQ (λ(b,c,d,e)=>
 if b<(t.length:Int)then
 bE t b λi=>
 aE (pL q (⟨a.name,a.entry,a.exit,j,s,u,a.A2,a.length,k,v,w,c,d,e⟩:Al) i) λ(f,l,C)=>
 if(!(C))=true then
 aD ((e++([i]:List End)).length<=1000000000) <|
 aD (bD (b+1)) <|
 some (.inl ((b+1),c,d,(e++([i]:List End))))
 else
 if 0<=l then
 aD ((d++([l]:List Int)).length<=1000000000) <|
 aD (bD (b+1)) <|
 some (.inl ((b+1),c,(d++([l]:List Int)),e))
 else
 aD (Ab.ok f/\Ab.ok (⟨(0:Int),(0:Int)⟩:Ab)) <|
 if f=(⟨(0:Int),(0:Int)⟩:Ab)then
 aD (bD (b+1)) <|
 some (.inl ((b+1),c,d,e))
 else
 aD ((c++([f]:List Ab)).length<=1000000000) <|
 aD (bD (b+1)) <|
 some (.inl ((b+1),(c++([f]:List Ab)),d,e))
 else
 aT (
 some (c,d,e))) ((0:Int),m,n,o)) λ(x,y,z)=>
 aD (bD (g+1)) <|
 some (.inl ((g+1),x,y,z))
 else
 aT (
 some (m,n,o))) ((0:Int),([]:List Ab),([]:List Int),([]:List End))) λ(p,h,A)=>
 aD (p.length<=1000000000) <|
 aE (eM (pP eY p)) λE=>
 aD (h.length<=1000000000) <|
 aD ((kF h).length<=1000000000) <|
 some (⟨a.name,a.entry,a.exit,j,s,u,a.A2,a.length,k,v,w,E,(Go.Lib.compact (kF h)),A⟩:Al)
def nM(c:Aa):Option ((List Int)):=
 aE (
 bQ (λ(a,b)=>
 if a<(c.Ad.length:Int)then
 bE c.Ad a λe=>
 if e.kind=2 then
 aD ((b++([a]:List Int)).length<=1000000000) <|
 aD (bD (a+1)) <|
 some (.inl ((a+1),(b++([a]:List Int))))
 else
 aD (bD (a+1)) <|
 some (.inl ((a+1),b))
 else
 aT (
 some b)) ((0:Int),([]:List Int))) λd=>
 some d
def oK(a:Aa):Option (A1×Int):=
 aE (uG a) λ(i,k)=>
 if k=0 then
 aE (
 bQ (λ(b,d)=>
 if b<(i.length:Int)then
 bE i b λp=>
 aE (pD a p) λq=>
 aE (sR a q) λh=>
 aD ((d++([h]:List Al)).length<=1000000000) <|
 aD (bD (b+1)) <|
 some (.inl ((b+1),(d++([h]:List Al))))
 else
 aT (
 some d)) ((0:Int),([]:List Al))) λo=>
 aE (
 aE (nM a) λj=>
 bQ (λ(c,e,f)=>
 if c<(j.length:Int)then
 bE j c λg=>
 aD ((e++([g]:List Int)).length<=1000000000) <|
 aE (dD a g) λl=>
 aD ((f++([l]:List Int)).length<=1000000000) <|
 aD (bD (c+1)) <|
 some (.inl ((c+1),(e++([g]:List Int)),(f++([l]:List Int))))
 else
 aT (
 some (e,f))) ((0:Int),([]:List Int),([]:List Int))) λ(m,n)=>
 some ((⟨o,m,n,(a.Ai.length:Int),(a.Aj.length:Int)⟩:A1),(0:Int))
 else
 some ((⟨([]:List Al),([]:List Int),([]:List Int),(0:Int),(0:Int)⟩:A1),k)
def iU(a:Int)(b:Int)(c:Int):Option Int:=
 some (max b (min a c))
def rO(a:Ao):Option Ao:=
 aE (iU a.id (1:Int) (99:Int)) λb=>
 aE (iU a.length (1:Int) (50000:Int)) λc=>
 aE (iU a.speed (1:Int) (10000:Int)) λd=>
 aE (iU a.accel (1:Int) (200:Int)) λe=>
 aE (iU a.service (1:Int) (200:Int)) λf=>
 aE (iU a.emergency a.service (200:Int)) λg=>
 aE (iU a.delay (0:Int) (5:Int)) λh=>
 aE (iU a.const (0:Int) (500:Int)) λi=>
 aE (iU a.rate (0:Int) (100:Int)) λj=>
 some (⟨b,a.name,c,d,e,f,g,h,i,j⟩:Ao)
def qL(a:Ao):Option Int:=
 aE (oF a.name) λc=>
 if(!(c))=true then
 some (3:Int)
 else
 aE (rO a) λb=>
 aD (Ao.ok a/\Ao.ok b) <|
 if a=b then
 some (0:Int)
 else
 some (1:Int)
def lS(e:Aa)(b:(List Ae)):Option Bool:=
 if((decide ((b.length:Int)=0))||(decide (64<(b.length:Int))))=true then
 some false
 else
 aE (mH e) λj=>
 dE (
 bQ (λa=>
 if a<(b.length:Int)then
 dE (
 bE b a λc=>
 aE (jM e c) λ(m,i)=>
 if(!(i))=true then
 aT (
 aT (
 aT (
 some false)))
 else
 dE (
 aD (0<=(0:Int)/\0<=a/\a<=(b.length:Int)) <|
 bQ (λd=>
 if d<((sub b (0:Int) a).length:Int)then
 bE (sub b (0:Int) a) d λg=>
 if g.el=c.el then
 aT (
 aT (
 aT (
 aT (
 aT (
 some false)))))
 else
 aD (bD (d+1)) <|
 some (.inl (d+1))
 else
 aT (
 some (.inl ()))) (0:Int)) λ_=>
 if a=0 then
 some (.inl ())
 else
 aD (bD (a-1)) <|
 bE b (a-1) λh=>
 (match j with
 |.c191 l=>
 aE (gT h l) λ(f,k)=>
 if((!(k))||((!(decide (f.el=c.el)))||(!(decide (f.side=c.inV)))))=true then
 aT (
 aT (
 aT (
 some false)))
 else
 some (.inl ()))) λ_=>
 aD (bD (a+1)) <|
 some (.inl (a+1))
 else
 aT (
 some (.inl ()))) (0:Int)) λ_=>
 some true
def zO(a:A3):Option Ae:=
 aD (bD ((a.steps.length:Int)-1)) <|
 bE a.steps ((a.steps.length:Int)-1) λb=>
 some b
def pN(c:Aa)(a:A3):Option Int:=
 aD (bD ((a.steps.length:Int)-1)) <|
 aD (0<=(0:Int)/\0<=((a.steps.length:Int)-1)/\((a.steps.length:Int)-1)<=(a.steps.length:Int)) <|
 aE (iX c (sub a.steps (0:Int) ((a.steps.length:Int)-1))) λb=>
 aD (bD (b+a.head)) <|
 aD (bD ((b+a.head)-a.length)) <|
 some ((b+a.head)-a.length)
def sS(b:Aa)(a:A3):Option Int:=
 aE (
 aE (lS b a.steps) λg=>
 if(!(g))=true then
 some true
 else
 if a.length<1 then
 some true
 else
 if 1000000<a.length then
 some true
 else
 if a.head<1 then
 some true
 else
 aE (zO a) λh=>
 bE b.Ad h.el λf=>
 some (decide (f.length<a.head))) λi=>
 if i=true then
 some (1:Int)
 else
 aE (pN b a) λc=>
 aE (
 if c<0 then
 some true
 else
 if 1<(a.steps.length:Int)then
 bE a.steps (0:Int) λd=>
 bE b.Ad d.el λe=>
 some (decide (e.length<=c))
 else
 some false) λj=>
 if j=true then
 some (10:Int)
 else
 some (0:Int)
def iH(a:Aa)(b:Ae):Option Int:=
 aE (iX a ([b]:List Ae)) λc=>
 some c
def pM(b:Aa)(d:Ao)(a:A3):Option (Af×Int):=
 aE (
 aE (mM b) λi=>
 if i=0 then
 aE (qL d) λj=>
 if j=0 then
 aE (sS b a) λk=>
 if k=0 then
 if a.length=d.length then
 some (decide ((a.steps.length:Int)=0))
 else
 some true
 else
 some true
 else
 some true
 else
 some true) λl=>
 if l=true then
 some ((⟨(0:Int),(0:Int),(0:Int),(0:Int),([]:List Ae),([]:List Int),([]:List Int),([]:List Int),([]:List Int),(0:Int),(0:Int),(0:Int),(0:Int),(0:Int)⟩:Af),(1:Int))
 else
 aD (bD ((a.steps.length:Int)-1)) <|
 bE a.steps ((a.steps.length:Int)-1) λc=>
 aE (gE b (⟨c.el,c.out⟩:End)) λe=>
 if e<0 then
 some ((⟨(0:Int),(0:Int),(0:Int),(0:Int),([]:List Ae),([]:List Int),([]:List Int),([]:List Int),([]:List Int),(0:Int),(0:Int),(0:Int),(0:Int),(0:Int)⟩:Af),(9:Int))
 else
 aD (0<=(0:Int)/\0<=((a.steps.length:Int)-1)/\((a.steps.length:Int)-1)<=(a.steps.length:Int)) <|
 aE (iX b (sub a.steps (0:Int) ((a.steps.length:Int)-1))) λf=>
 aD (bD ((IntKind.i64.wrap (0-f))-a.head)) <|
 aE (iH b c) λg=>
 aD (bD (g-a.head)) <|
 aE (cL a.steps) λh=>
 some ((⟨d.id,((IntKind.i64.wrap (0-f))-a.head),e,(g-a.head),h,([]:List Int),([]:List Int),([]:List Int),([]:List Int),(0:Int),(0:Int),(0:Int),(0:Int),(0:Int)⟩:Af),(0:Int))
def tA(a:Int)(b:Int):Option Ah:=
 some (⟨a,(0:Int),(0:Int),b⟩:Ah)
def nU(b:Aa)(c:A3):Option ((List Int)):=
 aE (gD b c.steps) λa=>
 aD (a.length<=1000000000) <|
 some (kF a)
def zA(m:Aa)(a:(List Ao))(e:(List A3)):Option (Ar×Int):=
 if((decide ((a.length:Int)=0))||((decide (6<(a.length:Int)))||(!(decide ((e.length:Int)=(a.length:Int))))))=true then
 some ((⟨([]:List Af),([]:List Ah)⟩:Ar),(1:Int))
 else
 dE (
 bQ (λb=>
 if b<(a.length:Int)then
 aD (bD (b-1)) <|
 bE a (b-1) λt=>
 bE a b λu=>
 if u.id<=t.id then
 aT (
 aT (
 some ((⟨([]:List Af),([]:List Ah)⟩:Ar),(7:Int))))
 else
 aD (bD (b+1)) <|
 some (.inl (b+1))
 else
 aT (
 some (.inl ()))) (1:Int)) λ_=>
 dE (
 bQ (λ(d,h,i)=>
 if d<(a.length:Int)then
 bE a d λk=>
 bE e d λv=>
 aE (pM m k v) λ(n,o)=>
 if o=0 then
 aD ((h++([n]:List Af)).length<=1000000000) <|
 aE (tA k.id (0:Int)) λp=>
 aD ((i++([p]:List Ah)).length<=1000000000) <|
 aD (bD (d+1)) <|
 some (.inl ((d+1),(h++([n]:List Af)),(i++([p]:List Ah))))
 else
 aT (
 aT (
 some ((⟨([]:List Af),([]:List Ah)⟩:Ar),o)))
 else
 aT (
 some (.inl (h,i)))) ((0:Int),([]:List Af),([]:List Ah))) λ(r,s)=>
 dE (
 bQ (λ(f,j)=>
 if f<(e.length:Int)then
 dE (
 bE e f λw=>
 aE (nU m w) λq=>
 bQ (λ(g,c)=>
 if g<(q.length:Int)then
 bE q g λl=>
 aD (c.map (·.1)).Nodup <|
 if(((bH c l).getD false))=true then
 aT (
 aT (
 aT (
 aT (
 some ((⟨([]:List Af),([]:List Ah)⟩:Ar),(10:Int))))))
 else
 aD (c.map (·.1)).Nodup <|
 aD (bD (g+1)) <|
 some (.inl ((g+1),(lP c l true)))
 else
 aT (
 some (.inl c))) ((0:Int),j)) λx=>
 aD (bD (f+1)) <|
 some (.inl ((f+1),x))
 else
 aT (
 some (.inl j))) ((0:Int),([]:List (Int×Bool)))) λy=>
 some ((⟨r,s⟩:Ar),(0:Int))
def uC(c:Aa)(b:(List A9)):Option Bool:=
 if((decide (40<(c.Ad.length:Int)))||((decide (80<(c.joints.length:Int)))||((decide (30<(c.Aj.length:Int)))||((decide (40<(c.balises.length:Int)))||((decide (40<(c.Ai.length:Int)))||(decide (16<(b.length:Int))))))))=true then
 some false
 else
 dE (
 bQ (λa=>
 if a<(b.length:Int)then
 aE (
 bE b a λd=>
 if 100<(d.occupied.length:Int)then
 some true
 else
 bE b a λe=>
 if 100<(e.detected.length:Int)then
 some true
 else
 bE b a λf=>
 if 100<(f.closed.length:Int)then
 some true
 else
 bE b a λg=>
 if 100<(g.claimed.length:Int)then
 some true
 else
 bE b a λh=>
 if 100<(h.passed.length:Int)then
 some true
 else
 bE b a λi=>
 if 60<(i.calls.length:Int)then
 some true
 else
 bE b a λj=>
 some (decide (60<(j.cancels.length:Int)))) λk=>
 if k=true then
 aT (
 aT (
 some false))
 else
 aD (bD (a+1)) <|
 some (.inl (a+1))
 else
 aT (
 some (.inl ()))) (0:Int)) λ_=>
 some true
def uB(a:Fd):Option Bool:=
 dE (
 bQ (λb=>
 if b<(a.bodies.length:Int)then
 bE a.bodies b λc=>
 if 20<(c.steps.length:Int)then
 aT (
 aT (
 some false))
 else
 aD (bD (b+1)) <|
 some (.inl (b+1))
 else
 aT (
 some (.inl ()))) (0:Int)) λ_=>
 aE (
 aE (uC a.layout []) λd=>
 if d=true then
 if(a.trains.length:Int)<=6 then
 some (decide ((a.bodies.length:Int)<=6))
 else
 some false
 else
 some false) λe=>
 some e
def gw:Option (Ao×A3):=
 some ((⟨(3:Int),(⟨#[105,99,101]⟩:BA),(5000:Int),(900:Int),(50:Int),(50:Int),(100:Int),(0:Int),(0:Int),(0:Int)⟩:Ao),(⟨([(⟨(0:Int),(0:Int),(1:Int)⟩:Ae)]:List Ae),(15000:Int),(5000:Int)⟩:A3))
def xF:Option Aa:=
 aE (
 bQ (λ(a,b)=>
 if a<(([(⟨#[97]⟩:BA),(⟨#[98]⟩:BA),(⟨#[99]⟩:BA)]:List BA).length:Int)then
 bE ([(⟨#[97]⟩:BA),(⟨#[98]⟩:BA),(⟨#[99]⟩:BA)]:List BA) a λc=>
 aD ((b++([(⟨c,(1:Int),(20000:Int),(0:Int),(1000:Int),(0:Int),a⟩:An)]:List An)).length<=1000000000) <|
 aD (bD (a+1)) <|
 some (.inl ((a+1),(b++([(⟨c,(1:Int),(20000:Int),(0:Int),(1000:Int),(0:Int),a⟩:An)]:List An))))
 else
 aT (
 some b)) ((0:Int),([]:List An))) λd=>
 some (⟨(⟨#[108,105,110,101]⟩:BA),([(⟨#[97]⟩:BA),(⟨#[98]⟩:BA),(⟨#[99]⟩:BA)]:List BA),d,([(⟨(⟨(0:Int),(1:Int)⟩:End),(⟨(1:Int),(0:Int)⟩:End)⟩:Ay),(⟨(⟨(1:Int),(1:Int)⟩:End),(⟨(2:Int),(0:Int)⟩:End)⟩:Ay)]:List Ay),([(⟨(⟨#[115,49]⟩:BA),(⟨(0:Int),(1:Int)⟩:End),(0:Int)⟩:As),(⟨(⟨#[115,50]⟩:BA),(⟨(1:Int),(1:Int)⟩:End),(0:Int)⟩:As)]:List As),([]:List Am)⟩:Aa)
def gJ(a:(List Ah)):Option ((List Ah)):=
 zX a (
 some ([]:List Ah)) (
 aD ((([]:List Ah)++a).length<=1000000000) <|
 some (([]:List Ah)++a))
def rV(b:Ar):Option Ar:=
 aD (0<=(b.tracks.length:Int)/\(b.tracks.length:Int)<=1000000000) <|
 aE (
 bQ (λ(c,d)=>
 if c<(b.tracks.length:Int)then
 bE b.tracks c λa=>
 aE (cL a.steps) λf=>
 aE (bW a.Ak) λg=>
 aE (bW a.starts) λh=>
 aE (bW a.ends) λi=>
 aE (bW a.done) λj=>
 bE d c λl=>
 aD (bD (c+1)) <|
 some (.inl ((c+1),(d.set c.toNat (⟨a.id,a.origin,a.endV,a.atV,f,g,h,i,j,a.min,a.sent,a.accepted,a.cut,a.cutSeq⟩:Af))))
 else
 aT (
 some d)) ((0:Int),(List.replicate (b.tracks.length:Int).toNat (⟨(0:Int),(0:Int),(0:Int),(0:Int),([]:List Ae),([]:List Int),([]:List Int),([]:List Int),([]:List Int),(0:Int),(0:Int),(0:Int),(0:Int),(0:Int)⟩:Af)))) λe=>
 aE (gJ b.sessions) λk=>
 some (⟨e,k⟩:Ar)
def kN(a:Ar):Option Bool:=
 some (decide ((a.tracks.length:Int)=(a.sessions.length:Int)))
def eJ(a:Af):Option Af:=
 aE (cL a.steps) λb=>
 aE (bW a.Ak) λc=>
 aE (bW a.starts) λd=>
 aE (bW a.ends) λe=>
 aE (bW a.done) λf=>
 some (⟨a.id,a.origin,a.endV,a.atV,b,c,d,e,f,a.min,a.sent,a.accepted,a.cut,a.cutSeq⟩:Af)
def qC(a:Int)(c:A6):Option Bool:=
 if((decide (a<0))||(decide ((c.Ak.length:Int)<=a)))=true then
 some true
 else
 bE c.Ak a λb=>
 some ((!(decide (b.state=3)))&&(!(decide (b.state=4))))
def gH(b:(List Int))(d:Int->Option Bool):Option Int:=
 dE (
 bQ (λa=>
 if a<(b.length:Int)then
 bE b a λc=>
 aE (d c) λe=>
 if e=true then
 aT (
 aT (
 some a))
 else
 aD (bD (a+1)) <|
 some (.inl (a+1))
 else
 aT (
 some (.inl ()))) (0:Int)) λ_=>
 some (-1:Int)
def iQ(a:(List Int))(b:Int->Option Bool):Option ((List Int)):=
 aE (gH a b) λc=>
 if c=(-1:Int)then
 some a
 else
 none
def nR(c:Af)(d:A6):Option Af:=
 aE (eJ c) λa=>
 aE (iQ a.done (λb=>qC b d)) λe=>
 some (⟨a.id,a.origin,a.endV,a.atV,a.steps,a.Ak,a.starts,a.ends,e,a.min,a.sent,a.accepted,a.cut,a.cutSeq⟩:Af)
def rS(a:Af)(b:Int):Option Bool:=
 aE (dY a.Ak b) λc=>
 some c
def iA(b:(List Af))(d:Af->Option Bool):Option Int:=
 dE (
 bQ (λa=>
 if a<(b.length:Int)then
 bE b a λc=>
 aE (d c) λe=>
 if e=true then
 aT (
 aT (
 some a))
 else
 aD (bD (a+1)) <|
 some (.inl (a+1))
 else
 aT (
 some (.inl ()))) (0:Int)) λ_=>
 some (-1:Int)
def eP(a:(List Af))(b:Af->Option Bool):Option Bool:=
 aE (iA a b) λc=>
 some (decide (0<=c))
def uH(b:A1)(c:A6)(g:(List Af))(h:Int):Option Int:=
 dE (
 bQ (λa=>
 if a<(b.Ak.length:Int)then
 bE b.Ak a λf=>
 if(c.Ak.length:Int)<=a then
 aT (
 aT (
 some (-1:Int)))
 else
 aE (
 if f.entry=h then
 bE c.Ak a λe=>
 some (!(decide (e.state=2)))
 else
 some true) λj=>
 if j=true then
 aD (bD (a+1)) <|
 some (.inl (a+1))
 else
 aE (eP g (λd=>rS d a)) λi=>
 if(!(i))=true then
 aT (
 aT (
 some a))
 else
 aD (bD (a+1)) <|
 some (.inl (a+1))
 else
 aT (
 some (.inl ()))) (0:Int)) λ_=>
 some (-1:Int)
def jT(a:Ae)(b:Ae):Option Bool:=
 some (decide (a.el=b.el))
def mP(b:Ae)(c:Af):Option Bool:=
 aE (cO c.steps (λa=>jT a b)) λd=>
 some d
def nQ(d:A1)(a:Af)(c:Int):Option (A5 ⊕ Al):=
 if((decide (c<0))||(decide ((d.Ak.length:Int)<=c)))=true then
 some (.inl (⟨(1:Int)⟩:A5))
 else
 bE d.Ak c λb=>
 if a.cutSeq=0 then
 if((decide (a.endV=(-1:Int)))||(!(decide (a.endV=b.entry))))=true then
 some (.inl (⟨(10:Int)⟩:A5))
 else
 aE (
 aE (cO b.path (λe=>mP e a)) λf=>
 if f=true then
 some true
 else
 aE (dY a.Ak c) λg=>
 some g) λh=>
 if h=true then
 some (.inl (⟨(8:Int)⟩:A5))
 else
 aE (
 aD (bD ((a.steps.length:Int)+(b.path.length:Int))) <|
 if 64<((a.steps.length:Int)+(b.path.length:Int))then
 some true
 else
 aD (bD (a.atV+b.length)) <|
 some (decide (1073741824<(a.atV+b.length)))) λi=>
 if i=true then
 some (.inl (⟨(2:Int)⟩:A5))
 else
 some (.inr b)
 else
 some (.inl (⟨(11:Int)⟩:A5))
def nP(e:Aa)(a:Al):Option Int:=
 if(a.Ai.length:Int)=0 then
 some (0:Int)
 else
 aD (bD ((a.Ai.length:Int)-1)) <|
 bE a.Ai ((a.Ai.length:Int)-1) λg=>
 aE (
 bQ (λ(c,b)=>
 if b<(a.path.length:Int)then
 bE a.path b λd=>
 aE (dD e d.el) λh=>
 if h=g then
 aE (iH e d) λf=>
 aD (bD (c+f)) <|
 aD (bD (b+1)) <|
 some (.inl ((c+f),(b+1)))
 else
 aD (bD (b+1)) <|
 some (.inl (c,(b+1)))
 else
 aT (
 some c)) ((0:Int),(0:Int))) λi=>
 some i
def kP(a:Af)(b:Int)(pv:A5):Option (Af×Int):=
 some ((⟨(0:Int),(0:Int),(0:Int),(0:Int),([]:List Ae),([]:List Int),([]:List Int),([]:List Int),([]:List Int),(0:Int),(0:Int),(0:Int),(0:Int),(0:Int)⟩:Af),pv.err)
def kO(a:Af)(b:Int):Option (Af×Int):=
 some (a,b)
def nT(f:Aa)(g:A1)(e:Af)(c:Int):Option (Af×Int):=
 aE (nQ g e c) λj=>
 match j with
 |.inl m=>
 aE (kP (⟨(0:Int),(0:Int),(0:Int),(0:Int),([]:List Ae),([]:List Int),([]:List Int),([]:List Int),([]:List Int),(0:Int),(0:Int),(0:Int),(0:Int),(0:Int)⟩:Af) (0:Int) m) λ(k,l)=>
 some (k,l)
 |.inr b=>
 aE (eJ e) λa=>
 aD (bD (a.atV+b.length)) <|
 aD ((a.steps++b.path).length<=1000000000) <|
 aD ((a.Ak++([c]:List Int)).length<=1000000000) <|
 aE (nP f b) λd=>
 aD (bD ((a.atV+b.length)-d)) <|
 aD ((a.starts++([((a.atV+b.length)-d)]:List Int)).length<=1000000000) <|
 aD ((a.ends++([(a.atV+b.length)]:List Int)).length<=1000000000) <|
 aE (kO (⟨a.id,a.origin,b.exit,(a.atV+b.length),(a.steps++b.path),(a.Ak++([c]:List Int)),(a.starts++([((a.atV+b.length)-d)]:List Int)),(a.ends++([(a.atV+b.length)]:List Int)),a.done,a.min,a.sent,a.accepted,a.cut,a.cutSeq⟩:Af) (0:Int)) λ(h,i)=>
 some (h,i)
def fA(a:Int):Option Bool:=
 some ((decide ((-1073741824:Int)<=a))&&(decide (a<=1073741824)))
def fK(c:(List Ag)):Option Bool:=
 if 128<(c.length:Int)then
 some false
 else
 dE (
 bQ (λb=>
 if b<(c.length:Int)then
 bE c b λa=>
 aE (
 aE (fA a.fromV) λe=>
 if(!(e))=true then
 some true
 else
 aE (fA a.to) λf=>
 if(!(f))=true then
 some true
 else
 if a.to<=a.fromV then
 some true
 else
 if a.grade<(-50:Int)then
 some true
 else
 if 50<a.grade then
 some true
 else
 if a.speed<1 then
 some true
 else
 some (decide (10000<a.speed))) λh=>
 if h=true then
 aT (
 aT (
 some false))
 else
 aE (
 if 0<b then
 aD (bD (b-1)) <|
 bE c (b-1) λd=>
 some (!(decide (a.fromV=d.to)))
 else
 some false) λg=>
 if g=true then
 aT (
 aT (
 some false))
 else
 aD (bD (b+1)) <|
 some (.inl (b+1))
 else
 aT (
 some (.inl ()))) (0:Int)) λ_=>
 some true
def mL(b:(List Ac))(d:Int)(e:Int):Option Int:=
 dE (
 bQ (λa=>
 if a<(b.length:Int)then
 bE b a λc=>
 if c.id=e then
 aT (
 aT (
 some a))
 else
 aD (bD (a+1)) <|
 some (.inl (a+1))
 else
 aT (
 some (.inl ()))) d) λ_=>
 some (-1:Int)
def nK(b:(List Ac)):Option Bool:=
 if 24<(b.length:Int)then
 some false
 else
 dE (
 bQ (λa=>
 if a<(b.length:Int)then
 bE b a λc=>
 aE (
 if 0<a then
 aD (bD (a-1)) <|
 bE b (a-1) λd=>
 if c.atV<d.atV then
 some true
 else
 aD (0<=(0:Int)/\0<=a/\a<=(b.length:Int)) <|
 aE (mL (sub b (0:Int) a) (0:Int) c.id) λf=>
 some (decide (0<=f))
 else
 aD (0<=(0:Int)/\0<=a/\a<=(b.length:Int)) <|
 aE (mL (sub b (0:Int) a) (0:Int) c.id) λe=>
 some (decide (0<=e))) λg=>
 if g=true then
 aT (
 aT (
 some false))
 else
 aD (bD (a+1)) <|
 some (.inl (a+1))
 else
 aT (
 some (.inl ()))) (0:Int)) λ_=>
 some true
def lA(a:Au):Option Bool:=
 aE (
 if 1<=a.seq then
 if a.seq<=1073741824 then
 aE (fK a.profile) λd=>
 if d=true then
 if 0<(a.profile.length:Int)then
 aD (bD ((a.profile.length:Int)-1)) <|
 bE a.profile ((a.profile.length:Int)-1) λb=>
 if b.to=a.endV then
 aE (nK a.links) λc=>
 some c
 else
 some false
 else
 some false
 else
 some false
 else
 some false
 else
 some false) λe=>
 some e
def jX(a:An)(b:Ae):Option Int:=
 if((decide (b.inV=0))||((decide (b.inV=2))&&(decide (a.kind=3))))=true then
 some a.grade
 else
 some (IntKind.i64.wrap (0-a.grade))
def nH(a:An)(b:Ae):Option Int:=
 if((decide (a.kind=2))&&((decide (b.inV=2))||(decide (b.out=2))))=true then
 some a.slow
 else
 some a.speed
def sK(g:Aa)(e:(List Ae))(j:Int):Option ((List Ag)):=
 if 128<(e.length:Int)then
 some ([]:List Ag)
 else
 dE (
 bQ (λ(from9,c,d)=>
 if c<(e.length:Int)then
 bE e c λa=>
 if((decide (a.el<0))||(decide ((g.Ad.length:Int)<=a.el)))=true then
 aT (
 aT (
 some ([]:List Ag)))
 else
 bE g.Ad a.el λb=>
 aE (mK b.kind a.inV a.out) λ(o,k)=>
 aE (
 if(!(k))=true then
 some true
 else
 aE (fA from9) λl=>
 some (!(l))) λn=>
 if n=true then
 aT (
 aT (
 some ([]:List Ag)))
 else
 aD (bD (from9+b.length)) <|
 aE (jX b a) λh=>
 aE (nH b a) λi=>
 aD ((d++([(⟨from9,(from9+b.length),h,i⟩:Ag)]:List Ag)).length<=1000000000) <|
 aD (bD (c+1)) <|
 some (.inl ((from9+b.length),(c+1),(d++([(⟨from9,(from9+b.length),h,i⟩:Ag)]:List Ag))))
 else
 aT (
 some (.inl d))) (j,(0:Int),([]:List Ag))) λf=>
 aE (fK f) λm=>
 if(!(m))=true then
 some ([]:List Ag)
 else
 some f
def gK(a:(List Ag)):Option ((List Ag)):=
 zX a (
 some ([]:List Ag)) (
 aD ((([]:List Ag)++a).length<=1000000000) <|
 some (([]:List Ag)++a))
def jE(b:Fn)(a:Ag):Option (Ag×Bool):=
 some ((⟨(max a.fromV b.fromV),(min a.to b.to),a.grade,a.speed⟩:Ag),decide ((max a.fromV b.fromV)<(min a.to b.to)))
def fS(a:(List Ag)):Option ((List Ag)):=
 some a
def jC(d:(List Av))(e:(List Ae))(a:Int)(f:Aa)(b:(List Ag)):Option ((List Ag)):=
 aE (gK b) λc=>
 aE (
 aE (fK b) λi=>
 if(!(i))=true then
 some true
 else
 aE (lS f e) λj=>
 if(!(j))=true then
 some true
 else
 if a<(-1073741824:Int)then
 some true
 else
 some (decide (1073741824<a))) λl=>
 if l=true then
 aE (fS c) λg=>
 some g
 else
 aE (
 bQ (λk=>
 if k<(d.length:Int)then
 none
 else
 aT (
 some ())) (0:Int)) λ_=>
 aE (fS c) λh=>
 some h
def qP(c:(List Ag))(g:Int)(h:Int):Option ((List Ag)):=
 aE (fK c) λi=>
 if(!(i))=true then
 some ([]:List Ag)
 else
 aE (
 bQ (λ(a,b)=>
 if a<(c.length:Int)then
 bE c a λf=>
 aE (jE (⟨g,h⟩:Fn) f) λ(d,j)=>
 if j=true then
 aD ((b++([d]:List Ag)).length<=1000000000) <|
 aD (bD (a+1)) <|
 some (.inl ((a+1),(b++([d]:List Ag))))
 else
 aD (bD (a+1)) <|
 some (.inl ((a+1),b))
 else
 aT (
 some b)) ((0:Int),([]:List Ag))) λe=>
 some e
def mA(b:Int)(a:Ae):Option Bool:=
 if b=1 then
 some true
 else
 aE (
 if b=2 then
 some (decide (b=2))
 else
 some (decide (b=3))) λc=>
 if c=true then
 some (bif decide (a.inV=0)then((decide (a.out=1))||((decide (a.inV=1))&&(decide (a.out=0))))else((decide (a.inV=1))&&(decide (a.out=0))))
 else
 some false
def nL(a:Ac)(b:Ac):Option Int:=
 aE (eI a.atV b.atV) λc=>
 aE (eI a.id b.id) λd=>
 aE (oH ([c,d]:List Int)) λe=>
 some e
def cJ(k:(List Ac))(d:Int)(l:Int)(m:Ac->Ac->Option Int):Option ((List Ac)):=
 aD (bD (d+1)) <|
 bQ (λ(c,e)=>
 if c<l then
 aE (
 bQ (λ(a,b)=>
 aE (
 if d<a then
 bE b a λh=>
 aD (bD (a-1)) <|
 bE b (a-1) λi=>
 aE (m h i) λn=>
 some (decide (n<0))
 else
 some false) λo=>
 if o=true then
 aD (bD (a-1)) <|
 aD (bD (a-1)) <|
 bE b (a-1) λf=>
 bE b a λj=>
 bE b a λp=>
 bE (b.set a.toNat f) (a-1) λq=>
 aD (bD (a-1)) <|
 some (.inl ((a-1),((b.set a.toNat f).set (a-1).toNat j)))
 else
 aT (
 some b)) (c,e)) λg=>
 aD (bD (c+1)) <|
 some (.inl ((c+1),g))
 else
 aT (
 some e)) ((d+1),k)
def cI(g:(List Ac))(c:Int)(d:Int)(h:Int)(k:Ac->Ac->Option Int):Option ((List Ac)):=
 bQ (λ(a,b)=>
 if a<h then
 aD (bD (c+a)) <|
 aD (bD (d+a)) <|
 aD (bD (d+a)) <|
 bE b (d+a) λe=>
 aD (bD (c+a)) <|
 bE b (c+a) λf=>
 bE b (c+a) λi=>
 bE (b.set (c+a).toNat e) (d+a) λj=>
 aD (bD (a+1)) <|
 some (.inl ((a+1),((b.set (c+a).toNat e).set (d+a).toNat f)))
 else
 aT (
 some b)) ((0:Int),g)
def dH(m:(List Ac))(h:Int)(b:Int)(i:Int)(f:Ac->Ac->Option Int):Option ((List Ac)):=
 aD (bD (b-h)) <|
 aD (bD (i-b)) <|
 aE (
 bQ (λ(a,c,d)=>
 if a=c then
 aT (
 some (a,d))
 else
 if c<a then
 aD (bD (b-a)) <|
 aE (cI d (b-a) b c f) λj=>
 aD (j.length=d.length) <|
 aD (bD (a-c)) <|
 some (.inl ((a-c),c,j))
 else
 aD (bD (b-a)) <|
 aD (bD (b+c)) <|
 aD (bD ((b+c)-a)) <|
 aE (cI d (b-a) ((b+c)-a) a f) λk=>
 aD (k.length=d.length) <|
 aD (bD (c-a)) <|
 some (.inl (a,(c-a),k))) ((b-h),(i-b),m)) λ(e,g)=>
 aD (bD (b-e)) <|
 aE (cI g (b-e) b e f) λl=>
 aD (l.length=g.length) <|
 some l
def bV:Nat->(List Ac)->Int->Int->Int->(Ac->Ac->Option Int)->Option ((List Ac))
 |0,_,_,_,_,_=>none
 |fu+1,d,a,c,b,l=>
 dE (
 aD (bD (c-a)) <|
 if(c-a)=1 then
 aE (
 bQ (λ(g,i)=>
 if g<i then
 aD (bD (g+i)) <|
 aD (0<=(1:Int)) <|
 bE d (IntKind.i64.wrap ((IntKind.u64.wrap (g+i)).fdiv (2^(min (1:Int).toNat IntKind.u64.bits)))) λw=>
 bE d a λx=>
 aE (l w x) λG=>
 if G<0 then
 aD (bD ((IntKind.i64.wrap ((IntKind.u64.wrap (g+i)).fdiv (2^(min (1:Int).toNat IntKind.u64.bits))))+1)) <|
 some (.inl (((IntKind.i64.wrap ((IntKind.u64.wrap (g+i)).fdiv (2^(min (1:Int).toNat IntKind.u64.bits))))+1),i))
 else
 some (.inl (g,(IntKind.i64.wrap ((IntKind.u64.wrap (g+i)).fdiv (2^(min (1:Int).toNat IntKind.u64.bits))))))
 else
 aT (
 some g)) (c,b)) λq=>
 aE (
 bQ (λ(k25,j)=>
 aD (bD (q-1)) <|
 if k25<(q-1)then
 aD (bD (k25+1)) <|
 aD (bD (k25+1)) <|
 bE j (k25+1) λo=>
 bE j k25 λy=>
 bE j k25 λK=>
 bE (j.set k25.toNat o) (k25+1) λL=>
 aD (bD (k25+1)) <|
 some (.inl ((k25+1),((j.set k25.toNat o).set (k25+1).toNat y)))
 else
 aT (
 some j)) (a,d)) λu=>
 aT (
 some u)
 else
 some (.inl ())) λ_=>
 dE (
 aD (bD (b-c)) <|
 if(b-c)=1 then
 aE (
 bQ (λ(f,h)=>
 if f<h then
 aD (bD (f+h)) <|
 aD (0<=(1:Int)) <|
 bE d c λz=>
 bE d (IntKind.i64.wrap ((IntKind.u64.wrap (f+h)).fdiv (2^(min (1:Int).toNat IntKind.u64.bits)))) λA=>
 aE (l z A) λH=>
 if H<0 then
 some (.inl (f,(IntKind.i64.wrap ((IntKind.u64.wrap (f+h)).fdiv (2^(min (1:Int).toNat IntKind.u64.bits))))))
 else
 aD (bD ((IntKind.i64.wrap ((IntKind.u64.wrap (f+h)).fdiv (2^(min (1:Int).toNat IntKind.u64.bits))))+1)) <|
 some (.inl (((IntKind.i64.wrap ((IntKind.u64.wrap (f+h)).fdiv (2^(min (1:Int).toNat IntKind.u64.bits))))+1),h))
 else
 aT (
 some f)) (a,c)) λF=>
 aE (
 bQ (λ(k63,k)=>
 if F<k63 then
 aD (bD (k63-1)) <|
 aD (bD (k63-1)) <|
 bE k (k63-1) λp=>
 bE k k63 λB=>
 bE k k63 λM=>
 bE (k.set k63.toNat p) (k63-1) λN=>
 aD (bD (k63-1)) <|
 some (.inl ((k63-1),((k.set k63.toNat p).set (k63-1).toNat B)))
 else
 aT (
 some k)) (c,d)) λv=>
 aT (
 some v)
 else
 some (.inl ())) λ_=>
 aD (bD (a+b)) <|
 aD (0<=(1:Int)) <|
 aD (bD ((IntKind.i64.wrap ((IntKind.u64.wrap (a+b)).fdiv (2^(min (1:Int).toNat IntKind.u64.bits))))+c)) <|
 aE (
 if(IntKind.i64.wrap ((IntKind.u64.wrap (a+b)).fdiv (2^(min (1:Int).toNat IntKind.u64.bits))))<c then
 aD (bD (((IntKind.i64.wrap ((IntKind.u64.wrap (a+b)).fdiv (2^(min (1:Int).toNat IntKind.u64.bits))))+c)-b)) <|
 some ((((IntKind.i64.wrap ((IntKind.u64.wrap (a+b)).fdiv (2^(min (1:Int).toNat IntKind.u64.bits))))+c)-b),(IntKind.i64.wrap ((IntKind.u64.wrap (a+b)).fdiv (2^(min (1:Int).toNat IntKind.u64.bits)))))
 else
 some (a,c)) λ(start79,J)=>
 aD (bD (((IntKind.i64.wrap ((IntKind.u64.wrap (a+b)).fdiv (2^(min (1:Int).toNat IntKind.u64.bits))))+c)-1)) <|
 aE (
 bQ (λ(start89,e)=>
 if start89<e then
 aD (bD (start89+e)) <|
 aD (0<=(1:Int)) <|
 aD (bD ((((IntKind.i64.wrap ((IntKind.u64.wrap (a+b)).fdiv (2^(min (1:Int).toNat IntKind.u64.bits))))+c)-1)-(IntKind.i64.wrap ((IntKind.u64.wrap (start89+e)).fdiv (2^(min (1:Int).toNat IntKind.u64.bits)))))) <|
 bE d ((((IntKind.i64.wrap ((IntKind.u64.wrap (a+b)).fdiv (2^(min (1:Int).toNat IntKind.u64.bits))))+c)-1)-(IntKind.i64.wrap ((IntKind.u64.wrap (start89+e)).fdiv (2^(min (1:Int).toNat IntKind.u64.bits))))) λC=>
 bE d (IntKind.i64.wrap ((IntKind.u64.wrap (start89+e)).fdiv (2^(min (1:Int).toNat IntKind.u64.bits)))) λE=>
 aE (l C E) λI=>
 if I<0 then
 some (.inl (start89,(IntKind.i64.wrap ((IntKind.u64.wrap (start89+e)).fdiv (2^(min (1:Int).toNat IntKind.u64.bits))))))
 else
 aD (bD ((IntKind.i64.wrap ((IntKind.u64.wrap (start89+e)).fdiv (2^(min (1:Int).toNat IntKind.u64.bits))))+1)) <|
 some (.inl (((IntKind.i64.wrap ((IntKind.u64.wrap (start89+e)).fdiv (2^(min (1:Int).toNat IntKind.u64.bits))))+1),e))
 else
 aT (
 some start89)) (start79,J)) λstart85=>
 aD (bD (((IntKind.i64.wrap ((IntKind.u64.wrap (a+b)).fdiv (2^(min (1:Int).toNat IntKind.u64.bits))))+c)-start85)) <|
 aE (
 if((decide (start85<c))&&(decide (c<(((IntKind.i64.wrap ((IntKind.u64.wrap (a+b)).fdiv (2^(min (1:Int).toNat IntKind.u64.bits))))+c)-start85))))=true then
 aE (dH d start85 c (((IntKind.i64.wrap ((IntKind.u64.wrap (a+b)).fdiv (2^(min (1:Int).toNat IntKind.u64.bits))))+c)-start85) l) λr=>
 aD (r.length=d.length) <|
 some r
 else
 some d) λm=>
 aE (
 if((decide (a<start85))&&(decide (start85<(IntKind.i64.wrap ((IntKind.u64.wrap (a+b)).fdiv (2^(min (1:Int).toNat IntKind.u64.bits)))))))=true then
 aE ((bV fu) m a start85 (IntKind.i64.wrap ((IntKind.u64.wrap (a+b)).fdiv (2^(min (1:Int).toNat IntKind.u64.bits)))) l) λs=>
 aD (s.length=m.length) <|
 some s
 else
 some m) λn=>
 if((decide ((IntKind.i64.wrap ((IntKind.u64.wrap (a+b)).fdiv (2^(min (1:Int).toNat IntKind.u64.bits))))<(((IntKind.i64.wrap ((IntKind.u64.wrap (a+b)).fdiv (2^(min (1:Int).toNat IntKind.u64.bits))))+c)-start85)))&&(decide ((((IntKind.i64.wrap ((IntKind.u64.wrap (a+b)).fdiv (2^(min (1:Int).toNat IntKind.u64.bits))))+c)-start85)<b)))=true then
 aE ((bV fu) n (IntKind.i64.wrap ((IntKind.u64.wrap (a+b)).fdiv (2^(min (1:Int).toNat IntKind.u64.bits)))) (((IntKind.i64.wrap ((IntKind.u64.wrap (a+b)).fdiv (2^(min (1:Int).toNat IntKind.u64.bits))))+c)-start85) b l) λt=>
 aD (t.length=n.length) <|
 some t
 else
 some n
def cZ(a:(List Ac))(b:Int)(c:Int)(d:Int)(e:Ac->Ac->Option Int):Option ((List Ac)):=bV lN a b c d e
def eD(r:(List Ac))(a:Int)(f:Ac->Ac->Option Int):Option ((List Ac)):=
 aE (
 bQ (λ(j,b,g)=>
 if b<=a then
 aE (cJ g j b f) λm=>
 aD (m.length=g.length) <|
 aD (bD (b+20)) <|
 some (.inl (b,(b+20),m))
 else
 aT (
 some (j,g))) ((0:Int),(20:Int),r)) λ(q,k)=>
 aE (cJ k q a f) λn=>
 aD (n.length=k.length) <|
 bQ (λ(blockSize23,l)=>
 if blockSize23<a then
 aD (bD (2*blockSize23)) <|
 aE (
 bQ (λ(e,c,i)=>
 if c<=a then
 aD (bD (e+blockSize23)) <|
 aE (cZ i e (e+blockSize23) c f) λo=>
 aD (o.length=i.length) <|
 aD (bD (2*blockSize23)) <|
 aD (bD (c+(2*blockSize23))) <|
 some (.inl (c,(c+(2*blockSize23)),o))
 else
 aT (
 some (e,i))) ((0:Int),(2*blockSize23),l)) λ(d,h)=>
 aD (bD (d+blockSize23)) <|
 if(d+blockSize23)<a then
 aE (cZ h d (d+blockSize23) a f) λp=>
 aD (p.length=h.length) <|
 aD (bD (blockSize23*2)) <|
 some (.inl ((blockSize23*2),p))
 else
 aD (bD (blockSize23*2)) <|
 some (.inl ((blockSize23*2),h))
 else
 aT (
 some l)) ((20:Int),n)
def dW(a:(List Ac))(c:Ac->Ac->Option Int):Option ((List Ac)):=
 aE (eD a (a.length:Int) c) λb=>
 aD (b.length=a.length) <|
 some b
def sL(f:Aa)(k:(List Ae))(t:Int)(u:Int):Option ((List Ac)):=
 aE (lS f k) λv=>
 if(!(v))=true then
 some ([]:List Ac)
 else
 aE (
 aD (f.balises.length<=1000000000) <|
 some (kA (λx=>x.el) f.balises)) λr=>
 dE (
 bQ (λ(begin15,h,b,j)=>
 if h<(k.length:Int)then
 dE (
 bE k h λa=>
 if((decide (a.el<0))||(decide ((f.Ad.length:Int)<=a.el)))=true then
 aT (
 aT (
 aT (
 some ([]:List Ac))))
 else
 bE f.Ad a.el λc=>
 aE (
 aE (mA c.kind a) λw=>
 if w=true then
 aE (
 aD (b.map (·.1)).Nodup <|
 bQ (λ(e,g)=>
 if e<(((bH b a.el).getD ([]:List Am)).length:Int)then
 bE ((bH b a.el).getD ([]:List Am)) e λd=>
 aD (bD (begin15+d.offset)) <|
 aE (
 if a.inV=1 then
 aD (bD (begin15+c.length)) <|
 aD (bD ((begin15+c.length)-d.offset)) <|
 some ((begin15+c.length)-d.offset)
 else
 some (begin15+d.offset)) λi=>
 if i<=u then
 aD ((g++([(⟨d.id,i⟩:Ac)]:List Ac)).length<=1000000000) <|
 aD (bD (e+1)) <|
 some (.inl ((e+1),(g++([(⟨d.id,i⟩:Ac)]:List Ac))))
 else
 aD (bD (e+1)) <|
 some (.inl ((e+1),g))
 else
 aT (
 some g)) ((0:Int),j)) λp=>
 aD (b.map (·.1)).Nodup <|
 some ((Gs b a.el),p)
 else
 some (b,j)) λ(s,o)=>
 aD (bD (begin15+c.length)) <|
 some (.inl ((begin15+c.length),s,o))) λ(begin21,q,n)=>
 aD (bD (h+1)) <|
 some (.inl (begin21,(h+1),q,n))
 else
 aT (
 some (.inl (b,j)))) (t,(0:Int),r,([]:List Ac))) λ(y,l)=>
 aE (dW l nL) λm=>
 aD (m.length=l.length) <|
 some m
def jK(a:Au)(b:Int):Option (Au×Int):=
 aE (lA a) λc=>
 if(!(c))=true then
 some ((⟨(0:Int),(0:Int),([]:List Ag),([]:List Ac)⟩:Au),(2:Int))
 else
 some (a,b)
def lB(b:Aa)(a:Af)(d:(List Av))(c:Int):Option (Au×Int):=
 aE (
 aE (lS b a.steps) λi=>
 if(!(i))=true then
 some true
 else
 if c<1 then
 some true
 else
 some (decide (1073741824<c))) λl=>
 if l=true then
 some ((⟨(0:Int),(0:Int),([]:List Ag),([]:List Ac)⟩:Au),(1:Int))
 else
 aE (sK b a.steps a.origin) λj=>
 aE (jC d a.steps a.origin b j) λk=>
 aE (qP k a.origin a.atV) λe=>
 aE (sL b a.steps a.origin a.atV) λf=>
 aE (jK (⟨c,a.atV,e,f⟩:Au) (0:Int)) λ(g,h)=>
 some (g,h)
def uI(b:Aa)(c:(List Av))(a:Af):Option (Af×Ap):=
 aE (
 if a.cutSeq=0 then
 some ()
 else
 none) λ_=>
 aD (bD (a.sent+1)) <|
 aE (lB b a c (a.sent+1)) λ(d,e)=>
 if e=0 then
 aD (bD (a.sent+1)) <|
 some ((⟨a.id,a.origin,a.endV,a.atV,a.steps,a.Ak,a.starts,a.ends,a.done,a.min,(a.sent+1),a.accepted,a.cut,a.cutSeq⟩:Af),(⟨(2:Int),(0:Int),(0:Int),(0:Int),(0:Int),d,(⟨(0:Int),(0:Int),(0:Int),(0:Int),false⟩:Aq)⟩:Ap))
 else
 some (a,(⟨(5:Int),(0:Int),(0:Int),(0:Int),(0:Int),(⟨(0:Int),(0:Int),([]:List Ag),([]:List Ac)⟩:Au),(⟨(0:Int),(0:Int),(0:Int),(0:Int),false⟩:Aq)⟩:Ap))
def fR(a:(List Ag)):Option ((List Ag)):=
 aD (a.length<=1000000000) <|
 some a
def fY(a:(List Ac)):Option ((List Ac)):=
 aD (a.length<=1000000000) <|
 some a
def oY(a:Ah)(b:Ap)(d:Int):Option (Ah×Ap):=
 aE (
 if a.out<1073741824 then
 aD (bD (a.out+1)) <|
 some (a.out+1)
 else
 some a.out) λc=>
 aE (fR b.auth.profile) λe=>
 aE (fY b.auth.links) λf=>
 some ((⟨a.peer,c,a.inV,a.heard⟩:Ah),(⟨b.kind,b.fromV,a.peer,c,d,(⟨b.auth.seq,b.auth.endV,e,f⟩:Au),b.report⟩:Ap))
def sJ(i:Aa)(c:A1)(j:A6)(k:(List Af))(b:Int):Option ((List Af)):=
 bQ (λa=>
 aE (
 bE a b λg=>
 if g.cutSeq=0 then
 bE a b λh=>
 some (!(decide (h.endV=(-1:Int))))
 else
 some false) λn=>
 if n=true then
 bE a b λe=>
 aE (uH c j a e.endV) λd=>
 if d<0 then
 aT (
 some a)
 else
 bE a b λf=>
 aE (nT i c f d) λ(l,m)=>
 if m=0 then
 bE a b λo=>
 some (.inl (a.set b.toNat l))
 else
 aT (
 some a)
 else
 aT (
 some a)) k
def rW(g:Aa)(q:A1)(h:A6)(r:(List Av))(s:Ar)(t:Int):Option (Ar×(List Ap)):=
 aE (rV s) λc=>
 aE (kN c) λu=>
 if(!(u))=true then
 some (c,([]:List Ap))
 else
 aE (
 bQ (λ(a,b,d,f)=>
 if a<(c.tracks.length:Int)then
 bE b a λn=>
 aE (nR n h) λi=>
 bE b a λy=>
 aE (sJ g q h (b.set a.toNat i) a) λe=>
 aD (e.length=(b.set a.toNat i).length) <|
 bE e a λo=>
 aE (uI g r o) λ(v,w)=>
 bE e a λz=>
 bE d a λp=>
 aE (oY p w t) λ(x,j)=>
 bE d a λA=>
 aD ((f++([j]:List Ap)).length<=1000000000) <|
 aD (bD (a+1)) <|
 some (.inl ((a+1),(e.set a.toNat v),(d.set a.toNat x),(f++([j]:List Ap))))
 else
 aT (
 some (b,d,f))) ((0:Int),c.tracks,c.sessions,([]:List Ap))) λ(k,l,m)=>
 some ((⟨k,l⟩:Ar),m)
def kT:Option Bool:=
 aE (gw) λ(f,g)=>
 aE (xF) λh=>
 aE (oK h) λ(i,m)=>
 aE (xF) λj=>
 aE (zA j ([f]:List Ao) ([g]:List A3)) λ(c,d)=>
 aE (xF) λe=>
 aE (rW e i (⟨([(⟨(2:Int),(0:Int),(0:Int)⟩:At),(⟨(0:Int),(0:Int),(0:Int)⟩:At)]:List At),([]:List Int)⟩:A6) [] c (1:Int)) λ(l,a)=>
 aE (
 if d=0 then
 if(a.length:Int)=1 then
 bE a (0:Int) λb=>
 some (decide (b.auth.endV=25000))
 else
 some false
 else
 some false) λk=>
 some k
def cP(a:Int)(b:Int)(c:Int):Option Bool:=
 some ((decide (b<=a))&&(decide (a<=c)))
def nY(a:Int):Option Bool:=
 some ((decide (a=2))||(decide (a=3)))
def iD(a:Ap):Option Bool:=
 aE (nY a.kind) λd=>
 if(!(d))=true then
 some ((decide (a.auth.seq=0))&&((decide (a.auth.endV=0))&&((decide ((a.auth.profile.length:Int)=0))&&(decide ((a.auth.links.length:Int)=0)))))
 else
 aE (
 aE (cP a.auth.seq (1:Int) (1073741824:Int)) λi=>
 if(!(i))=true then
 some true
 else
 aE (cP a.auth.endV (-1073741824:Int) (1073741824:Int)) λe=>
 some (!(e))) λl=>
 if l=true then
 some false
 else
 aE (
 aE (fK a.auth.profile) λf=>
 if(!(f))=true then
 some true
 else
 some (decide (24<(a.auth.links.length:Int)))) λj=>
 if j=true then
 some false
 else
 dE (
 bQ (λb=>
 if b<(a.auth.links.length:Int)then
 bE a.auth.links b λc=>
 aE (
 aE (cP c.id (1:Int) (1073741824:Int)) λg=>
 if(!(g))=true then
 some true
 else
 aE (cP c.atV (-1073741824:Int) (1073741824:Int)) λh=>
 some (!(h))) λk=>
 if k=true then
 aT (
 aT (
 some false))
 else
 aD (bD (b+1)) <|
 some (.inl (b+1))
 else
 aT (
 some (.inl ()))) (0:Int)) λ_=>
 some true
def jS(a:Ap):Option Bool:=
 if a.kind=1 then
 aE (
 aE (cP a.report.min (-1073741824:Int) (1073741824:Int)) λd=>
 if d=true then
 aE (cP a.report.speed (0:Int) (1073741824:Int)) λe=>
 if e=true then
 aE (cP a.report.mode (1:Int) (7:Int)) λb=>
 if b=true then
 aE (cP a.report.accepted (0:Int) (1073741824:Int)) λc=>
 some c
 else
 some false
 else
 some false
 else
 some false) λf=>
 some f
 else
 aD (Aq.ok a.report/\Aq.ok (⟨(0:Int),(0:Int),(0:Int),(0:Int),false⟩:Aq)) <|
 some (decide (a.report=(⟨(0:Int),(0:Int),(0:Int),(0:Int),false⟩:Aq)))
def nJ(a:Ap):Option Bool:=
 aE (
 aE (cP a.kind (1:Int) (5:Int)) λf=>
 if(!(f))=true then
 some true
 else
 aE (cP a.fromV (0:Int) (99:Int)) λg=>
 if(!(g))=true then
 some true
 else
 aE (cP a.to (0:Int) (99:Int)) λh=>
 some (!(h))) λi=>
 if i=true then
 some false
 else
 aE (
 aE (cP a.seq (0:Int) (1073741824:Int)) λb=>
 if(!(b))=true then
 some true
 else
 aE (cP a.time (0:Int) (1073741824:Int)) λc=>
 some (!(c))) λk=>
 if k=true then
 some false
 else
 aE (
 aE (iD a) λd=>
 if d=true then
 aE (jS a) λe=>
 some e
 else
 some false) λj=>
 some j
def oL(d:(List Af)):Option (List (Int×Int)):=
 aE (
 bQ (λ(a,b)=>
 if a<(d.length:Int)then
 bE d a λc=>
 aD (b.map (·.1)).Nodup <|
 if(!((bH b c.id).isSome))=true then
 aD (b.map (·.1)).Nodup <|
 aD (bD (a+1)) <|
 some (.inl ((a+1),(lP b c.id a)))
 else
 aD (bD (a+1)) <|
 some (.inl ((a+1),b))
 else
 aT (
 some b)) ((0:Int),([]:List (Int×Int)))) λe=>
 some e
def lV(a:Ao)(b:Ap):Option Bool:=
 some (decide (a.id=b.fromV))
def fQ(b:(List Ao))(d:Ao->Option Bool):Option Int:=
 dE (
 bQ (λa=>
 if a<(b.length:Int)then
 bE b a λc=>
 aE (d c) λe=>
 if e=true then
 aT (
 aT (
 some a))
 else
 aD (bD (a+1)) <|
 some (.inl (a+1))
 else
 aT (
 some (.inl ()))) (0:Int)) λ_=>
 some (-1:Int)
def oX(a:Int)(b:Int)(c:Int):Option Bool:=
 some ((decide (a<=b))&&(decide ((IntKind.u64.wrap ((IntKind.u64.wrap b)-(IntKind.u64.wrap a)))<=(IntKind.u64.wrap c))))
def jA(a:Ah)(b:Ap)(c:Int):Option (Ah×Int):=
 if b.fromV=a.peer then
 aE (oX b.time c (4:Int)) λd=>
 if(!(d))=true then
 some (a,(15:Int))
 else
 if b.seq<=a.inV then
 some (a,(7:Int))
 else
 some ((⟨a.peer,a.out,b.seq,c⟩:Ah),(0:Int))
 else
 some (a,(1:Int))
def jZ(b:Ao)(a:Int):Option Int:=
 aE (
 if a<(-2147483648:Int)then
 some true
 else
 aD (bD (a-b.length)) <|
 some (decide ((a-b.length)<(-2147483648:Int)))) λc=>
 if c=true then
 some (-2147483648:Int)
 else
 aD (bD (a-b.length)) <|
 some (a-b.length)
def iI(b:Ao)(a:Aq)(c:Int):Option Bool:=
 aE (
 if(a.whole)=true then
 aE (jZ b a.min) λd=>
 some (decide (c<=d))
 else
 some false) λe=>
 some e
def nS(j:Aa)(F:A1)(k:Ao)(y:Af)(f:Aq):Option Af:=
 aE (eJ y) λa=>
 aE (
 if((!(decide (a.cutSeq=0)))&&(decide (a.cutSeq<=(max a.accepted (min a.sent f.accepted)))))=true then
 none
 else
 some ()) λ_=>
 aE (
 bQ (λ(b,d,e,g)=>
 aE (
 if 0<(b.length:Int)then
 if 0<(d.length:Int)then
 if 0<(e.length:Int)then
 bE d (0:Int) λu=>
 aE (iI k f u) λz=>
 some z
 else
 some false
 else
 some false
 else
 some false) λC=>
 if C=true then
 aE (
 bE b (0:Int) λv=>
 aE (dY g v) λA=>
 if(!(A))=true then
 bE b (0:Int) λi=>
 aD ((g++([i]:List Int)).length<=1000000000) <|
 some (g++([i]:List Int))
 else
 some g) λn=>
 aD (0<=(1:Int)/\1<=(b.length:Int)/\(b.length:Int)<=(b.length:Int)) <|
 aD (0<=(1:Int)/\1<=(d.length:Int)/\(d.length:Int)<=(d.length:Int)) <|
 aD (0<=(1:Int)/\1<=(e.length:Int)/\(e.length:Int)<=(e.length:Int)) <|
 some (.inl (sub b (1:Int) (b.length:Int),sub d (1:Int) (d.length:Int),sub e (1:Int) (e.length:Int),n))
 else
 aT (
 some (b,d,e,g))) (a.Ak,a.starts,a.ends,a.done)) λ(r,s,t,o)=>
 aE (
 if(f.whole)=true then
 aE (jZ k (max a.min f.min)) λB=>
 bQ (λ(h,c)=>
 aE (
 if 2<=(c.length:Int)then
 bE c (0:Int) λw=>
 aE (iH j w) λl=>
 aD (bD (h+l)) <|
 some (decide ((h+l)<=B))
 else
 some false) λE=>
 if E=true then
 bE c (0:Int) λx=>
 aE (iH j x) λm=>
 aD (bD (h+m)) <|
 aD (0<=(1:Int)/\1<=(c.length:Int)/\(c.length:Int)<=(c.length:Int)) <|
 some (.inl ((h+m),sub c (1:Int) (c.length:Int)))
 else
 aT (
 some (h,c))) (a.origin,a.steps)
 else
 some (a.origin,a.steps)) λ(p,q)=>
 some (⟨a.id,p,a.endV,a.atV,q,r,s,t,o,(max a.min f.min),a.sent,(max a.accepted (min a.sent f.accepted)),a.cut,a.cutSeq⟩:Af)
def fW(l:Aa)(m:A1)(e:(List Ao))(d:Ar)(a:Ap)(n:Int):Option (Ar×Int):=
 aE (
 aE (kN d) λq=>
 if(!(q))=true then
 some true
 else
 if a.kind=1 then
 aE (nJ a) λr=>
 some (!(r))
 else
 some true) λs=>
 if s=true then
 some ((⟨([]:List Af),([]:List Ah)⟩:Ar),(1:Int))
 else
 aE (oL d.tracks) λb=>
 aD (b.map (·.1)).Nodup <|
 if(!((bH b a.fromV).isSome))=true then
 some ((⟨([]:List Af),([]:List Ah)⟩:Ar),(9:Int))
 else
 aE (fQ e (λh=>lV h a)) λf=>
 if f<0 then
 some ((⟨([]:List Af),([]:List Ah)⟩:Ar),(9:Int))
 else
 bE d.sessions ((bH b a.fromV).getD (0:Int)) λi=>
 aE (jA i a n) λ(o,g)=>
 if g=0 then
 aE (rV d) λc=>
 bE c.sessions ((bH b a.fromV).getD (0:Int)) λt=>
 bE e f λj=>
 bE c.tracks ((bH b a.fromV).getD (0:Int)) λk=>
 aE (nS l m j k a.report) λp=>
 bE c.tracks ((bH b a.fromV).getD (0:Int)) λu=>
 some ((⟨(c.tracks.set ((bH b a.fromV).getD (0:Int)).toNat p),(c.sessions.set ((bH b a.fromV).getD (0:Int)).toNat o)⟩:Ar),(0:Int))
 else
 some ((⟨([]:List Af),([]:List Ah)⟩:Ar),g)
def qB(b:(List Int)):Option ((List Int)):=
 aE (bW b) λa=>
 aD (a.length<=1000000000) <|
 aD ((kF a).length<=1000000000) <|
 some (Go.Lib.compact (kF a))
def oA(o:(List Int))(p:(List Int))(q:Bool->Bool->Option Bool):Option ((List Int)):=
 aE (
 bQ (λ(a,b,c)=>
 if((decide (0<(a.length:Int)))||(decide (0<(b.length:Int))))=true then
 aE (
 if 0<(a.length:Int)then
 if(b.length:Int)=0 then
 some true
 else
 bE a (0:Int) λh=>
 bE b (0:Int) λi=>
 some (decide (h<=i))
 else
 some false) λinA14=>
 aE (
 if 0<(b.length:Int)then
 if(a.length:Int)=0 then
 some true
 else
 bE b (0:Int) λj=>
 bE a (0:Int) λk=>
 some (decide (j<=k))
 else
 some false) λinB20=>
 aE (
 if inA14=true then
 bE a (0:Int) λl=>
 aD (0<=(1:Int)/\1<=(a.length:Int)/\(a.length:Int)<=(a.length:Int)) <|
 some (sub a (1:Int) (a.length:Int),l)
 else
 some (a,(0:Int))) λ(d,n)=>
 aE (
 if inB20=true then
 bE b (0:Int) λm=>
 aD (0<=(1:Int)/\1<=(b.length:Int)/\(b.length:Int)<=(b.length:Int)) <|
 some (sub b (1:Int) (b.length:Int),m)
 else
 some (b,n)) λ(e,f)=>
 aE (q inA14 inB20) λr=>
 if r=true then
 aD ((c++([f]:List Int)).length<=1000000000) <|
 some (.inl (d,e,(c++([f]:List Int))))
 else
 some (.inl (d,e,c))
 else
 aT (
 some c)) (o,p,([]:List Int))) λg=>
 some g
def pG(a:Bool)(b:Bool):Option Bool:=
 some (a&&(!(b)))
def tF(a:(List Int))(b:(List Int)):Option ((List Int)):=
 aE (qB a) λc=>
 aE (qB b) λd=>
 aE (oA c d pG) λe=>
 some e
def pF(a:(List Int))(b:(List Int)):Option Bool:=
 aE (tF a b) λc=>
 some (decide ((c.length:Int)=0))
def nE(b:Fd)(m:(List (List Int)))(t:(List Aq))(C:(List Bool)):Option Bool:=
 aE (oK b.layout) λ(c,R)=>
 aE (zA b.layout b.trains b.bodies) λ(u,S)=>
 aE (
 aE (uB b) λU=>
 if(!(U))=true then
 some true
 else
 if R=0 then
 if S=0 then
 if 12<(m.length:Int)then
 some true
 else
 if 12<(t.length:Int)then
 some true
 else
 if(u.tracks.length:Int)=0 then
 some true
 else
 some (decide ((b.trains.length:Int)=0))
 else
 some true
 else
 some true) λW=>
 if W=true then
 aE (kT) λP=>
 some P
 else
 aE (
 bQ (λ(d,w,x)=>
 if d<(m.length:Int)then
 aE (
 aD (0<=(c.Ak.length:Int)/\(c.Ak.length:Int)<=1000000000) <|
 aE (
 bE m d λs=>
 bE m d λk=>
 aD (0<=(0:Int)/\0<=(min (k.length:Int) (60:Int))/\(min (k.length:Int) (60:Int))<=(s.length:Int)) <|
 bQ (λ(e,f)=>
 if e<((sub s (0:Int) (min (k.length:Int) (60:Int))).length:Int)then
 bE (sub s (0:Int) (min (k.length:Int) (60:Int))) e λl=>
 if((decide (0<=l))&&(decide (l<(f.length:Int))))=true then
 bE f l λz=>
 aD (bD (e+1)) <|
 some (.inl ((e+1),(f.set l.toNat (⟨(2:Int),z.rel,z.timer⟩:At))))
 else
 aD (bD (e+1)) <|
 some (.inl ((e+1),f))
 else
 aT (
 some f)) ((0:Int),(List.replicate (c.Ak.length:Int).toNat (⟨(0:Int),(0:Int),(0:Int)⟩:At)))) λH=>
 aE (rW b.layout c (⟨H,([]:List Int)⟩:A6) [] (⟨w,x⟩:Ar) d) λ(E,a0)=>
 some (E.tracks,E.sessions)) λ(I,J)=>
 aD (bD (d+1)) <|
 some (.inl ((d+1),I,J))
 else
 aT (
 some (w,x))) ((0:Int),u.tracks,u.sessions)) λ(h,v)=>
 aE (
 bQ (λ(a,o,p,i,j)=>
 if a<(t.length:Int)then
 bE b.trains (0:Int) λA=>
 aD (bD (a+1)) <|
 bE t a λB=>
 aE (
 aE (fW b.layout c b.trains (⟨o,p⟩:Ar) (⟨(1:Int),A.id,(0:Int),(a+1),(20:Int),(⟨(0:Int),(0:Int),([]:List Ag),([]:List Ac)⟩:Au),B⟩:Ap) (20:Int)) λ(F,T)=>
 if T=0 then
 some (F.tracks,F.sessions)
 else
 some (o,p)) λ(q,r)=>
 aE (
 if a<(C.length:Int)then
 bE C a λM=>
 some M
 else
 some false) λX=>
 if X=true then
 aD (bD (a+1)) <|
 some (.inl ((a+1),q,r,i,j))
 else
 aE (fW b.layout c b.trains (⟨i,j⟩:Ar) (⟨(1:Int),A.id,(0:Int),(a+1),(20:Int),(⟨(0:Int),(0:Int),([]:List Ag),([]:List Ac)⟩:Au),B⟩:Ap) (20:Int)) λ(G,V)=>
 if V=0 then
 aD (bD (a+1)) <|
 some (.inl ((a+1),q,r,G.tracks,G.sessions))
 else
 aD (bD (a+1)) <|
 some (.inl ((a+1),q,r,i,j))
 else
 aT (
 some (o,p,i,j))) ((0:Int),h,v,h,v)) λ(n,Y,y,Z)=>
 if((!(decide ((n.length:Int)=(h.length:Int))))||(!(decide ((y.length:Int)=(h.length:Int)))))=true then
 some false
 else
 dE (
 bQ (λg=>
 if g<(n.length:Int)then
 bE n g λK=>
 bE y g λL=>
 aE (pF K.Ak L.Ak) λN=>
 if(!(N))=true then
 aT (
 aT (
 some false))
 else
 aD (bD (g+1)) <|
 some (.inl (g+1))
 else
 aT (
 some (.inl ()))) (0:Int)) λ_=>
 aE (kT) λO=>
 some O
@[simp] theorem aA{α:Type}{p:Prop}[Decidable p]{k:Option α}(h:p):aD p k=k:=if_pos h
@[simp] theorem aH{α β:Type}(a:α)(k:α->Option β):aE (some a) k=k a:=rfl
@[simp] theorem bindS_inl{α β:Type}(a:α)(k:α->Option β):dE (some (.inl a)) k=k a:=rfl
@[simp] theorem bindS_inr{α β:Type}(b:β)(k:α->Option β):dE (some (.inr b)) k=some b:=rfl
@[simp] theorem inrM_some{α β:Type}(b:β):(aT (some b):Option (α ⊕ β))=some (.inr b):=rfl
theorem bC{α β:Type}{l:List α}{i:Nat}{e:α}{k:α->Option β}(h:l[i]?=some e):bE l (i:Int) k=k e:=by simp[bE,h]
theorem Gj{α β:Type}{l:List α}{i:Int}{e:α}{k:α->Option β}(h0:0<=i)(h:l[i.toNat]?=some e):bE l i k=k e:=by simp[bE,h0,h]
@[simp] theorem ite_bindM{α β:Type}{p:Prop}[Decidable p](a b:α)(k:α->Option β):aE (if p then some a else some b) k=k (if p then a else b):=by split<;>rfl
theorem E7{α:Type}(l:List α)(i:Nat):sub l (i:Int) (l.length:Int)=l.drop i:=by simp[sub,<- List.length_drop]
theorem xG{α:Type}(l:List α)(i:Nat):sub l 0 (i:Int)=l.take i:=by simp[sub]
variable {σ ρ:Type}
theorem Gc{f:σ->Option (σ ⊕ ρ)}(B:Nat->σ){o:ρ}:∀(n k:Nat),(∀i,k<=i->i<k+n->f (B i)=some (.inl (B (i+1))))->f (B (k+n))=some (.inr o)->mS f (n+1) (B k)=some o
 |0,k,_,he=>by simp only[qV]at he;simp[mS,he]
 |n+1,k,hf,he=>by
  simp only[mS];rw[hf k (wt _) (by omega)];exact Gc B n (k+1) (λi h1 h2=>hf i (by omega) (by omega)) (by rw[show k+1+n=k+(n+1) by omega];exact he)
theorem loop_to{f:σ->Option (σ ⊕ ρ)}(B:Nat->σ)(n:Nat){o:ρ}{s:σ}(hs:s=B 0)(hn:n<=9223372036854775807)(hf:∀i,i<n->f (B i)=some (.inl (B (i+1))))(he:f (B n)=some (.inr o)):bQ f s=some o:=by
 subst hs;exact xW (Gc B n 0 (λi _ h=>hf i (by omega)) (by rw[eL];exact he)) (by unfold lN;omega)
theorem y5{β:Type}{f:Int×β->Option ((Int×β) ⊕ ρ)}(n:Nat)(B:Nat->β){o:ρ}{b:β}(hb:b=B 0)(hn:n<=9223372036854775807)(hf:∀i,i<n->f ((i:Int),B i)=some (.inl ((i:Int)+1,B (i+1))))(he:f ((n:Int),B n)=some (.inr o)):bQ f (0,b)=some o:=
 loop_to (λi=>((i:Int),B i)) n (by rw[hb];rfl) hn (λi hi=>by rw[hf i hi];rfl) he
theorem i64_nat{i n:Nat}(h:i<n)(hn:n<=9223372036854775807):bD ((i:Int)+1):=by unfold bD;omega
def sgn(x y:Int):Int:=if x<y then -1 else if y<x then 1 else 0
theorem vX(x y:Int):eI x y=some (sgn x y):=by
 simp only[eI,nO,decide_true,Bool.not_true,aH,gu,if_false,sgn];split;rfl;split<;>rfl
theorem or_eq(x y:Int):oH [x,y]=some (if x=0 then y else x):=by
 unfold oH;by_cases hx:x=0;by_cases hy:y=0
 ·rw [xW (n := 3) (r := (.inl () : Unit ⊕ Int)) (by simp [mS, bE, aD, bD, hx, hy, aT]) (by decide)];simp[dE,hx,hy]
 rw [xW (n := 3) (r := (.inr y : Unit ⊕ Int)) (by simp [mS, bE, aD, bD, hx, hy, aT]) (by decide)];simp[dE,hx];rw [xW (n := 3) (r := (.inr x : Unit ⊕ Int)) (by simp [mS, bE, aD, bD, hx, aT]) (by decide)];simp[dE,hx]
theorem rE(x y:Ab):dA x y=some (if sgn x.el y.el=0 then sgn x.pos y.pos else sgn x.el y.el):=by
 simp only[dA,vX,aH,or_eq]
theorem wQ:SortOk dA:=by
 have hl:∀x y,ck dA x y=decide (x.el<y.el\/x.el=y.el/\x.pos<y.pos):=by
  intro x y;simp only[ck,rE,rJ,sgn];rw[decide_eq_decide];split<;>split<;>(try split)<;>(try split)<;>omega
 refine⟨λx y=>⟨_,rE x y⟩,λx=>?_,λx y z h1 h2=>?_,λx y z h1 h2=>?_,λx y h1 h2=>?_⟩;rw[hl];simp;rw[hl,decide_eq_true_eq]at *; omega;rw[hl,decide_eq_false_iff_not]at *; omega;rw[hl,decide_eq_false_iff_not]at *;obtain⟨a,b⟩:=x;obtain⟨c,d⟩:=y;simp only at h1 h2;have h3:a=c:=by omega
 have h4:b=d:=by omega
 rw[h3,h4]
theorem uP(x y:Ab):eY x y=some (if sgn x.el y.el=0 then sgn x.pos y.pos else sgn x.el y.el):=by
 simp only[eY,vX,aH,or_eq]
theorem cq:SortOk eY:=by
 have hl:∀x y,ck eY x y=decide (x.el<y.el\/x.el=y.el/\x.pos<y.pos):=by
  intro x y;simp only[ck,uP,rJ,sgn];rw[decide_eq_decide];split<;>split<;>(try split)<;>(try split)<;>omega
 refine⟨λx y=>⟨_,uP x y⟩,λx=>?_,λx y z h1 h2=>?_,λx y z h1 h2=>?_,λx y h1 h2=>?_⟩;rw[hl];simp;rw[hl,decide_eq_true_eq]at *; omega;rw[hl,decide_eq_false_iff_not]at *; omega;rw[hl,decide_eq_false_iff_not]at *;obtain⟨a,b⟩:=x;obtain⟨c,d⟩:=y;simp only at h1 h2;have h3:a=c:=by omega
 have h4:b=d:=by omega
 rw[h3,h4]
end Go.Proofs.YtjmpojlgegloeaaGreatDoor
set_option maxHeartbeats 8000000
set_option linter.unusedSimpArgs false
set_option linter.unusedVariables false
set_option maxRecDepth 20000
namespace Go.Proofs.YtjmpojlgegloeaaGreatDoor
open Go Go.TL Go.Sort Go.Shelf Go.RowKit Go.Lib Go.Proofs.Tryz
def Hp:Go.Shelf.Ren:=⟨fun|6=>43|15=>97|14=>96|28=>149|29=>150|20=>141|21=>142|22=>143|23=>144|24=>145|25=>146|26=>147|27=>148|46=>182|47=>183|48=>184|49=>185|50=>186|57=>200|n=>n,fun|22=>77|24=>123|25=>134|3=>3|39=>197|0=>0|53=>255|55=>227|4=>4|46=>249|45=>248|50=>107|5=>5|9=>9|66=>285|70=>289|76=>305|77=>306|n=>n,fun|n=>n⟩
theorem sort43:Go.Proofs.SlLaysF0.n6 TP Hp where
 mixed:=by kernel_rfl
 f6:=⟨Tryz.f43.name,by kernel_rfl,func43.trans (congrArg some (by kernel_rfl))⟩
 f14:=⟨Tryz.f96.name,by kernel_rfl,func96.trans (congrArg some (by kernel_rfl))⟩
 f15:=func97.trans (congrArg some (by kernel_rfl))
 f20:=⟨Tryz.f141.name,by kernel_rfl,func141.trans (congrArg some (by kernel_rfl))⟩
 f21:=⟨Tryz.f142.name,by kernel_rfl,func142.trans (congrArg some (by kernel_rfl))⟩
 f22:=⟨Tryz.f143.name,by kernel_rfl,func143.trans (congrArg some (by kernel_rfl))⟩
 f23:=⟨Tryz.f144.name,by kernel_rfl,func144.trans (congrArg some (by kernel_rfl))⟩
 f24:=⟨Tryz.f145.name,by kernel_rfl,func145.trans (congrArg some (by kernel_rfl))⟩
 f25:=⟨Tryz.f146.name,by kernel_rfl,func146.trans (congrArg some (by kernel_rfl))⟩
 f26:=⟨Tryz.f147.name,by kernel_rfl,func147.trans (congrArg some (by kernel_rfl))⟩
 f27:=⟨Tryz.f148.name,by kernel_rfl,func148.trans (congrArg some (by kernel_rfl))⟩
 f28:=func149.trans (congrArg some (by kernel_rfl))
 f29:=func150.trans (congrArg some (by kernel_rfl))
 f46:=⟨Tryz.f182.name,by kernel_rfl,func182.trans (congrArg some (by kernel_rfl))⟩
 f47:=func183.trans (congrArg some (by kernel_rfl))
 f48:=func184.trans (congrArg some (by kernel_rfl))
 f49:=⟨Tryz.f185.name,by kernel_rfl,func185.trans (congrArg some (by kernel_rfl))⟩
 f50:=⟨Tryz.f186.name,by kernel_rfl,func186.trans (congrArg some (by kernel_rfl))⟩
 f57:=⟨Tryz.f200.name,by kernel_rfl,func200.trans (congrArg some (by kernel_rfl))⟩
 t0:=Tryz.underlying0
 a0:=Tryz.isAgg0
 z0:=Tryz.sizeOf0
 v0:=Tryz.zeroValue0
 t3:=Tryz.underlying3
 a3:=Tryz.isAgg3
 z3:=Tryz.sizeOf3
 v3:=Tryz.zeroValue3
 t4:=Tryz.underlying4
 a4:=Tryz.isAgg4
 z4:=Tryz.sizeOf4
 v4:=Tryz.zeroValue4
 t5:=Tryz.underlying5
 a5:=Tryz.isAgg5
 z5:=Tryz.sizeOf5
 v5:=Tryz.zeroValue5
 t9:=Tryz.underlying9
 a9:=Tryz.isAgg9
 z9:=Tryz.sizeOf9
 v9:=Tryz.zeroValue9
 t22:=Tryz.underlying77
 a22:=Tryz.isAgg77
 z22:=Tryz.sizeOf77
 v22:=Tryz.zeroValue77
 t25:=Tryz.underlying134
 a25:=Tryz.isAgg134
 z25:=Tryz.sizeOf134
 v25:=Tryz.zeroValue134
 t39:=Tryz.underlying197
 a39:=Tryz.isAgg197
 z39:=Tryz.sizeOf197
 v39:=Tryz.zeroValue197
 t45:=Tryz.underlying248
 a45:=Tryz.isAgg248
 z45:=Tryz.sizeOf248
 v45:=Tryz.zeroValue248
 t46:=Tryz.underlying249
 a46:=Tryz.isAgg249
 z46:=Tryz.sizeOf249
 v46:=Tryz.zeroValue249
 t50:=Tryz.underlying107
 a50:=Tryz.isAgg107
 z50:=Tryz.sizeOf107
 v50:=Tryz.zeroValue107
 t53:=Tryz.underlying255
 a53:=Tryz.isAgg255
 z53:=Tryz.sizeOf255
 v53:=Tryz.zeroValue255
 t55:=Tryz.underlying227
 a55:=Tryz.isAgg227
 z55:=Tryz.sizeOf227
 v55:=Tryz.zeroValue227
 t66:=Tryz.underlying285
 a66:=Tryz.isAgg285
 z66:=Tryz.sizeOf285
 v66:=Tryz.zeroValue285
 t70:=Tryz.underlying289
 a70:=Tryz.isAgg289
 z70:=Tryz.sizeOf289
 v70:=Tryz.zeroValue289
 t76:=Tryz.underlying305
 a76:=Tryz.isAgg305
 z76:=Tryz.sizeOf305
 v76:=Tryz.zeroValue305
 t77:=Tryz.underlying306
 a77:=Tryz.isAgg306
 z77:=Tryz.sizeOf306
 v77:=Tryz.zeroValue306
theorem mR{G:FuncId}{c:D}{cs:List D}{m:Ab->Ab->Option Int}(hs:SortOk m)(hfn:sV c=some (G,cs))(hclo:∀a b r,m a b=some r->RetD TP G ([a.enc,b.enc]++cs) (.int .i64 r))(xs:List Ab)(hlen:xs.length<=1000000000):Ret TP 43 [.flat 123 2 (xs.map Ab.enc)] (λ_=>false) [.msl 0 2 0 xs.length,.d c] (.tup []) [.flat 123 2 ((pP m xs).map Ab.enc)]:=by
 have hcb:kD TP G=true:=by
  obtain⟨r,hr⟩:=hs.tot default default;obtain⟨_,_,_,h,_⟩:=hclo _ _ _ hr;exact h.1
 have hlt:ltOf (λx y=>(m x y).getD 0)=ck m:=rfl
 have hS := Kh (P := TP) (F := 43) (G := G) (sz := 2) (f := Ab.enc) (c := c) (cs := cs) (cf := fun x y => (m x y).getD 0) (S := fun d => d.toList.mergeSort fun x y => !(ck m) y x) 123 (fun _ => false) xs (aQ rfl) (fun _ => rfl) (fun _ => rfl) (fun _ => rfl) hfn
  (λx y=>by obtain⟨r,hr⟩:=hs.tot x y;rw[hr];exact hclo x y r hr) (by omega) (by rw[List.length_mergeSort])
  (λp cap fv w=>AnyF.slices_SortFunc_none { sort43 with } p cap fv w)
  (fun blk off cap cb d w hcl hH hb hl => AnyQ.slices_SortFunc_total sort43 2 Tryz.isAgg123 Tryz.sizeOf123 (fun x => (Ab.enc x).cells.map D.val) (fun _ => rfl) (fun x v hv => by obtain ⟨c, hc, rfl⟩ := zal76q.1 hv; simp only [Ab.enc, D.cells, zQB, xA, or_false] at hc; rcases hc with rfl | rfl <;> rfl) (fun x y => (m x y).getD 0)
   ⟨hs.irrefl,hs.trans,hs.ntrans⟩ G cb blk off cap d w (fw hcb) hcl hH hb hl hs.anti)
 rwa [show(xs.toArray.toList.mergeSort λx y=>!(ck m) y x)=pP m xs from qt hs xs]at hS
def Gb:Go.Shelf.Ren:=⟨fun|171=>90|243=>137|246=>179|283=>195|284=>196|285=>197|286=>198|129=>150|317=>204|318=>205|319=>206|320=>207|337=>210|338=>211|n=>n,fun|3=>3|9=>9|2=>2|4=>4|171=>299|0=>0|53=>227|37=>301|5=>5|173=>302|212=>312|51=>255|20=>20|213=>313|46=>197|232=>315|233=>316|n=>n,fun|17=>2|18=>3|19=>4|n=>n⟩
theorem itoaM90:Go.Proofs.LaysM.n171 TP Gb where
 mixed:=by kernel_rfl
 f129:=func150.trans (congrArg some (by kernel_rfl))
 f171:=func90.trans (congrArg some (by kernel_rfl))
 f243:=func137.trans (congrArg some (by kernel_rfl))
 f246:=func179.trans (congrArg some (by kernel_rfl))
 f283:=func195.trans (congrArg some (by kernel_rfl))
 f284:=func196.trans (congrArg some (by kernel_rfl))
 f285:=func197.trans (congrArg some (by kernel_rfl))
 f286:=func198.trans (congrArg some (by kernel_rfl))
 f317:=func204.trans (congrArg some (by kernel_rfl))
 f318:=func205.trans (congrArg some (by kernel_rfl))
 f319:=func206.trans (congrArg some (by kernel_rfl))
 f320:=func207.trans (congrArg some (by kernel_rfl))
 f337:=func210.trans (congrArg some (by kernel_rfl))
 f338:=func211.trans (congrArg some (by kernel_rfl))
 t0:=Tryz.underlying0
 a0:=Tryz.isAgg0
 z0:=Tryz.sizeOf0
 v0:=Tryz.zeroValue0
 t2:=Tryz.underlying2
 a2:=Tryz.isAgg2
 z2:=Tryz.sizeOf2
 v2:=Tryz.zeroValue2
 t3:=Tryz.underlying3
 a3:=Tryz.isAgg3
 z3:=Tryz.sizeOf3
 v3:=Tryz.zeroValue3
 t4:=Tryz.underlying4
 a4:=Tryz.isAgg4
 z4:=Tryz.sizeOf4
 v4:=Tryz.zeroValue4
 t5:=Tryz.underlying5
 a5:=Tryz.isAgg5
 z5:=Tryz.sizeOf5
 v5:=Tryz.zeroValue5
 t9:=Tryz.underlying9
 a9:=Tryz.isAgg9
 z9:=Tryz.sizeOf9
 v9:=Tryz.zeroValue9
 t20:=Tryz.underlying20
 a20:=Tryz.isAgg20
 z20:=Tryz.sizeOf20
 v20:=Tryz.zeroValue20
 t37:=Tryz.underlying301
 a37:=Tryz.isAgg301
 z37:=Tryz.sizeOf301
 v37:=Tryz.zeroValue301
 t46:=Tryz.underlying197
 a46:=Tryz.isAgg197
 z46:=Tryz.sizeOf197
 v46:=Tryz.zeroValue197
 t51:=Tryz.underlying255
 a51:=Tryz.isAgg255
 z51:=Tryz.sizeOf255
 v51:=Tryz.zeroValue255
 t53:=Tryz.underlying227
 a53:=Tryz.isAgg227
 z53:=Tryz.sizeOf227
 v53:=Tryz.zeroValue227
 t171:=Tryz.underlying299
 a171:=Tryz.isAgg299
 z171:=Tryz.sizeOf299
 v171:=Tryz.zeroValue299
 t173:=Tryz.underlying302
 a173:=Tryz.isAgg302
 z173:=Tryz.sizeOf302
 v173:=Tryz.zeroValue302
 t212:=Tryz.underlying312
 a212:=Tryz.isAgg312
 z212:=Tryz.sizeOf312
 v212:=Tryz.zeroValue312
 t213:=Tryz.underlying313
 a213:=Tryz.isAgg313
 z213:=Tryz.sizeOf313
 t232:=Tryz.underlying315
 a232:=Tryz.isAgg315
 z232:=Tryz.sizeOf315
 v232:=Tryz.zeroValue315
 t233:=Tryz.underlying316
 a233:=Tryz.isAgg316
 z233:=Tryz.sizeOf316
 v233:=Tryz.zeroValue316
 g17:=by kernel_rfl
 g18:=by kernel_rfl
 g19:=by kernel_rfl
 i0:=by kernel_rfl
 i2:=by kernel_rfl
 i3:=by kernel_rfl
 i4:=by kernel_rfl
 i5:=by kernel_rfl
 i9:=by kernel_rfl
 i20:=by kernel_rfl
 i37:=by kernel_rfl
 i46:=by kernel_rfl
 i51:=by kernel_rfl
 i53:=by kernel_rfl
 i171:=by kernel_rfl
 i173:=by kernel_rfl
 i212:=by kernel_rfl
 i232:=by kernel_rfl
 i233:=by kernel_rfl
 m17:=by kernel_rfl
 m18:=by kernel_rfl
 m19:=by kernel_rfl
theorem itoaT : TP.globalNamed "internal/strconv.uint64pow10" = some 2 := by kernel_rfl
theorem Ij(i:Int)(h:bD i):RetN TP 90 [.int .i64 i] (.str ⟨(Go.Lib.itoa i).toArray⟩):=Kj (aQ rfl) (λw g hl=>Hn (zs:=Go.Lib.pow10Tab) (k:=.u64) itoaT (by kernel_rfl) hl) λw ht=>Any.strconv_Itoa itoaM90 i (by unfold bD at h;omega) (by unfold bD at h;omega) w ht
def Fa:Go.Shelf.Ren:=⟨fun|189=>48|125=>97|257=>99|128=>149|129=>150|294=>151|295=>152|296=>153|297=>154|298=>155|299=>156|216=>157|300=>158|301=>159|328=>187|329=>183|330=>184|331=>188|332=>189|215=>98|343=>201|n=>n,fun|28=>37|3=>3|46=>197|0=>0|51=>255|53=>227|4=>4|183=>249|182=>248|131=>107|5=>5|9=>9|218=>285|222=>289|228=>305|229=>306|n=>n,fun|n=>n⟩
theorem I7:Go.Proofs.Lays.n189 TP Fa where
 mixed:=by kernel_rfl
 f125:=func97.trans (congrArg some (by kernel_rfl))
 f128:=func149.trans (congrArg some (by kernel_rfl))
 f129:=func150.trans (congrArg some (by kernel_rfl))
 f189:=func48.trans (congrArg some (by kernel_rfl))
 f215:=func98.trans (congrArg some (by kernel_rfl))
 f216:=func157.trans (congrArg some (by kernel_rfl))
 f257:=func99.trans (congrArg some (by kernel_rfl))
 f294:=func151.trans (congrArg some (by kernel_rfl))
 f295:=func152.trans (congrArg some (by kernel_rfl))
 f296:=func153.trans (congrArg some (by kernel_rfl))
 f297:=func154.trans (congrArg some (by kernel_rfl))
 f298:=func155.trans (congrArg some (by kernel_rfl))
 f299:=func156.trans (congrArg some (by kernel_rfl))
 f300:=func158.trans (congrArg some (by kernel_rfl))
 f301:=func159.trans (congrArg some (by kernel_rfl))
 f328:=func187.trans (congrArg some (by kernel_rfl))
 f329:=func183.trans (congrArg some (by kernel_rfl))
 f330:=func184.trans (congrArg some (by kernel_rfl))
 f331:=func188.trans (congrArg some (by kernel_rfl))
 f332:=func189.trans (congrArg some (by kernel_rfl))
 f343:=func201.trans (congrArg some (by kernel_rfl))
 t0:=Tryz.underlying0
 a0:=Tryz.isAgg0
 z0:=Tryz.sizeOf0
 v0:=Tryz.zeroValue0
 t3:=Tryz.underlying3
 a3:=Tryz.isAgg3
 z3:=Tryz.sizeOf3
 v3:=Tryz.zeroValue3
 t4:=Tryz.underlying4
 a4:=Tryz.isAgg4
 z4:=Tryz.sizeOf4
 v4:=Tryz.zeroValue4
 t5:=Tryz.underlying5
 a5:=Tryz.isAgg5
 z5:=Tryz.sizeOf5
 v5:=Tryz.zeroValue5
 t9:=Tryz.underlying9
 a9:=Tryz.isAgg9
 z9:=Tryz.sizeOf9
 v9:=Tryz.zeroValue9
 t28:=Tryz.underlying37
 a28:=Tryz.isAgg37
 z28:=Tryz.sizeOf37
 v28:=Tryz.zeroValue37
 t46:=Tryz.underlying197
 a46:=Tryz.isAgg197
 z46:=Tryz.sizeOf197
 v46:=Tryz.zeroValue197
 t51:=Tryz.underlying255
 a51:=Tryz.isAgg255
 z51:=Tryz.sizeOf255
 v51:=Tryz.zeroValue255
 t53:=Tryz.underlying227
 a53:=Tryz.isAgg227
 z53:=Tryz.sizeOf227
 v53:=Tryz.zeroValue227
 t131:=Tryz.underlying107
 a131:=Tryz.isAgg107
 z131:=Tryz.sizeOf107
 v131:=Tryz.zeroValue107
 t182:=Tryz.underlying248
 a182:=Tryz.isAgg248
 z182:=Tryz.sizeOf248
 v182:=Tryz.zeroValue248
 t183:=Tryz.underlying249
 a183:=Tryz.isAgg249
 z183:=Tryz.sizeOf249
 v183:=Tryz.zeroValue249
 t218:=Tryz.underlying285
 a218:=Tryz.isAgg285
 z218:=Tryz.sizeOf285
 v218:=Tryz.zeroValue285
 t222:=Tryz.underlying289
 a222:=Tryz.isAgg289
 z222:=Tryz.sizeOf289
 v222:=Tryz.zeroValue289
 t228:=Tryz.underlying305
 a228:=Tryz.isAgg305
 z228:=Tryz.sizeOf305
 v228:=Tryz.zeroValue305
 t229:=Tryz.underlying306
 a229:=Tryz.isAgg306
 z229:=Tryz.sizeOf306
 v229:=Tryz.zeroValue306
theorem oW(xs:List Int)(hlen:xs.length<=1000000000):Ret TP 48 [.flat 3 1 (xs.map (D.int .i64))] (λ_=>false) [.msl 0 1 0 xs.length] (.tup []) [.flat 3 1 ((kF xs).map (D.int .i64))]:=
 Ki 3 (λ_=>false) xs (aQ rfl) (by omega) (λp cap w=>Any.slices_Sort_int_none I7 p cap w) (λblk off cap zs w hH hb hl=>Any.slices_Sort_int I7 blk off cap zs w hH hb hl)
def Gw:Go.Shelf.Ren:=⟨fun|20=>49|n=>n,fun|22=>37|3=>3|4=>4|0=>0|n=>n,fun|n=>n⟩
theorem Jr:Go.Proofs.Lays2.n20 TP Gw where
 mixed:=by kernel_rfl
 f20:=func49.trans (congrArg some (by kernel_rfl))
 t0:=Tryz.underlying0
 a0:=Tryz.isAgg0
 z0:=Tryz.sizeOf0
 v0:=Tryz.zeroValue0
 t3:=Tryz.underlying3
 a3:=Tryz.isAgg3
 z3:=Tryz.sizeOf3
 v3:=Tryz.zeroValue3
 t4:=Tryz.underlying4
 a4:=Tryz.isAgg4
 z4:=Tryz.sizeOf4
 v4:=Tryz.zeroValue4
 t22:=Tryz.underlying37
 a22:=Tryz.isAgg37
 z22:=Tryz.sizeOf37
 v22:=Tryz.zeroValue37
 i3:=by kernel_rfl
theorem qM(xs:List Int)(hlen:xs.length<=1000000000):Ret TP 49 [.flat 3 1 (xs.map (D.int .i64))] (λ_=>false) [.msl 0 1 0 xs.length] (.msl 0 1 0 (Go.Lib.compact xs).length) [.flat 3 1 ((Go.Lib.compact xs).map (D.int .i64))]:=
 Do 3 (λ_=>false) xs (aQ rfl) (by omega) (λp cap w=>Any.slices_Compact_int_empty Jr p cap w) (λblk off cap zs w hH h1 h2=>Any.slices_Compact_int Jr blk off cap zs w hH h1 h2)
end Go.Proofs.YtjmpojlgegloeaaGreatDoor
set_option maxHeartbeats 8000000
set_option linter.unusedSimpArgs false
set_option linter.unusedVariables false
set_option maxRecDepth 20000
namespace Go.Proofs.YtjmpojlgegloeaaGreatDoor
open Go Go.TL Go.Proofs.Tryz
theorem cY{a:Int}{b:Int}{c:Int}{r:Bool}(e:cS a b c=some r):RetN TP 131 [.int .i64 a,.int .i64 b,.int .i64 c] (.bool (r)):=by
 refine .unit (aJ (aQ Q) func131 Q ntmps131 Q Q (λwX gX=>?_)) Q;unfold cS at e;refine aB [0,1,2] Q (bX 4 Q (fC [(6,.d (.bool (((decide (b<=a))&&(decide (a<=c))))))] [6] [] Q ?_ ?_));refine aM 4 Q (SB TK Q (λg f=>?_));cases g;refine aF 6 Q ?_;exact⟨[],Q,k0,bT (aO (aP (by simp[f])) Q) Q⟩;refine aF 6 Q ?_;exact⟨[],Q,k0,bT (aO (aP (by simp[f])) Q) Q⟩;exact aB [6] Q (aL 1 Q (aY e Q))
theorem cm{g:Aa}{r:Bool}(a:jY g=some r):RetN TP 80 [g.enc] (.bool (r)):=by
 refine .unit (aJ (aQ Q) func80 Q ntmps80 Q Q (λwX gX=>?_)) Q;unfold jY at a;refine aB [0] Q (aM 1 Q (bU 0 Q Q Q (aG 3 Q (aN a (λb=>([(2,.d (.bool (b)))])) (λb=>[]) [2] [] Q (λm a=>?_) (λb a=>?_)))));refine aM 3 Q (aX TK Q (dI a (cY ·) Q λk a=>SB TK Q (λh c=>?_)));cases h;replace a:=JB c a;exact aF 19 Q (aZ [0] a Q Q);replace a:=JA c a;refine aI 2 Q (aX TK Q (dI a (cY ·) Q λl a=>aI 1 Q (SB TK Q (λi e=>?_))));cases i;replace a:=JB e a;exact aF 13 Q (aZ [0] a Q Q);replace a:=JA e a;refine aI 2 Q (aX TK Q (aI 2 Q (SB TK Q (λj f=>?_))));cases j;replace a:=JF f a;exact aF 7 Q (aZ [0] a Q Q);replace a:=JT f a;exact aI 2 Q (aX TK Q (aF 4 Q (aZ [0] a Q Q)));exact aB [2] Q (aL 1 Q (aY a Q))
theorem ea{c:BA}{r:Bool}(a:oF c=some r):RetN TP 108 [.str c] (.bool (r)):=by
 refine .unit (aJ (aQ Q) func108 Q ntmps108 Q Q (λwX gX=>?_)) Q;unfold oF at a;refine aB [0] Q (bX 5 Q (aN a (λm=>([(21,.d (.bool (m)))])) (λm=>[]) [21] [0] Q (λP a=>?_) (λm a=>?_)));refine aM 3 Q (SB TK Q (λG p=>?_));cases G;replace a:=JF p a;refine aI 4 Q (SB TK Q (λH q=>?_));cases H;replace a:=JF q a;refine aI 1 Q (VE a λJ w a=>bB Q (x_ixs Q Tryz.underlying9 Q Q w) (aI 2 Q (SB TK Q (λI s=>?_))));cases I;replace a:=JF s a;exact aI 1 Q (VE a λK x a=>bB Q (x_ixs Q Tryz.underlying9 Q Q x) (aF 3 Q (aZ [] a Q Q)));replace a:=JT s a;exact aF 5 Q (aZ [] a Q Q);replace a:=JT q a;exact aF 10 Q (aZ [] a Q Q);replace a:=JT p a;exact aF 15 Q (aZ [] a Q Q);refine aB [0,21] Q (bI a Q (λv a=>?_) (λv a=>?_))
 ·exact aL 6 Q (aY a Q)
 refine bP 2 Q (cH a (λ_=>[]) (λ_=>[]) [] [] Q (λR a y=>?_) (λj a=>?_))
 ·refine aM 2 Q (s_range 0 Q Q Tryz.underlying9 Q (aG 3 Q (bF a (λb=>[]) (λb=>([(0,.ob (.stringIter c b))])) [] [23] [0] k0 Q (λb O a t=>aB [23] Q (aM 1 Q ?_)))));by_cases g:b<c.size;rw[if_pos g]at a;refine s_nextY Q Q Q g (aG 4 Q ?_);refine TC true Q (λ_=>?_) (λh=>by cases h);refine bP 8 Q (fC [(44,.d (.bool ((bif decide (((Utf8.decode c b).1:Int)<97)then(bif decide (((Utf8.decode c b).1:Int)<48)then !(decide (((Utf8.decode c b).1:Int)=95))else((decide (57<((Utf8.decode c b).1:Int)))&&(!(decide (((Utf8.decode c b).1:Int)=95)))))else((decide (122<((Utf8.decode c b).1:Int)))&&(bif decide (((Utf8.decode c b).1:Int)<48)then !(decide (((Utf8.decode c b).1:Int)=95))else((decide (57<((Utf8.decode c b).1:Int)))&&(!(decide (((Utf8.decode c b).1:Int)=95))))))))))] [44] [23] Q ?_ ?_);refine aM 3 Q (SB TK Q (λz e=>?_));cases z;refine aI 3 Q (SB TK Q (λA i=>?_));cases A;refine aF 12 Q ?_;exact⟨[0],Q,k0,bT (aO (aP (by simp[e,i])) Q) Q⟩;refine aI 2 Q (SB TK Q (λB k=>?_));cases B;refine aI 4 Q (SB TK Q (λC n=>?_));cases C;refine aF 4 Q ?_;exact⟨[0],Q,k0,bT (aO (aP (by simp[e,i,k,n])) Q) Q⟩;refine aF 4 Q ?_;exact⟨[0],Q,k0,bT (aO (aP (by simp[e,i,k,n])) Q) Q⟩;refine aF 9 Q ?_;exact⟨[0],Q,k0,bT (aO (aP (by simp[e,i,k])) Q) Q⟩;refine aI 6 Q (SB TK Q (λE l=>?_));cases E;refine aI 4 Q (SB TK Q (λF o=>?_));cases F;refine aF 4 Q ?_;exact⟨[0],Q,k0,bT (aO (aP (by simp[e,l,o])) Q) Q⟩;refine aF 4 Q ?_;exact⟨[0],Q,k0,bT (aO (aP (by simp[e,l,o])) Q) Q⟩;refine aF 9 Q ?_;exact⟨[0],Q,k0,bT (aO (aP (by simp[e,l])) Q) Q⟩;refine aB [23,44] Q (bI a Q (λu a=>?_) (λu a=>?_))
  ·refine aL 6 Q (IE a λL a f=>?_);rw[t _ f]at a;refine WR (bS 1 Q (IE a λM a f=>?_));rw[y _ f]at a;exact WR (aY a Q)
  exact aL 2 Q (cA [0] a Q Q);rw[if_neg g]at a;refine s_nextN Q Q Q g (aG 4 Q (TC false Q (λh=>by cases h) (λ_=>aL 2 Q (IE a λN a f=>?_))));rw[t _ f]at a;exact WX (bS 1 Q (cA [] a Q Q))
 exact aB [] Q (aL 5 Q (aY a Q))
theorem zZ{c:Aa}{r:Int}(a:jH c=some r):RetN TP 81 [c.enc] (.int .i64 r):=by
 refine .unit (aJ (aQ Q) func81 Q ntmps81 Q Q (λwX gX=>?_)) Q;unfold jH at a;refine aB [0] Q (aM 1 Q (bU 0 Q Q Q (aI 6 Q (aX TK Q (GE a λB a=>s_mkC (α:=BA) (f:=D.str) 1 TK Q Q Q qj Q Q Q B (aG 3 Q (aN a (λg=>([(3,.msl 1 1 0 g.length)])) (λg=>([(1,.flat 9 1 (g.map D.str))])) [3] [1] Q (λd1 a=>?_) (λg a=>?_))))))));refine aM 3 Q (aX TK Q (aG 4 Q (bF a (λ(u,k)=>([(3,.msl 1 1 0 k.length),(26,.d (.int .i64 u))])) (λ(u,k)=>([(1,.flat 9 1 (k.map D.str))])) [3,26] [1,24,25] [0,1] k0 Q (λs d9 a a8=>?_))));obtain⟨u,k⟩:=s;refine aB [1,3,24,25,26] Q (bX 5 Q (bY a Q (λO a=>?_) (λO a=>?_)));exact aK 5 Q (VE a λz X a=>dL TK Q X (aI 1 Q (cK 2 Q Q rI Q (aI 7 Q (iE [.tmp 32] TK Q qj (GE a λC a=>fJ (f:=D.str) ([z.name]:List BA) TK Q Q qj Q Q Q Q Q (λh=>absurd h (pS _)) Q eC C Q Q (aI 5 Q (GE a λE a=>bN Q E (aF 2 Q (cA [0,1] a Q Q))))))))));refine aL 2 Q (IE a λb4 a b=>?_);rw[a8 _ b]at a;exact WX (bS 1 Q (aZ [0,1] a Q Q));refine aB [1,3] Q (aK 3 Q (aX TK Q (GE a λF a=>s_mkC (α:=BA) (f:=D.str) 2 TK Q Q Q qj Q Q Q F (aG 3 Q (aN a (λe=>([(6,.msl 2 1 0 e.length)])) (λe=>([(2,.flat 9 1 (e.map D.str))])) [6] [1,3] Q (λc8 a=>?_) (λe a=>?_))))))
 ·refine aM 3 Q (aX TK Q (aG 4 Q (bF a (λ(n,i)=>([(6,.msl 2 1 0 i.length),(43,.d (.int .i64 n))])) (λ(n,i)=>([(2,.flat 9 1 (i.map D.str))])) [6,43] [1,3,41,42] [0,1,2] k0 Q (λs c9 a a3=>?_))));obtain⟨n,i⟩:=s;refine aB [1,3,6,41,42,43] Q (bX 5 Q (bY a Q (λP a=>?_) (λP a=>?_)));exact aK 5 Q (VE a λA Y a=>dL TK Q Y (aI 1 Q (cK 3 Q Q nW Q (aI 7 Q (iE [.tmp 49] TK Q qj (GE a λG a=>fJ (f:=D.str) ([A.name]:List BA) TK Q Q qj Q Q Q Q Q (λh=>absurd h (pS _)) Q eC G Q Q (aI 5 Q (GE a λH a=>bN Q H (aF 2 Q (cA [0,1,2] a Q Q))))))))));refine aL 2 Q (IE a λb5 a b=>?_);rw[a3 _ b]at a;exact WX (bS 1 Q (aZ [0,1,2] a Q Q))
 refine aB [1,3,6] Q ?_;refine Er 3 1 [1,6] Q Q Q Q Q (by simp) Q Q ?_;refine Er 6 2 [1,3] Q Q Q Q Q (by simp) Q Q ?_;refine aK 3 Q (iE [.tmp 54] TK Q qj (aI 4 Q (iE [.tmp 55,.tmp 57,.tmp 58,.tmp 59] TK Q zero22 (aG 3 Q (cH a (λ_=>[]) (λ_=>[]) [] [9] Q (λd0 a a4=>?_) (λj a=>?_))))));refine aM 2 Q (bB Q (oT (f:=(λ(l:List BA)=>D.sl 1 (l.map D.str))) (xs:=([([c.name]:List BA),c.Ai,g,e]:List (List BA))) TK Q Q Q) (aG 4 Q (bF a (λo=>([(63,.d (.int .i64 o))])) (λo=>[]) [63] [9,61,62] [0,1,2] k0 Q (λo d2 a v=>aB [9,61,62,63] Q (bX 5 Q (bY a Q (λR a=>?_) (λR a=>?_)))))))
 ·refine bP 2 Q (cH a (λ_=>[]) (λ_=>[]) [] [9,61,62,63] Q (λd3 a a5=>?_) (λj a=>?_))
  ·refine aM 2 Q (VE a λa9 Z a=>bB Q (jQ (f:=(λ(l:List BA)=>D.sl 1 (l.map D.str))) (xs:=([([c.name]:List BA),c.Ai,g,e]:List (List BA))) TK Q Q Q Q Z) (aI 6 Q (aX TK Q (aG 4 Q (bF a (λp=>([(69,.d (.int .i64 p))])) (λp=>[]) [69] [9,61,62,63,67,68] [0,1,2] k0 Q (λp d4 a w=>aB [9,61,62,63,67,68,69] Q (bX 5 Q (bY a Q (λS a=>?_) (λS a=>?_)))))))))
   ·refine aK 5 Q (VE a λb0 a0 a=>dL TK Q a0 (aI 6 Q (dI a (ea ·) Q λb3 a=>aG 3 Q (bI a Q (λT a=>?_) (λT a=>?_)))))
    ·refine aL 7 Q (IE a λb6 a b=>?_);rw[w _ b]at a;refine WR (bS 2 Q (IE a λb7 a b=>?_));rw[a5 _ b]at a;refine WR (IE a λb8 a b=>?_);rw[v _ b]at a;refine WR (bS 1 Q (IE a λb9 a b=>?_));rw[a4 _ b]at a;exact WR (aY a Q)
    exact aK 4 Q (GE a λI a=>bN Q I (aF 2 Q (cA [0,1,2] a Q Q)))
   refine aL 2 Q (IE a λc0 a b=>?_);rw[w _ b]at a;exact WX (bS 2 Q (cA [0,1,2] a Q Q))
  exact aB [9,61,62,63] Q (aK 1 Q (GE a λJ a=>bN Q J (aF 2 Q (cA [0,1,2] a Q Q))))
 refine aL 2 Q (IE a λc1 a b=>?_);rw[v _ b]at a;exact WX (bS 1 Q (cA [0,1,2] a Q Q));refine aB [9] Q (cH a (λ_=>[]) (λ_=>[]) [] [] Q (λd5 a a6=>?_) (λj a=>?_))
 ·refine aM 2 Q (bB Q (oT (f:=(λ(l:List BA)=>D.sl 1 (l.map D.str))) (xs:=([([c.name]:List BA),c.Ai,g,e]:List (List BA))) TK Q Q Q) (aG 4 Q (bF a (λq=>([(80,.d (.int .i64 q))])) (λq=>[]) [80] [78,79] [0,1,2] k0 Q (λq d6 a x=>aB [78,79,80] Q (bX 5 Q (bY a Q (λU a=>?_) (λU a=>?_)))))))
  ·refine bP 2 Q (cH a (λ_=>[]) (λ_=>[]) [] [78,79,80] Q (λd7 a a7=>?_) (λj a=>?_))
   ·refine aM 2 Q (VE a λb1 a1 a=>bB Q (jQ (f:=(λ(l:List BA)=>D.sl 1 (l.map D.str))) (xs:=([([c.name]:List BA),c.Ai,g,e]:List (List BA))) TK Q Q Q Q a1) (aI 5 Q (lE 9 4 Q (oZ 84 (.mmap 3) Q Q (aI 5 Q (aX TK Q (aG 4 Q (bF a (λ(t,m)=>([(87,.d (.int .i64 t))])) (λ(t,m)=>([(3,.map 9 4 (aV D.str D.bool m))])) [87] [16,78,79,80,85,86] [0,1,2,3] k0 Q (λs d8 a y=>?_)))))))));obtain⟨t,m⟩:=s;refine aB [16,78,79,80,85,86,87] Q (bX 5 Q (bY a Q (λV a=>?_) (λV a=>?_)));refine aK 5 Q (VE a λb2 a2 a=>dL TK Q a2 (aI 8 Q (GE a λK a=>bB Q (vD yC D.bool _ _ false Q mty231 Cb Q Q Q Q K) (aG 2 Q (bI a Q (λW a=>?_) (λW a=>?_))))))
    ·refine aL 8 Q (IE a λc2 a b=>?_);rw[y _ b]at a;refine WR (bS 2 Q (IE a λc3 a b=>?_));rw[a7 _ b]at a;refine WR (IE a λc4 a b=>?_);rw[x _ b]at a;refine WR (bS 1 Q (IE a λc5 a b=>?_));rw[a6 _ b]at a;exact WR (aY a Q)
    exact aK 5 Q (GE a λL a=>bz yC D.bool mty231 Q Q Q Q L (aI 4 Q (GE a λM a=>bN Q M (aF 2 Q (cA [0,1,2,3] a Q Q)))));refine aL 2 Q (IE a λc6 a b=>?_);rw[y _ b]at a;exact WX (bS 2 Q (cA [0,1,2] a Q Q))
   exact aB [78,79,80] Q (aK 1 Q (GE a λN a=>bN Q N (aF 2 Q (cA [0,1,2] a Q Q))))
  refine aL 2 Q (IE a λc7 a b=>?_);rw[x _ b]at a;exact WX (bS 1 Q (cA [0,1,2] a Q Q))
 exact aB [] Q (aL 5 Q (aY a Q))
theorem xY{s:Aa}{r:Bool}(a:iN s=some r):RetN TP 82 [s.enc] (.bool (r)):=by
 refine .unit (aJ (aQ Q) func82 Q ntmps82 Q Q (λwX gX=>?_)) Q;unfold iN at a;refine aB [0] Q (aM 1 Q (bU 0 Q Q Q (aG 3 Q (cH a (λ_=>[]) (λ_=>[]) [] [] Q (λV a q=>?_) (λj a=>?_)))));refine aM 3 Q (aX TK Q (aG 4 Q (bF a (λf=>([(8,.d (.int .i64 f))])) (λf=>[]) [8] [1,6,7] [0] k0 Q (λf X a c=>aB [1,6,7,8] Q (bX 5 Q (bY a Q (λx a=>?_) (λx a=>?_)))))))
 ·refine aK 5 Q (VE a λI y a=>dL TK Q y (aI 1 Q (cK 1 Q Q rI Q (aG 4 Q (aN a (λg=>([(43,.d (.bool (g)))])) (λg=>[]) [43] [1,4,6,7,8] Q (λY a=>?_) (λg a=>?_))))))
  ·refine aM 3 Q (dI a (cY ·) Q λO a=>aI 1 Q (SB TK Q (λz h=>?_)));cases z;replace a:=JB h a;refine aI 2 Q (dI a (cY ·) Q λJ a=>aI 2 Q (SB TK Q (λA i=>?_)));cases A;replace a:=JB i a;refine aI 2 Q (dI a (cY ·) Q λK a=>aI 2 Q (SB TK Q (λB k=>?_)));cases B;replace a:=JB k a;refine aI 2 Q (dI a (cY ·) Q λL a=>aI 2 Q (SB TK Q (λC l=>?_)));cases C;replace a:=JB l a;exact aI 4 Q (aX TK Q (GE a λt a=>bN Q t (dI a (cY ·) Q λM a=>aF 3 Q (aZ [0,1] a Q Q))));replace a:=JA l a;exact aF 10 Q (aZ [0,1] a Q Q);replace a:=JA k a;exact aF 16 Q (aZ [0,1] a Q Q);replace a:=JA i a;exact aF 22 Q (aZ [0,1] a Q Q);replace a:=JA h a;exact aF 28 Q (aZ [0,1] a Q Q)
  refine aB [1,4,6,7,8,43] Q (bI a Q (λv a=>?_) (λv a=>?_))
  ·refine aL 8 Q (IE a λP a b=>?_);rw[c _ b]at a;refine WR (bS 1 Q (IE a λR a b=>?_));rw[q _ b]at a;exact WR (aY a Q)
  refine bP 2 Q (aN a (λe=>([(64,.d (.bool (e)))])) (λe=>[]) [64] [1,6,7,8] Q (λW a=>?_) (λe a=>?_))
  ·refine aM 4 Q (SB TK Q (λE m=>?_));cases E;replace a:=JF m a;refine aI 11 Q (SB TK Q (λF n=>?_));cases F;replace a:=sP n a;exact aF 6 Q (aZ [0,1] a Q Q);replace a:=sO n a;exact aF 6 Q (aZ [0,1] a Q Q);replace a:=JT m a;refine aI 4 Q (dI a (cY ·) Q λN a=>aI 2 Q (SB TK Q (λG o=>?_)));cases G;replace a:=JB o a;refine aI 3 Q (SB TK Q (λH p=>?_));cases H;replace a:=sP p a;exact aF 6 Q (aZ [0,1] a Q Q);replace a:=sO p a;exact aF 6 Q (aZ [0,1] a Q Q);replace a:=JA o a;exact aF 10 Q (aZ [0,1] a Q Q)
  refine aB [1,6,7,8,64] Q (bI a Q (λw a=>?_) (λw a=>?_))
  ·refine aL 7 Q (IE a λS a b=>?_);rw[c _ b]at a;refine WR (bS 1 Q (IE a λT a b=>?_));rw[q _ b]at a;exact WR (aY a Q)
  exact aK 4 Q (GE a λu a=>bN Q u (aF 2 Q (cA [0] a Q Q)))
 refine aL 2 Q (IE a λU a b=>?_);rw[c _ b]at a;exact WX (bS 1 Q (cA [0] a Q Q));exact aB [] Q (aL 5 Q (aY a Q))
theorem kv{i:Aa}{e:Int}{r:(List Int)}(a:mB i e=some r):RetD TP 132 [i.enc,.int .i64 e] (.sl 1 (r.map (D.int .i64))):=by
 refine .of (mv:=λ_=>false) (aJ (aQ Q) func132 Q ntmps132 Q Q (λwX gX=>?_));unfold mB at a;refine aB [0,1] Q (aM 1 Q (bU 0 Q Q Q (aG 4 Q ?_)));refine fC [(16,.d (.bool (((decide (e<0))||(decide ((i.Ai.length:Int)<=e))))))] [16] [1,2] Q ?_ ?_;refine aM 3 Q (SB TK Q (λv j=>?_));cases v;refine aI 3 Q (aX TK Q (aF 3 Q ?_));exact⟨[0],Q,k0,bT (aO (aP (by simp[j])) Q) Q⟩;refine aF 7 Q ?_;exact⟨[0],Q,k0,bT (aO (aP (by simp[j])) Q) Q⟩;refine aB [1,2,16] Q (bI a Q (λp a=>?_) (λp a=>?_))
 ·refine bP 4 Q (sW 4 [some 1] Q (aL 2 Q ?_));obtain rfl:=OJ a;exact EndsS.one _ Q (.d _) (.refl _)
 refine aK 3 Q (iC (f:=(D.int .i64)) 1 3 1 Q Q Q (aG 2 Q (aN a (λb=>([(5,.msl 1 1 0 b.length)])) (λb=>([(1,.flat 3 1 (b.map (D.int .i64)))])) [5] [] Q (λz a=>?_) (λb a=>?_))))
 ·refine aM 3 Q (aX TK Q (aG 4 Q (bF a (λ(g,c)=>([(5,.msl 1 1 0 c.length),(20,.d (.int .i64 g))])) (λ(g,c)=>([(1,.flat 3 1 (c.map (D.int .i64)))])) [5,20] [1,18,19] [0,1] k0 Q (λs y a u=>?_))));obtain⟨g,c⟩:=s;refine aB [1,5,18,19,20] Q (bX 5 Q (bY a Q (λn a=>?_) (λn a=>?_)));refine aK 6 Q (VE a λw q a=>dL TK Q q (aI 1 Q (cK 2 Q Q rI Q (aG 11 Q (bY a Q (λo a=>?_) (λo a=>?_))))))
  ·exact aK 3 Q (iE [.tmp 30] TK Q fL (GE a λk a=>fJ (f:=(D.int .i64)) ([g]:List Int) TK Q Q fL Q Q Q Q Q (λh=>absurd h (pS _)) Q eC k Q Q (aI 5 Q (GE a λl a=>bN Q l (aF 2 Q (cA [0,1] a Q Q))))))
  exact aK 4 Q (GE a λm a=>bN Q m (aF 2 Q (cA [0,1] a Q Q)));refine aL 2 Q (IE a λx a t=>?_);rw[u _ t]at a;exact WX (bS 1 Q (aZ [0,1] a Q Q))
 refine aB [5] Q (aL 6 Q ?_);obtain rfl:=OJ a;exact EndsS.one _ Q (aW Q) (.refl _)
theorem wT{f:Aa}{r:Bool}(a:gW f=some r):RetN TP 83 [f.enc] (.bool (r)):=by
 refine .unit (aJ (aQ Q) func83 Q ntmps83 Q Q (λwX gX=>?_)) Q;unfold gW at a;refine aB [0] Q (aM 1 Q (bU 0 Q Q Q (aG 3 Q (cH a (λ_=>[]) (λ_=>[]) [] [] Q (λp a k=>?_) (λj a=>?_)))));refine aM 3 Q (aX TK Q (aG 4 Q (bF a (λc=>([(7,.d (.int .i64 c))])) (λc=>[]) [7] [1,6] [0] k0 Q (λc q a e=>aB [1,6,7] Q (bX 5 Q (bY a Q (λh a=>?_) (λh a=>?_)))))))
 ·refine aK 12 Q (iK a (kv ·) Q λl a=>aX TK Q (aG 3 Q (bY a Q (λi a=>?_) (λi a=>?_))))
  ·refine aL 7 Q (IE a λn a b=>?_);rw[e _ b]at a;refine WR (bS 1 Q (IE a λo a b=>?_));rw[k _ b]at a;exact WR (aY a Q)
  exact aK 4 Q (GE a λg a=>bN Q g (aF 2 Q (cA [0] a Q Q)))
 refine aL 2 Q (IE a λm a b=>?_);rw[e _ b]at a;exact WX (bS 1 Q (cA [0] a Q Q));exact aB [] Q (aL 5 Q (aY a Q))
theorem em{b:Int}{r:Int}(a:pX b=some r):RetN TP 93 [.int .i64 b] (.int .i64 r):=by
 refine .unit (aJ (aQ Q) func93 Q ntmps93 Q Q (λwX gX=>?_)) Q;unfold pX at a;refine aB [0] Q (bX 5 Q ?_);refine fC [(8,.d (.bool (((decide (b<0))||(decide (4<=b))))))] [8] [0] Q ?_ ?_;refine aM 3 Q (SB TK Q (λg c=>?_));cases g;refine aF 4 Q ?_;exact⟨[],Q,k0,bT (aO (aP (by simp[c])) Q) Q⟩;refine aF 4 Q ?_;exact⟨[],Q,k0,bT (aO (aP (by simp[c])) Q) Q⟩;refine aB [0,8] Q (bI a Q (λe a=>?_) (λe a=>?_))
 ·exact aL 6 Q (aY a Q)
 exact aK 4 Q (VE a λh f a=>s_ldGI (xs:=sides) Q Q Tryz.underlying241 lay3 (xC _ qW) Q Q f (aF 4 Q (aY a Q)))
theorem kX{e:Aa}{f:End}{r:Bool}(a:jO e f=some r):RetN TP 133 [e.enc,f.enc] (.bool (r)):=by
 refine .unit (aJ (aQ Q) func133 Q ntmps133 Q Q (λwX gX=>?_)) Q;unfold jO at a;refine aB [0,1] Q (aM 1 Q (bU 0 Q Q Q (bU 1 Q Q Q (aG 3 Q (aN a (λb=>([(4,.d (.bool (b)))])) (λb=>[]) [4] [] Q (λo a=>?_) (λb a=>?_))))));refine fU follows ?_;iterate 4 (refine DA [0,1] TK Q ?_)
 refine aU [0,1] Q (oT TK Q Q Q) (GE a λg a=>aU [0,1] Q (mG Q Q Q Q g) (gA [0,1] a (cY ·) Q λl a=>bn [0,1] TK Q (λj c=>?_)));cases j;replace a:=JB c a;iterate 13 (refine DA [0,1] TK Q ?_)
 refine DT ?_ (by kernel_rfl);exact aF 2 Q (aZ [0,1] a Q Q);replace a:=JA c a;iterate 6 (refine DA [0,1] TK Q ?_)
 refine VE a λk i a=>aU [0,1] Q (jQ TK Q Q Q Q i) ?_;iterate 2 (refine DA [0,1] TK Q ?_)
 refine gA [0,1] a (em ·) Q λm a=>GE a λh a=>aU [0,1] Q (mG Q Q Q Q h) (gA [0,1] a (cY ·) Q λn a=>DA [0,1] TK Q ?_);refine DT ?_ (by kernel_rfl);exact aF 2 Q (aZ [0,1] a Q Q);exact aB [4] Q (aL 1 Q (aY a Q))
theorem ey{u:Aa}{r:Int}(c:gU u=some (none,r)):Ret TP 84 [] (λ_=>false) ([u.enc].map .d) (.tup [.d .nilmap,.d (.int .i64 r)]) []:=by
 refine eB (aQ Q) func84 Q ntmps84 Q Q (λwX gX=>?_);unfold gU at c;refine aB [0] Q (aM 1 Q (bU 0 Q Q Q (aG 4 Q (cH c (λ_=>[]) (λ_=>[]) [] [1] Q (λX c I=>?_) (λj c=>?_)))));refine aM 3 Q (aX TK Q (aG 4 Q (bF c (λk=>([(16,.d (.int .i64 k))])) (λk=>[]) [16] [1,14,15] [0] k0 Q (λk a0 c t=>aB [1,14,15,16] Q (bX 5 Q (bY c Q (λF c=>?_) (λF c=>?_)))))))
 ·refine aK 5 Q (VE c λN H c=>dL TK Q H (aI 1 Q (cK 1 Q Q sX Q (aG 3 Q (aN c (λl=>([(38,.d (.bool (l)))])) (λl=>[]) [38] [1,14,15,16] Q (λa1 c=>?_) (λl c=>?_))))))
  ·refine aM 4 Q (dI c (kX ·) Q λP c=>aI 1 Q (SB TK Q (λK n=>?_)));cases K;replace c:=JB n c;refine aI 3 Q (dI c (kX ·) Q λO c=>aI 2 Q (SB TK Q (λL o=>?_)));cases L;replace c:=JB o c;exact aI 4 Q (GE c λm c=>bB Q (Bg Q Q Q m.1 m.2) (aF 2 Q (aZ [0,1] c Q Q)));replace c:=JA o c;exact aF 7 Q (aZ [0,1] c Q Q);replace c:=JA n c;exact aF 14 Q (aZ [0,1] c Q Q)
  refine aB [1,14,15,16,38] Q (bI c Q (λB c=>?_) (λB c=>?_))
  ·refine aL 8 Q (IE c λR c e=>?_);rw[t _ e]at c;refine WR (bS 1 Q (IE c λS c e=>?_));rw[I _ e]at c;refine WR ?_;cases c;exact⟨_,[],res Q,by decide,k0,Q,Q⟩
  exact aK 4 Q (GE c λv c=>bN Q v (aF 2 Q (cA [0] c Q Q)))
 refine aL 2 Q (IE c λT c e=>?_);rw[t _ e]at c;exact WX (bS 1 Q (cA [0] c Q Q));refine aB [1] Q (aK 1 Q (lE 128 128 Q (oZ 40 (.mmap 1) Q Q (aG 3 Q (cH c (λh=>[]) (λh=>([(1,.map 128 128 (aV End.enc End.enc h))])) [] [6] Q (λY c J=>?_) (λh c=>?_))))))
 ·refine aM 3 Q (aX TK Q (aG 4 Q (bF c (λ(i,f)=>([(44,.d (.int .i64 i))])) (λ(i,f)=>([(1,.map 128 128 (aV End.enc End.enc f))])) [44] [6,42,43] [0,1] k0 Q (λs Z c q=>?_))));obtain⟨i,f⟩:=s;refine aB [6,42,43,44] Q (bX 5 Q (bY c Q (λC c=>?_) (λC c=>?_)));refine aK 5 Q (VE c λg G c=>dL TK Q G (aI 1 Q (cK 2 Q Q sX Q (aI 7 Q (GE c λw c=>bB Q (cz rQ rT End.enc _ _ (⟨(0:Int),(0:Int)⟩:End) Q vQ cQ Q Q Q Q w) (aI 3 Q (cK 3 Q Q cQ Q (aI 8 Q (GE c λx c=>bB Q (cz rQ rT End.enc _ _ (⟨(0:Int),(0:Int)⟩:End) Q vQ cQ Q Q Q Q x) (aI 3 Q (cK 4 Q Q cQ Q (aG 4 Q (aB [6,8,10,12,42,43,44] Q (bP 1 Q ?_))))))))))))));refine fC [(65,.d (.bool ((((bH f g.a).isSome)||((bH f g.b).isSome)))))] [65] [6,8,42,43,44] Q ?_ ?_;refine aM 2 Q (SB TK Q (λM p=>?_));cases M;refine aF 3 Q ?_;exact⟨[0,1,2,3,4],Q,k0,bT (aO (aP (by simp[p])) Q) Q⟩;refine aF 3 Q ?_;exact⟨[0,1,2,3,4],Q,k0,bT (aO (aP (by simp[p])) Q) Q⟩;refine aB [6,8,42,43,44,65] Q (bI c Q (λE c=>?_) (λE c=>?_))
  ·refine aL 9 Q (IE c λU c e=>?_);rw[q _ e]at c;refine WR (bS 1 Q (IE c λV c e=>?_));rw[J _ e]at c;refine WR ?_;cases c;exact⟨_,[],res Q,by decide,k0,Q,Q⟩
  refine bP 2 Q (eV follows ?_);iterate 2 (refine DA [] TK Q ?_)
  refine DA [2] TK Q ?_;iterate 2 (refine DA [] TK Q ?_)
  refine DA [2] TK Q (DA [] TK Q (DA [2] TK Q (DA [] TK Q (DA [2] TK Q (GE c λy c=>qT 1000012 [1] [(1,.map 128 128 (aV End.enc End.enc (lP f g.a g.b)))] (dZ Q) Q (w_putG rQ rT End.enc Q Q vQ Q Q Q Q y) ?_)))));refine DT ?_ (by kernel_rfl);exact GE c λz c=>s_putG rQ rT End.enc vQ Q Q Q Q z (aG 3 Q (aB [6,42,43,44] Q (aK 1 Q (GE c λA c=>bN Q A (aF 2 Q (cA [0,1] c Q Q))))));refine aL 2 Q (IE c λW c e=>?_);rw[q _ e]at c;exact WX (bS 1 Q (cA [0,1] c Q Q))
 refine aB [6] Q (aL 7 Q ?_);cases c
theorem ex{v:Aa}{q:(List (End×End))}{r:Int}(c:gU v=some (some q,r)):Ret TP 84 [] (λ_=>false) ([v.enc].map .d) (.tup [.mmap 0,.d (.int .i64 r)]) [.map 128 128 (aV End.enc End.enc q)]:=by
 refine eB (aQ Q) func84 Q ntmps84 Q Q (λwX gX=>?_);unfold gU at c;refine aB [0] Q (aM 1 Q (bU 0 Q Q Q (aG 4 Q (cH c (λ_=>[]) (λ_=>[]) [] [1] Q (λY c J=>?_) (λj c=>?_)))));refine aM 3 Q (aX TK Q (aG 4 Q (bF c (λk=>([(16,.d (.int .i64 k))])) (λk=>[]) [16] [1,14,15] [0] k0 Q (λk a1 c u=>aB [1,14,15,16] Q (bX 5 Q (bY c Q (λG c=>?_) (λG c=>?_)))))))
 ·refine aK 5 Q (VE c λO I c=>dL TK Q I (aI 1 Q (cK 1 Q Q sX Q (aG 3 Q (aN c (λl=>([(38,.d (.bool (l)))])) (λl=>[]) [38] [1,14,15,16] Q (λa2 c=>?_) (λl c=>?_))))))
  ·refine aM 4 Q (dI c (kX ·) Q λR c=>aI 1 Q (SB TK Q (λL n=>?_)));cases L;replace c:=JB n c;refine aI 3 Q (dI c (kX ·) Q λP c=>aI 2 Q (SB TK Q (λM o=>?_)));cases M;replace c:=JB o c;exact aI 4 Q (GE c λm c=>bB Q (Bg Q Q Q m.1 m.2) (aF 2 Q (aZ [0,1] c Q Q)));replace c:=JA o c;exact aF 7 Q (aZ [0,1] c Q Q);replace c:=JA n c;exact aF 14 Q (aZ [0,1] c Q Q)
  refine aB [1,14,15,16,38] Q (bI c Q (λC c=>?_) (λC c=>?_))
  ·refine aL 8 Q (IE c λS c e=>?_);rw[u _ e]at c;refine WR (bS 1 Q (IE c λT c e=>?_));rw[J _ e]at c;refine WR ?_;cases c
  exact aK 4 Q (GE c λw c=>bN Q w (aF 2 Q (cA [0] c Q Q)))
 refine aL 2 Q (IE c λU c e=>?_);rw[u _ e]at c;exact WX (bS 1 Q (cA [0] c Q Q));refine aB [1] Q (aK 1 Q (lE 128 128 Q (oZ 40 (.mmap 1) Q Q (aG 3 Q (cH c (λh=>[]) (λh=>([(1,.map 128 128 (aV End.enc End.enc h))])) [] [6] Q (λZ c K=>?_) (λh c=>?_))))))
 ·refine aM 3 Q (aX TK Q (aG 4 Q (bF c (λ(i,f)=>([(44,.d (.int .i64 i))])) (λ(i,f)=>([(1,.map 128 128 (aV End.enc End.enc f))])) [44] [6,42,43] [0,1] k0 Q (λs a0 c t=>?_))));obtain⟨i,f⟩:=s;refine aB [6,42,43,44] Q (bX 5 Q (bY c Q (λE c=>?_) (λE c=>?_)));refine aK 5 Q (VE c λg H c=>dL TK Q H (aI 1 Q (cK 2 Q Q sX Q (aI 7 Q (GE c λx c=>bB Q (cz rQ rT End.enc _ _ (⟨(0:Int),(0:Int)⟩:End) Q vQ cQ Q Q Q Q x) (aI 3 Q (cK 3 Q Q cQ Q (aI 8 Q (GE c λy c=>bB Q (cz rQ rT End.enc _ _ (⟨(0:Int),(0:Int)⟩:End) Q vQ cQ Q Q Q Q y) (aI 3 Q (cK 4 Q Q cQ Q (aG 4 Q (aB [6,8,10,12,42,43,44] Q (bP 1 Q ?_))))))))))))));refine fC [(65,.d (.bool ((((bH f g.a).isSome)||((bH f g.b).isSome)))))] [65] [6,8,42,43,44] Q ?_ ?_;refine aM 2 Q (SB TK Q (λN p=>?_));cases N;refine aF 3 Q ?_;exact⟨[0,1,2,3,4],Q,k0,bT (aO (aP (by simp[p])) Q) Q⟩;refine aF 3 Q ?_;exact⟨[0,1,2,3,4],Q,k0,bT (aO (aP (by simp[p])) Q) Q⟩;refine aB [6,8,42,43,44,65] Q (bI c Q (λF c=>?_) (λF c=>?_))
  ·refine aL 9 Q (IE c λV c e=>?_);rw[t _ e]at c;refine WR (bS 1 Q (IE c λW c e=>?_));rw[K _ e]at c;refine WR ?_;cases c
  refine bP 2 Q (eV follows ?_);iterate 2 (refine DA [] TK Q ?_)
  refine DA [2] TK Q ?_;iterate 2 (refine DA [] TK Q ?_)
  refine DA [2] TK Q (DA [] TK Q (DA [2] TK Q (DA [] TK Q (DA [2] TK Q (GE c λz c=>qT 1000024 [1] [(1,.map 128 128 (aV End.enc End.enc (lP f g.a g.b)))] (dZ Q) Q (w_putG rQ rT End.enc Q Q vQ Q Q Q Q z) ?_)))));refine DT ?_ (by kernel_rfl);exact GE c λA c=>s_putG rQ rT End.enc vQ Q Q Q Q A (aG 3 Q (aB [6,42,43,44] Q (aK 1 Q (GE c λB c=>bN Q B (aF 2 Q (cA [0,1] c Q Q))))));refine aL 2 Q (IE c λX c e=>?_);rw[t _ e]at c;exact WX (bS 1 Q (cA [0,1] c Q Q))
 refine aB [6] Q (aL 7 Q ?_);cases c;exact⟨_,[1],res Q,by decide,k0,Q,Q⟩
theorem kY{g:Aa}{h:End}{r:Int}(a:gE g h=some r):RetN TP 56 [g.enc,h.enc] (.int .i64 r):=by
 refine .unit (aJ (aQ Q) func56 Q ntmps56 Q Q (λwX gX=>?_)) Q;unfold gE at a;refine aB [0,1] Q (aM 1 Q (bU 0 Q Q Q (bU 1 Q Q Q (aG 3 Q (cH a (λ_=>[]) (λ_=>[]) [] [] Q (λt a n=>?_) (λj a=>?_))))));refine aM 3 Q (aX TK Q (aG 4 Q (bF a (λc=>([(10,.d (.int .i64 c))])) (λc=>[]) [10] [3,8,9] [0,1] k0 Q (λc u a f=>aB [3,8,9,10] Q (bX 5 Q (bY a Q (λk a=>?_) (λk a=>?_)))))))
 ·refine aK 6 Q (VE a λo m a=>dL TK Q m (aI 1 Q (cK 2 Q Q nW Q (aI 8 Q (GE a λe a=>bB Q (Bg Q Q Q e.1 e.2) (aG 2 Q (bY a Q (λl a=>?_) (λl a=>?_))))))))
  ·refine bP 5 Q (aB [4] Q (aL 3 Q (IE a λp a b=>?_)));rw[f _ b]at a;refine WR (bS 1 Q (IE a λq a b=>?_));rw[n _ b]at a;exact WR (aY a Q)
  exact aK 4 Q (GE a λi a=>bN Q i (aF 2 Q (cA [0,1] a Q Q)))
 refine aL 2 Q (IE a λs a b=>?_);rw[f _ b]at a;exact WX (bS 1 Q (cA [0,1] a Q Q));exact aB [] Q (aL 5 Q (aY a Q))
theorem eN{c:Aa}{b:Int}{r:Int}(a:dD c b=some r):RetN TP 15 [c.enc,.int .i64 b] (.int .i64 r):=by
 refine .unit (aJ (aQ Q) func15 Q ntmps15 Q Q (λwX gX=>?_)) Q;unfold dD at a;refine aB [0,1] Q (aM 1 Q (bU 0 Q Q Q (aG 4 Q ?_)));refine fC [(13,.d (.bool (((decide (b<0))||(decide ((c.Ad.length:Int)<=b))))))] [13] [1,2] Q ?_ ?_;refine aM 3 Q (SB TK Q (λh e=>?_));cases h;refine aI 3 Q (aX TK Q (aF 3 Q ?_));exact⟨[0],Q,k0,bT (aO (aP (by simp[e])) Q) Q⟩;refine aF 7 Q ?_;exact⟨[0],Q,k0,bT (aO (aP (by simp[e])) Q) Q⟩;refine aB [1,2,13] Q (bI a Q (λf a=>?_) (λf a=>?_))
 ·exact aL 6 Q (aY a Q)
 exact aK 6 Q (VE a λi g a=>dL TK Q g (aF 6 Q (aY a Q)))
theorem wV{n:Aa}{r:Int}(a:hO n=some r):RetN TP 86 [n.enc] (.int .i64 r):=by
 refine .unit (aJ (aQ Q) func86 Q ntmps86 Q Q (λwX gX=>?_)) Q;unfold hO at a;refine aB [0] Q (aM 1 Q (bU 0 Q Q Q (aG 3 Q (cH a (λ_=>[]) (λ_=>[]) [] [1] Q (λU a C=>?_) (λj a=>?_)))));refine aM 3 Q (aX TK Q (aG 4 Q (bF a (λg=>([(11,.d (.int .i64 g))])) (λg=>[]) [11] [1,9,10] [0] k0 Q (λg X a m=>aB [1,9,10,11] Q (bX 5 Q (bY a Q (λy a=>?_) (λy a=>?_)))))))
 ·refine aK 5 Q (VE a λJ B a=>dL TK Q B (aI 1 Q (cK 1 Q Q rH Q (aG 3 Q (aN a (λh=>([(41,.d (.bool (h)))])) (λh=>[]) [41] [1,9,10,11] Q (λY a=>?_) (λh a=>?_))))))
  ·refine fU follows ?_;iterate 2 (refine DA [0,1] TK Q ?_)
   refine gA [0,1] a (cY ·) Q λM a=>DA [0,1] TK Q (bn [0,1] TK Q (λF i=>?_));cases F;replace a:=JB i a;iterate 4 (refine DA [0,1] TK Q ?_)
   refine aU [0,1] Q (oT TK Q Q Q) (GE a λo a=>aU [0,1] Q (mG Q Q Q Q o) (gA [0,1] a (cY ·) Q λK a=>?_));iterate 2 (refine DA [0,1] TK Q ?_)
   refine bn [0,1] TK Q (λG k=>?_);cases G;replace a:=JB k a;iterate 6 (refine DA [0,1] TK Q ?_)
   refine VE a λH z a=>aU [0,1] Q (jQ TK Q Q Q Q z) ?_;iterate 2 (refine DA [0,1] TK Q ?_)
   refine gA [0,1] a (cY ·) Q λL a=>?_;iterate 2 (refine DA [0,1] TK Q ?_)
   refine DT ?_ (by kernel_rfl);exact aF 1 Q (aZ [0,1] a Q Q);replace a:=JA k a;iterate 12 (refine DA [0,1] TK Q ?_)
   refine DT ?_ (by kernel_rfl);exact aF 1 Q (aZ [0,1] a Q Q);replace a:=JA i a;iterate 22 (refine DA [0,1] TK Q ?_)
   refine DT ?_ (by kernel_rfl);exact aF 1 Q (aZ [0,1] a Q Q)
  refine aB [1,9,10,11,41] Q (bI a Q (λv a=>?_) (λv a=>?_))
  ·refine aL 7 Q (IE a λN a b=>?_);rw[m _ b]at a;refine WR (bS 1 Q (IE a λO a b=>?_));rw[C _ b]at a;exact WR (aY a Q)
  exact aK 4 Q (GE a λp a=>bN Q p (aF 2 Q (cA [0] a Q Q)))
 refine aL 2 Q (IE a λP a b=>?_);rw[m _ b]at a;exact WX (bS 1 Q (cA [0] a Q Q));refine aB [1] Q (aK 1 Q (lE 3 4 Q (oZ 43 (.mmap 1) Q Q (aG 3 Q (cH a (λe=>[]) (λe=>([(1,.map 3 4 (aV (D.int .i64) D.bool e))])) [] [] Q (λV a E=>?_) (λe a=>?_))))))
 ·refine aM 3 Q (aX TK Q (aG 4 Q (bF a (λ(f,c)=>([(47,.d (.int .i64 f))])) (λ(f,c)=>([(1,.map 3 4 (aV (D.int .i64) D.bool c))])) [47] [5,45,46] [0,1] k0 Q (λs W a l=>?_))));obtain⟨f,c⟩:=s;refine aB [5,45,46,47] Q (bX 5 Q (bY a Q (λw a=>?_) (λw a=>?_)));refine aK 5 Q (VE a λI A a=>dL TK Q A (aI 1 Q (cK 2 Q Q rH Q (aI 8 Q (GE a λq a=>bB Q (vD (fT .i64) D.bool _ _ false Q ve Cb Q Q Q Q q) (aG 2 Q (bI a Q (λx a=>?_) (λx a=>?_))))))))
  ·refine aL 8 Q (IE a λR a b=>?_);rw[l _ b]at a;refine WR (bS 1 Q (IE a λS a b=>?_));rw[E _ b]at a;exact WR (aY a Q)
  exact aK 6 Q (GE a λt a=>bz (fT .i64) D.bool ve Q Q Q Q t (aI 4 Q (GE a λu a=>bN Q u (aF 2 Q (cA [0,1] a Q Q)))));refine aL 2 Q (IE a λT a b=>?_);rw[l _ b]at a;exact WX (bS 1 Q (cA [0,1] a Q Q))
 exact aB [] Q (aL 5 Q (aY a Q))
theorem wU{p:Aa}{c:(List (End×End))}{r:Int}(a:gZ p c=some r):Ret TP 85 [.map 128 128 (aV End.enc End.enc c)] (λ_=>false) [.d (p.enc),.mmap 0] (.d (.int .i64 r)) [.map 128 128 (aV End.enc End.enc c)]:=by
 refine eB (aQ Q) func85 Q ntmps85 Q Q (λwX gX=>?_);unfold gZ at a;refine aB [0,1] Q (aM 1 Q (bU 1 Q Q Q (aG 3 Q (cH a (λ_=>[]) (λ_=>[]) [] [1,2] Q (λa2 a F=>?_) (λj a=>?_)))));refine aM 3 Q (aX TK Q (aG 4 Q (bF a (λf=>([(16,.d (.int .i64 f))])) (λf=>[]) [16] [1,2,14,15] [0,1] (kB Q) Q (λf a8 a o=>aB [1,2,14,15,16] Q (bX 5 Q (bY a Q (λA a=>?_) (λA a=>?_)))))))
 ·refine aK 5 Q (VE a λM E a=>dL TK Q E (aI 1 Q (cK 2 Q Q nW Q (aG 3 Q (aN a (λi=>([(30,.d (.bool (i)))])) (λi=>[]) [30] [1,2,14,15,16] Q (λa9 a=>?_) (λi a=>?_))))))
  ·refine aM 4 Q (dI a (kX ·) Q λS a=>aI 1 Q (SB TK Q (λI k=>?_)));cases I;replace a:=JB k a;exact aI 2 Q (dI a (cY ·) Q λN a=>aF 3 Q (zJ [0,1,2] a Q (kB Q) Q));replace a:=JA k a;exact aF 6 Q (zJ [0,1,2] a Q (kB Q) Q)
  refine aB [1,2,14,15,16,30] Q (bI a Q (λv a=>?_) (λv a=>?_))
  ·refine aL 7 Q (IE a λT a b=>?_);rw[o _ b]at a;refine WR (bS 1 Q (IE a λU a b=>?_));rw[F _ b]at a;refine WR ?_;obtain rfl:=OJ a;exact⟨_,[0],res Q,by decide,(kB Q),Q,Q⟩
  exact aK 4 Q (GE a λq a=>bN Q q (aF 2 Q (wL [0,1] a Q (kB Q) Q)))
 refine aL 2 Q (IE a λV a b=>?_);rw[o _ b]at a;exact WX (bS 1 Q (wL [0,1] a Q (kB Q) Q));refine aB [1,2] Q (cH a (λ_=>[]) (λ_=>[]) [] [1,2] Q (λa3 a G=>?_) (λj a=>?_))
 ·refine aM 3 Q (aX TK Q (aG 4 Q (bF a (λe=>([(35,.d (.int .i64 e))])) (λe=>[]) [35] [1,2,33,34] [0,1] (kB Q) Q (λe a4 a m=>aB [1,2,33,34,35] Q (bX 5 Q (bY a Q (λw a=>?_) (λw a=>?_)))))))
  ·refine aK 6 Q (VE a λK B a=>dL TK Q B (aI 1 Q (cK 2 Q Q nW Q (aI 8 Q (dI a (kY ·) Q λO a=>aG 4 Q (mT a Q (λx a=>?_) (λx a=>?_)))))))
   ·refine bP 4 Q (aB [4] Q (aL 3 Q (IE a λW a b=>?_)));rw[m _ b]at a;refine WR (bS 1 Q (IE a λX a b=>?_));rw[G _ b]at a;refine WR ?_;obtain rfl:=OJ a;exact⟨_,[0],res Q,by decide,(kB Q),Q,Q⟩
   exact aK 4 Q (GE a λs a=>bN Q s (aF 2 Q (wL [0,1] a Q (kB Q) Q)))
  refine aL 2 Q (IE a λY a b=>?_);rw[m _ b]at a;exact WX (bS 1 Q (wL [0,1] a Q (kB Q) Q))
 refine aB [1,2] Q (cH a (λ_=>[]) (λ_=>[]) [] [] Q (λa5 a H=>?_) (λj a=>?_))
 ·refine aM 3 Q (aX TK Q (aG 4 Q (bF a (λg=>([(50,.d (.int .i64 g))])) (λg=>[]) [50] [1,2,48,49] [0,1] (kB Q) Q (λg a6 a n=>aB [1,2,48,49,50] Q (bX 5 Q (bY a Q (λy a=>?_) (λy a=>?_)))))))
  ·refine aK 5 Q (VE a λL C a=>dL TK Q C (aI 1 Q (cK 2 Q Q nW Q (aI 7 Q (GE a λt a=>bB Q (cz rQ rT End.enc _ _ (⟨(0:Int),(0:Int)⟩:End) Q vQ cQ Q Q Q Q t) (aI 3 Q (cK 3 Q Q cQ Q (aG 4 Q (aN a (λh=>([(74,.d (.bool (h)))])) (λh=>[]) [74] [1,2,48,49,50] Q (λa7 a=>?_) (λh a=>?_))))))))))
   ·refine fU follows ?_;iterate 2 (refine DA [0,1,2,3] TK Q ?_)
    refine bn [0,1,2,3] TK Q (λJ l=>?_);cases J;replace a:=JB l a;iterate 3 (refine DA [0,1,2,3] TK Q ?_)
    refine gA [0,1,2,3] a (eN ·) Q λP a=>?_;iterate 4 (refine DA [0,1,2,3] TK Q ?_)
    refine gA [0,1,2,3] a (eN ·) Q λR a=>?_;iterate 2 (refine DA [0,1,2,3] TK Q ?_)
    refine DT ?_ (by kernel_rfl);exact aF 1 Q (zJ [0,1,2,3] a Q (kB Q) Q);replace a:=JA l a;iterate 11 (refine DA [0,1,2,3] TK Q ?_)
    refine DT ?_ (by kernel_rfl);exact aF 1 Q (zJ [0,1,2,3] a Q (kB Q) Q)
   refine aB [1,2,48,49,50,74] Q (bI a Q (λz a=>?_) (λz a=>?_))
   ·refine aL 7 Q (IE a λZ a b=>?_);rw[n _ b]at a;refine WR (bS 1 Q (IE a λa0 a b=>?_));rw[H _ b]at a;refine WR ?_;obtain rfl:=OJ a;exact⟨_,[0],res Q,by decide,(kB Q),Q,Q⟩
   exact aK 4 Q (GE a λu a=>bN Q u (aF 2 Q (wL [0,1] a Q (kB Q) Q)))
  refine aL 2 Q (IE a λa1 a b=>?_);rw[n _ b]at a;exact WX (bS 1 Q (wL [0,1] a Q (kB Q) Q))
 refine aB [] Q (aL 5 Q ?_);obtain rfl:=OJ a;exact⟨_,[0],res Q,by decide,(kB Q),Q,Q⟩
theorem xZ{f:Aa}{r:Int}(a:mM f=some r):RetN TP 35 [f.enc] (.int .i64 r):=by
 refine .unit (aJ (aQ Q) func35 Q ntmps35 Q Q (λwX gX=>?_)) Q;unfold mM at a;refine aB [0] Q (aM 1 Q (bU 0 Q Q Q (aI 6 Q (dI a (cm ·) Q λs a=>aG 3 Q (bI a Q (λl a=>?_) (λl a=>?_))))));exact aL 6 Q (aY a Q);refine aK 5 Q (dI a (zZ ·) Q λv a=>aG 8 Q (mT a Q (λm a=>?_) (λm a=>?_)))
 ·exact aL 7 Q (aY a Q)
 refine bP 3 Q (aN a (λb=>([(22,.d (.bool (b)))])) (λb=>[]) [22] [1] Q (λy a=>?_) (λb a=>?_))
 ·refine aM 2 Q (dI a (xY ·) Q λw a=>aI 1 Q (SB TK Q (λp c=>?_)));cases p;replace a:=JB c a;exact aI 1 Q (dI a (wT ·) Q λx a=>aF 3 Q (aZ [0] a Q Q));replace a:=JA c a;exact aF 5 Q (aZ [0] a Q Q)
 refine aB [1,22] Q (bI a Q (λh a=>?_) (λh a=>?_))
 ·exact aL 6 Q (aY a Q)
 refine aK 4 Q ?_;obtain⟨⟨o,g⟩,e,a⟩:=BI a
 cases o with
 |none=>
  dsimp only at a;refine kM Q Q Q (ey e) Q Q (oZ 25 (.tup [.d .nilmap,.d (.int .i64 g)]) Q Q (aG 13 Q (mT a Q (λi a=>?_) (λi a=>?_))));exact aL 7 Q (aY a Q);refine aK 6 Q ?_;cases a
 |some q=>
  dsimp only at a;refine kM Q Q Q (ex e) Q Q (oZ 25 (.tup [.mmap 1,.d (.int .i64 g)]) Q Q (aG 13 Q (mT a Q (λj a=>?_) (λj a=>?_))));exact aL 7 Q (aY a Q);refine aK 6 Q (BE a λt n a=>z_callH [1] (wU n) Q (aG 8 Q (mT a Q (λk a=>?_) (λk a=>?_))))
  ·exact bP 5 Q (aB [2] Q (aL 2 Q (aY a Q)))
  exact bP 2 Q (aB [1] Q (aK 2 Q (dI a (wV ·) Q λu a=>aF 4 Q (aY a Q))))
theorem wa{i:Aa}{k:End}{l:End}{m:Bool}(a:gF i k=some (l,m)):Ret TP 87 [] (λ_=>false) ([i.enc,k.enc].map .d) (.tup ([l.enc,.bool (m)].map .d)) []:=by
 refine fD (aQ Q) func87 Q ntmps87 Q Q (λwX gX=>?_);unfold gF at a;refine aB [0,1] Q (aM 1 Q (bU 0 Q Q Q (bU 1 Q Q Q (cK 2 Q Q cQ Q (aG 3 Q (cH a (λ_=>[]) (λ_=>[]) [] [4] Q (λy a h=>?_) (λj a=>?_)))))));refine aM 3 Q (aX TK Q (aG 4 Q (bF a (λe=>([(11,.d (.int .i64 e))])) (λe=>[]) [11] [3,4,9,10] [0,1,2] k0 Q (λe z a c=>aB [3,4,9,10,11] Q (bX 5 Q (bY a Q (λp a=>?_) (λp a=>?_)))))))
 ·refine aK 5 Q (VE a λs r a=>dL TK Q r (aI 1 Q (cK 3 Q Q sX Q (aI 8 Q (GE a λg a=>bB Q (Bg Q Q Q g.1 g.2) (aG 2 Q (bY a Q (λq a=>?_) (λq a=>?_))))))))
  ·refine aL 11 Q (IE a λt a b=>?_);rw[c _ b]at a;refine WR (bS 1 Q (IE a λu a b=>?_));rw[h _ b]at a;refine WR ?_;obtain⟨rfl,rfl⟩:=bJ (aS a);exact⟨_,.mk _ (.cons (.agg (TK.lay Q) Q Q Q Q) (.cons (.tmp 5) .nil)) Q,(.cons (.d _) (.refl _) (.cons (.d _) (.refl _) .nil))⟩
  refine aK 6 Q (GE a λf a=>bB Q (Bg Q Q Q f.1 f.2) (aG 2 Q (bY a Q (λo a=>?_) (λo a=>?_))))
  ·refine bP 7 Q (aB [4,5] Q (aL 3 Q (IE a λv a b=>?_)));rw[c _ b]at a;refine WR (bS 1 Q (IE a λw a b=>?_));rw[h _ b]at a;refine WR ?_;obtain⟨rfl,rfl⟩:=bJ (aS a);exact⟨_,.mk _ (.cons (.agg (TK.lay Q) Q Q Q Q) (.cons (.tmp 5) .nil)) Q,(.cons (.d _) (.refl _) (.cons (.d _) (.refl _) .nil))⟩
  exact aK 4 Q (GE a λn a=>bN Q n (aF 2 Q (cA [0,1,2] a Q Q)))
 refine aL 2 Q (IE a λx a b=>?_);rw[c _ b]at a;exact WX (bS 1 Q (cA [0,1,2] a Q Q));refine aB [4] Q (aK 1 Q (bB Q (bR Q pC cQ Q Q Q Q) (aF 5 Q ?_)));obtain⟨rfl,rfl⟩:=bJ (aS a);exact⟨_,.mk _ (.cons (.agg (TK.lay Q) Q Q Q Q) (.cons (.tmp 5) .nil)) Q,(.cons (.d _) (.refl _) (.cons (.d _) (.refl _) .nil))⟩
theorem nZ{a:Aa}{b:End}{c:End}{d:Bool}(e:gF a b=some (c,d)):RetT TP 87 [a.enc,b.enc] [c.enc,.bool (d)]:=.of (mv:=λ_=>false) (wa e)
theorem nC{b:Aa}{a:Int}{r:Bool}(c:kE b a=some r):RetN TP 107 [b.enc,.int .i64 a] (.bool (r)):=by
 refine .unit (aJ (aQ Q) func107 Q ntmps107 Q Q (λwX gX=>?_)) Q;unfold kE at c;refine aB [0,1] Q (aM 1 Q (bU 0 Q Q Q (aG 3 Q (fC [(4,.d (.bool (((decide (0<=a))&&(decide (a<(b.Ad.length:Int)))))))] [4] [] Q ?_ ?_))));refine aM 3 Q (SB TK Q (λf e=>?_));cases f;refine aF 8 Q ?_;exact⟨[0],Q,k0,bT (aO (aP (by simp[e])) Q) Q⟩;refine aI 3 Q (aX TK Q (aF 4 Q ?_));exact⟨[0],Q,k0,bT (aO (aP (by simp[e])) Q) Q⟩;exact aB [4] Q (aL 1 Q (aY c Q))
theorem qy{g:Int}{i:Int}{r:(List Int)}(a:pY g i=some r):RetD TP 140 [.int .i64 g,.int .i64 i] (.sl 1 (r.map (D.int .i64))):=by
 refine .of (mv:=λ_=>false) (aJ (aQ Q) func140 Q ntmps140 Q Q (λwX gX=>?_));unfold pY at a;refine aB [0,1] Q (aM 5 Q (iC (f:=(D.int .i64)) 0 3 1 Q Q Q (aG 2 Q (aN a (λb=>([(5,.msl 0 1 0 b.length)])) (λb=>([(0,.flat 3 1 (b.map (D.int .i64)))])) [5] [] Q (λy a=>?_) (λb a=>?_)))));refine aM 1 Q (bB Q (x_ldG (d:=.agg (passages.flatMap λx=>x.enc.cells)) Q lay240 qW Q Q Q) (aG 4 Q (bF a (λ(j,c)=>([(5,.msl 0 1 0 c.length),(9,.d (.int .i64 j))])) (λ(j,c)=>([(0,.flat 3 1 (c.map (D.int .i64)))])) [5,9] [0,1,8] [0] k0 Q (λs z a u=>?_))));obtain⟨j,c⟩:=s;refine aB [0,1,5,8,9] Q (bX 5 Q (bY a Q (λp a=>?_) (λp a=>?_)));refine aK 5 Q (VE a λe q a=>bB Q (x_ixA (f:=A8.enc) (xs:=passages) (λ_=>Q) (λ_=>Q) Q Tryz.underlying240 lay239 Q Q q Q) (cK 1 Q Q I2 Q (aG 3 Q (fC [(21,.d (.bool (((decide (e.kind=g))&&(decide (e.inV=i))))))] [21] [0,1,5,7,8,9] Q ?_ ?_))))
 ·refine aM 5 Q (SB TK Q (λv k=>?_));cases v;refine aF 6 Q ?_;exact⟨[0,1],Q,k0,bT (aO (aP (by simp[k])) Q) Q⟩;refine aF 6 Q ?_;exact⟨[0,1],Q,k0,bT (aO (aP (by simp[k])) Q) Q⟩
 refine aB [0,1,5,7,8,9,21] Q (bI a Q (λo a=>?_) (λo a=>?_))
 ·exact aK 4 Q (iE [.tmp 24] TK Q fL (GE a λl a=>fJ (f:=(D.int .i64)) ([e.out]:List Int) TK Q Q fL Q Q Q Q Q (λh=>absurd h (pS _)) Q eC l Q Q (aI 5 Q (GE a λm a=>bN Q m (aF 2 Q (cA [0] a Q Q))))))
 exact aK 4 Q (GE a λn a=>bN Q n (aF 2 Q (cA [0] a Q Q)));refine aL 2 Q (IE a λw a t=>?_);rw[u _ t]at a;exact WX (bS 1 Q (aZ [0] a Q Q));refine aB [5] Q (aL 6 Q ?_);obtain rfl:=OJ a;exact EndsS.one _ Q (aW Q) (.refl _)
theorem wF{i:Aa}{e:End}{r:(List Ae)}(a:lD i e=some r):RetD TP 103 [i.enc,e.enc] (.sl 3 (r.map Ae.enc)):=by
 refine .of (mv:=λ_=>false) (aJ (aQ Q) func103 Q ntmps103 Q Q (λwX gX=>?_));unfold lD at a;refine aB [0,1] Q (aM 1 Q (bU 0 Q Q Q (bU 1 Q Q Q (aI 8 Q (dI a (nC ·) Q λv a=>aG 3 Q (bI a Q (λn a=>?_) (λn a=>?_)))))));refine bP 4 Q (sW 4 [some 3] Q (aL 2 Q ?_));obtain rfl:=OJ a;exact EndsS.one _ Q (.d _) (.refl _);refine aK 3 Q (iC (f:=Ae.enc) 2 120 3 Q Q Q (aG 2 Q (aN a (λc=>([(5,.msl 2 3 0 c.length)])) (λc=>([(2,.flat 120 3 (c.map Ae.enc))])) [5] [] Q (λz a=>?_) (λc a=>?_))))
 ·refine tZ follows ?_;iterate 4 (refine DA [0,1,2] TK Q ?_)
  refine VE a λu p a=>aU [0,1,2] Q (jQ TK Q Q Q Q p) ?_;iterate 4 (refine DA [0,1,2] TK Q ?_)
  refine zR [0,1,2] a (qy ·) Q λw a=>aU [0,1,2] Q (oT TK Q Q Q) (DA [0,1,2] TK Q ?_);refine DT ?_ (by kernel_rfl);refine aG 2 Q (aB [3,5,22,23,24] Q (bP 1 Q (bF a (λ(g,b)=>([(5,.msl 2 3 0 b.length),(24,.d (.int .i64 g))])) (λ(g,b)=>([(2,.flat 120 3 (b.map Ae.enc))])) [5,24] [3,22,23] [0,1,2] k0 Q (λs y a t=>?_))));obtain⟨g,b⟩:=s;refine aB [3,5,22,23,24] Q (bX 5 Q (bY a Q (λm a=>?_) (λm a=>?_)));exact aK 5 Q (VE a λj o a=>dL TK Q o (aI 11 Q (bB Q (bR Q plc120 dG Q Q Q Q) (iE [.tmp 34] TK Q dG (GE a λk a=>fJ (f:=Ae.enc) ([(⟨e.el,e.side,j⟩:Ae)]:List Ae) TK Q Q dG Q Q Q Q Q (λh=>absurd h (pS _)) Q eC k Q Q (aI 5 Q (GE a λl a=>bN Q l (aF 2 Q (cA [0,1,2] a Q Q)))))))));refine aL 2 Q (IE a λx a q=>?_);rw[t _ q]at a;exact WX (bS 1 Q (aZ [0,1,2] a Q Q))
 refine aB [5] Q (aL 6 Q ?_);obtain rfl:=OJ a;exact EndsS.one _ Q (aW Q) (.refl _)
theorem ed{b:(List Ae)}{r:End}(a:pW b=some r):RetN TP 136 [.sl 3 (b.map Ae.enc)] (r.enc):=by
 refine .unit (aJ (aQ Q) func136 Q ntmps136 Q Q (λwX gX=>?_)) Q;unfold pW at a;refine aB [0] Q (aM 1 Q (cK 0 Q Q cQ Q (aI 5 Q (aX TK Q (GE a λc a=>bN Q c (VE a λf e a=>dL TK Q e (aI 1 Q (cK 1 Q Q dG Q (aI 8 Q (bB Q (bR Q pC cQ Q Q Q Q) (aF 4 Q ?_)))))))))));obtain rfl:=OJ a;exact EndsS.cellR _ TK Q Q Q Q Q (.d _)
theorem eb{c:Ae}{e:Aa}{f:End}{b:Bool}(a:gT c e=some (f,b)):Ret TP 191 [] (λ_=>false) ([c.enc,.ptr (e.enc) 0].map .d) (.tup ([f.enc,.bool (b)].map .d)) []:=by
 refine fD (aQ Q) func191 Q ntmps191 Q Q (λwX gX=>?_);unfold gT at a;refine aB [0,1] Q (aM 1 Q (bU 0 Q Q Q (cK 1 Q Q cQ Q (aI 9 Q (bB Q (bR Q pC cQ Q Q Q Q) (BE a λb g a=>?_))))));obtain⟨h,i⟩:=b;refine bB Q (dX Q Q Q (nZ g)) (aF 7 Q ?_);obtain⟨rfl,rfl⟩:=bJ (aS a);exact⟨_,.mk _ (.cons (.agg (TK.lay Q) Q Q Q Q) (.cons (.tmp 4) .nil)) Q,(.cons (.d _) (.refl _) (.cons (.d _) (.refl _) .nil))⟩
theorem sY{a:Ae}{b:Aa}{c:End}{d:Bool}(e:gT a b=some (c,d)):RetT TP 191 [a.enc,.ptr (b.enc) 0] [c.enc,.bool (d)]:=.of (mv:=λ_=>false) (eb e)
theorem xE{b:Aa}{r:Fn265}(a:mH b=some r):RetD TP 162 [b.enc] (r.enc):=by
 refine .of (mv:=λ_=>false) (aJ (aQ Q) func162 Q ntmps162 Q Q (λwX gX=>?_));unfold mH at a;exact aB [0] Q (aM 1 Q (bU 0 Q Q Q (aG 3 Q (vn 0 Q Q Q Q Q (aL 6 Q (aY a Q))))))
theorem Ez{e:Aa}{c:Ae}{f:End}{b:Bool}(a:pT e c=some (f,b)):Ret TP 104 [] (λ_=>false) ([e.enc,c.enc].map .d) (.tup ([f.enc,.bool (b)].map .d)) []:=by
 refine fD (aQ Q) func104 Q ntmps104 Q Q (λwX gX=>?_);unfold pT at a;refine aB [0,1] Q (aM 1 Q (bU 0 Q Q Q (bU 1 Q Q Q (cK 2 Q Q cQ Q (aG 3 Q (bK follows (DA [0,1,2] TK Q (zR [0,1,2] a (xE ·) Q λb a=>DA [0,1,2] TK Q ?_))))))))
 cases g:b with
 |c191 l=>
  rw[g]at a;dsimp only at a;refine BE a λi h a=>?_;obtain⟨j,k⟩:=i;refine aU [0,1,2] Q (kh (ds:=[c.enc]) Q Q Q Q (sY h)) ?_;iterate 2 (refine DA [0,1,2] TK Q ?_)
  refine DT ?_ (by kernel_rfl);refine aF 5 Q ?_;obtain⟨rfl,rfl⟩:=bJ (aS a);exact⟨_,.mk _ (.cons (.agg (TK.lay Q) Q Q Q Q) (.cons (.tmp 5) .nil)) Q,(.cons (.d _) (.refl _) (.cons (.d _) (.refl _) .nil))⟩
theorem qq{a:Aa}{b:Ae}{c:End}{d:Bool}(e:pT a b=some (c,d)):RetT TP 104 [a.enc,b.enc] [c.enc,.bool (d)]:=.of (mv:=λ_=>false) (Ez e)
theorem eR{b:(List Ae)}{r:(List Ae)}(a:cL b=some r):RetD TP 37 [.sl 3 (b.map Ae.enc)] (.sl 3 (r.map Ae.enc)):=by
 refine .of (mv:=λ_=>false) (aJ (aQ Q) func37 Q ntmps37 Q Q (λwX gX=>?_));unfold cL at a;refine aB [0] Q (aM 7 Q (tB Q Tryz.underlying71 Q Q (λg hb1=>aG 2 Q (TC _ Q (λc=>?_) (λc=>?_)))));obtain⟨hnb1,a⟩:=vb (hb1 c) a;subst hnb1;refine bP 4 Q (sW 2 [some 3] Q (aL 2 Q ?_));obtain rfl:=OJ a;exact EndsS.one _ Q (.d _) (.refl _);replace a:=vd a;refine aK 3 Q (xI (f:=Ae.enc) 0 [] ([]:List Ae) TK Q Q Q dG Q Q Q Q Q (aI 1 Q (GE a λe a=>fJ (f:=Ae.enc) b TK Q Q dG Q Q Q Q Q (λh=>absurd h (pS _)) Q eC e Q Q (aF 4 Q ?_))));obtain rfl:=OJ a;exact EndsS.one _ Q (aW Q) (.refl _)
theorem Fv{g:Int}{h:Int}{i:Int}{n:Int}{o:Bool}(a:mK g h i=some (n,o)):Ret TP 92 [] (λ_=>false) ([.int .i64 g,.int .i64 h,.int .i64 i].map .d) (.tup ([.int .i64 n,.bool (o)].map .d)) []:=by
 refine fD (aQ Q) func92 Q ntmps92 Q Q (λwX gX=>?_);unfold mK at a;refine aB [0,1,2] Q (bX 5 Q (cH a (λ_=>[]) (λ_=>[]) [] [] Q (λA a t=>?_) (λj a=>?_)));refine aM 1 Q (bB Q (x_ldG (d:=.agg (passages.flatMap λx=>x.enc.cells)) Q lay240 qW Q Q Q) (aG 4 Q (bF a (λk=>([(11,.d (.int .i64 k))])) (λk=>[]) [11] [0,1,2,10] [] k0 Q (λk B a m=>aB [0,1,2,10,11] Q (bX 5 Q (bY a Q (λq a=>?_) (λq a=>?_)))))))
 ·refine aK 5 Q (VE a λc s a=>bB Q (x_ixA (f:=A8.enc) (xs:=passages) (λ_=>Q) (λ_=>Q) Q Tryz.underlying240 lay239 Q Q s Q) (cK 0 Q Q I2 Q (aG 3 Q (fC [(29,.d (.bool (((decide (c.kind=g))&&((decide (c.inV=h))&&(decide (c.out=i)))))))] [29] [0,1,2,9,10,11] Q ?_ ?_))))
  ·refine aM 5 Q (SB TK Q (λu e=>?_));cases u;refine aF 12 Q ?_;exact⟨[0],Q,k0,bT (aO (aP (by simp[e])) Q) Q⟩;refine aI 5 Q (SB TK Q (λv l=>?_));cases v;refine aF 6 Q ?_;exact⟨[0],Q,k0,bT (aO (aP (by simp[e,l])) Q) Q⟩;refine aF 6 Q ?_;exact⟨[0],Q,k0,bT (aO (aP (by simp[e,l])) Q) Q⟩
  refine aB [0,1,2,9,10,11,29] Q (bI a Q (λr a=>?_) (λr a=>?_))
  ·refine aL 10 Q (IE a λw a b=>?_);rw[m _ b]at a;refine WR (bS 1 Q (IE a λy a b=>?_));rw[t _ b]at a;refine WR ?_;obtain⟨rfl,rfl⟩:=bJ (aS a);exact EndsT.two Q (.d _) (.refl _) (.d _) (.refl _)
  exact aK 4 Q (GE a λp a=>bN Q p (aF 2 Q (cA [] a Q Q)))
 refine aL 2 Q (IE a λz a b=>?_);rw[m _ b]at a;exact WX (bS 1 Q (cA [] a Q Q));refine aB [] Q (aL 6 Q ?_);obtain⟨rfl,rfl⟩:=bJ (aS a);exact EndsT.two Q (.d _) (.refl _) (.d _) (.refl _)
theorem tE{a:Int}{b:Int}{c:Int}{d:Int}{e:Bool}(f:mK a b c=some (d,e)):RetT TP 92 [.int .i64 a,.int .i64 b,.int .i64 c] [.int .i64 d,.bool (e)]:=.of (mv:=λ_=>false) (Fv f)
theorem vr{c:Aa}{e:Ae}{f:Int}{b:Bool}(a:jM c e=some (f,b)):Ret TP 105 [] (λ_=>false) ([c.enc,e.enc].map .d) (.tup ([.int .i64 f,.bool (b)].map .d)) []:=by
 refine fD (aQ Q) func105 Q ntmps105 Q Q (λwX gX=>?_);unfold jM at a;refine aB [0,1] Q (aM 1 Q (bU 0 Q Q Q (bU 1 Q Q Q (aI 9 Q (dI a (nC ·) Q λb a=>aG 3 Q (bI a Q (λg a=>?_) (λg a=>?_)))))));refine aL 7 Q ?_;obtain⟨rfl,rfl⟩:=bJ (aS a);exact EndsT.two Q (.d _) (.refl _) (.d _) (.refl _);refine bP 2 Q (bK follows ?_);iterate 4 (refine DA [0,1] TK Q ?_)
 refine VE a λk h a=>aU [0,1] Q (jQ TK Q Q Q Q h) ?_;iterate 6 (refine DA [0,1] TK Q ?_)
 refine BE a λj i a=>?_;obtain⟨l,m⟩:=j;refine aU [0,1] Q (dX Q Q Q (tE i)) ?_;iterate 2 (refine DA [0,1] TK Q ?_)
 refine DT ?_ (by kernel_rfl);refine aG 4 Q (aB [4,5] Q (aL 1 Q ?_));obtain⟨rfl,rfl⟩:=bJ (aS a);exact EndsT.two Q (.d _) (.refl _) (.d _) (.refl _)
theorem wC{a:Aa}{b:Ae}{c:Int}{d:Bool}(e:jM a b=some (c,d)):RetT TP 105 [a.enc,b.enc] [.int .i64 c,.bool (d)]:=.of (mv:=λ_=>false) (vr e)
theorem wO{b:Int}{r:Bool}(a:nO b=some r):RetN TP 98 [.int .i64 b] (.bool (r)):=by
 refine .unit (aJ (aQ Q) func98 Q ntmps98 Q Q (λwX gX=>?_)) Q;unfold nO at a;exact aB [0] Q (r_px 12 Q (aY a Q))
theorem gS{b:Int}{c:Int}{r:Int}(a:eI b c=some r):RetN TP 46 [.int .i64 b,.int .i64 c] (.int .i64 r):=by
 refine .unit (aJ (aQ Q) func46 Q ntmps46 Q Q (λwX gX=>?_)) Q;unfold eI at a;refine aB [0,1] Q (aM 6 Q (dI a (wO ·) Q λi a=>aI 5 Q (dI a (wO ·) Q λj a=>aG 8 Q (bI a Q (λd a=>?_) (λd a=>?_)))));refine bP 5 Q (bI a Q (λe a=>?_) (λe a=>?_))
 ·exact aL 7 Q (aY a Q)
 exact aL 8 Q (aY a Q);refine bP 7 Q (bI a Q (λf a=>?_) (λf a=>?_))
 ·exact aL 6 Q (aY a Q)
 refine bP 9 Q (bY a Q (λg a=>?_) (λg a=>?_))
 ·exact aL 6 Q (aY a Q)
 refine bP 9 Q (aB [19] Q (bY a Q (λh a=>?_) (λh a=>?_)))
 ·exact aL 6 Q (aY a Q)
 exact aL 7 Q (aY a Q)
theorem vY{f:(List Int)}{r:Int}(a:oH f=some r):RetN TP 45 [.sl 1 (f.map (D.int .i64))] (.int .i64 r):=by
 refine .unit (aJ (aQ Q) func45 Q ntmps45 Q Q (λwX gX=>?_)) Q;unfold oH at a;refine aB [0] Q (bX 8 Q (cH a (λ_=>[]) (λ_=>[]) [] [3] Q (λq a l=>?_) (λj a=>?_)));refine aM 2 Q (aX TK Q (aG 4 Q (bF a (λc=>([(8,.d (.int .i64 c))])) (λc=>[]) [8] [3,6,7] [] k0 Q (λc s a e=>aB [3,6,7,8] Q (bX 5 Q (bY a Q (λh a=>?_) (λh a=>?_)))))))
 ·refine aK 5 Q (VE a λm k a=>dL TK Q k (aG 10 Q (mT a Q (λi a=>?_) (λi a=>?_))))
  ·refine aL 8 Q (IE a λo a b=>?_);rw[e _ b]at a;refine WR (bS 1 Q (IE a λp a b=>?_));rw[l _ b]at a;exact WR (aY a Q)
  exact aK 4 Q (GE a λg a=>bN Q g (aF 2 Q (cA [] a Q Q)))
 refine aL 2 Q (IE a λn a b=>?_);rw[e _ b]at a;exact WX (bS 1 Q (cA [] a Q Q));exact aB [3] Q (aL 6 Q (aY a Q))
theorem br{b:Ab}{c:Ab}{r:Int}(a:dA b c=some r):RetN TP 106 [b.enc,c.enc] (.int .i64 r):=by
 refine .unit (aJ (aQ Q) func106 Q ntmps106 Q Q (λwX gX=>?_)) Q;unfold dA at a;refine aB [0,1] Q (aM 1 Q (bU 0 Q Q Q (bU 1 Q Q Q (aG 3 Q (bK follows ?_)))));iterate 4 (refine DA [0,1] TK Q ?_)
 refine gA [0,1] a (gS ·) Q λd a=>?_;iterate 4 (refine DA [0,1] TK Q ?_)
 refine gA [0,1] a (gS ·) Q λe a=>aU [0,1] Q (pO [.tmp 9,.tmp 14] TK Q Q fL Q Q Q Q Q) (gA [0,1] a (vY ·) Q λf a=>?_);refine DT ?_ (by kernel_rfl);exact aG 3 Q (aB [4] Q (aL 1 Q (aY a Q)))
theorem nF{h:(List Ab)}{r:(List Ab)}(a:eM h=some r):Ret TP 47 [.flat 123 2 (h.map Ab.enc)] (λ_=>false) [.msl 0 2 0 h.length] (.msl 0 2 0 r.length) [.flat 123 2 (r.map Ab.enc)]:=by
 refine eB (aQ Q) func47 Q ntmps47 Q Q (λwX gX=>?_);unfold eM at a;refine aB [0] Q (aM 1 Q (iC (f:=Ab.enc) 1 123 2 Q Q Q (aG 9 Q (bY a Q (λG a=>?_) (λG a=>?_)))));refine aL 7 Q ?_;obtain rfl:=OJ a;exact⟨_,[0],res Q,by decide,(kB Q),Q,Q⟩;refine bP 2 Q (cH a (λ_=>[]) (λ_=>[]) [] [0] Q (λa3 a O=>?_) (λj a=>?_))
 ·refine bX 5 Q (bF a (λk4=>([(3,.d (.int .i64 k4))])) (λk4=>[]) [3] [0] [0,1] (kB Q) Q (λk4 a5 a o=>aB [0,3] Q (bX 8 Q (bY a Q (λK a=>?_) (λK a=>?_)))))
  ·refine bP 2 Q (cH a (λ_=>([(3,.d (.int .i64 k4))])) (λ_=>[]) [3] [0] Q (λa6 a R=>?_) (λj a=>?_))
   ·refine bX 1 Q (bK follows ?_);iterate 2 (refine DA [0,1] TK Q ?_)
    refine VE a λW n a=>?_;refine aU [0,1] Q (eF TK Q Q Q Q n (by first|rfl|simp)) ?_;refine aU [0,1] Q (gV TK Q Q Q Q n.2 Q) ?_;iterate 2 (refine DA [0,1] TK Q ?_)
    refine GE a λF a=>aU [0,1] Q (mG Q Q Q Q F) (VE a λS l a=>?_);refine aU [0,1] Q (eF TK Q Q Q Q l (by first|rfl|simp)) ?_;refine aU [0,1] Q (gV TK Q Q Q Q l.2 Q) (GE a λi a=>aU [0,1] Q (Be Q Q Q i.1 i.2) ?_);refine DT ?_ (by kernel_rfl);refine aG 2 Q (bY a Q (λH a=>?_) (λH a=>?_))
    ·refine aK 3 Q (GE a λp a=>bB Q (Hi TK Q Q Q Q Q p) (aG 3 Q (aB [0,3,4] Q (aN a (λ(k15,e)=>([(0,.msl 0 2 0 e.length),(3,.d (.int .i64 k15))])) (λ(k15,e)=>([(0,.flat 123 2 (e.map Ab.enc))])) [0,3] [] Q (λa2 a=>?_) (λj a=>?_)))))
     ·refine bX 5 Q (bF a (λ(k23,k24,c)=>([(0,.msl 0 2 0 c.length),(3,.d (.int .i64 k23)),(5,.d (.int .i64 k24))])) (λ(k23,k24,c)=>([(0,.flat 123 2 (c.map Ab.enc))])) [0,3,5] [4] [0,1] (kB Q) Q (λs a4 a P=>?_));obtain⟨k23,k24,c⟩:=s;refine aB [0,3,4,5] Q (bX 8 Q (bY a Q (λI a=>?_) (λI a=>?_)))
      ·refine bP 4 Q (bK follows ?_);iterate 2 (refine DA [0,1] TK Q ?_)
       refine GE a λq a=>VE a λT L a=>aU [0,1] Q (x_ixP TK Q Q Q Q q) (aU [0,1] Q (gV TK Q Q Q Q L.2 Q) ?_);iterate 2 (refine DA [0,1] TK Q ?_)
       refine GE a λt a=>aU [0,1] Q (mG Q Q Q Q t) (GE a λu a=>VE a λU M a=>aU [0,1] Q (x_ixP TK Q Q Q Q u) (aU [0,1] Q (gV TK Q Q Q Q M.2 Q) (GE a λk a=>aU [0,1] Q (Bd Q Q Q k.1 k.2) ?_)));refine DT ?_ (by kernel_rfl);refine aG 2 Q (mT a Q (λJ a=>?_) (λJ a=>?_))
       ·refine aK 5 Q (GE a λv a=>VE a λg N a=>bB Q (x_ixP TK Q Q Q Q v) (bB Q (gV TK Q Q Q Q N.2 Q) (VE a λV m a=>?_)));refine bB Q (eF TK Q Q Q Q m (by first|rfl|simp)) ?_;exact wH (x':=g) TK Q Q Q Q Q m.2 Q Q Q (cD 0 (c.set k23.toNat g).length Q zal60q.symm (cD 45 (c.set k23.toNat g).length Q zal60q.symm (aG 2 Q (aB [0,3,4,5] Q (aK 2 Q (GE a λw a=>bN Q w (aI 6 Q (GE a λx a=>bN Q x (aF 2 Q (wL [0,1] a Q (kB Q) Q))))))))))
       exact aK 5 Q (GE a λy a=>bN Q y (aF 2 Q (wL [0,1] a Q (kB Q) Q)))
      refine aL 2 Q (IE a λX a b=>?_);rw[P _ b]at a;exact WX (bS 1 Q (zJ [0,1] a Q (kB Q) Q))
     obtain⟨k15,e⟩:=j;refine aB [0,3] Q (aK 3 Q (GE a λz a=>bB Q (Hi TK Q Q Q Q Q z) (GE a λA a=>s_clear (f:=Ab.enc) (xs:=e) TK Q hP Q Q Q Q A (aI 5 Q (GE a λB a=>bB Q (Hi TK Q Q Q Q Q B) (aG 3 Q (aB [2] Q (GE a λC a=>c_shr 2 0 Q Q C (aL 2 Q (IE a λY a b=>?_))))))))));rw[R _ b]at a;refine WR (IE a λZ a b=>?_);rw[o _ b]at a;refine WR (bS 1 Q (IE a λa0 a b=>?_));rw[O _ b]at a;refine WR ?_;obtain rfl:=OJ a;exact⟨_,[0],res Q,by decide,(kB Q),Q,Q⟩
    exact aL 2 Q (wL [0,1] a Q (kB Q) Q)
   exact aB [0,3] Q (aK 2 Q (GE a λE a=>bN Q E (aF 2 Q (wL [0,1] a Q (kB Q) Q))))
  refine aL 2 Q (IE a λa1 a b=>?_);rw[o _ b]at a;exact WX (bS 1 Q (wL [0,1] a Q (kB Q) Q))
 refine aB [0] Q (aL 6 Q ?_);obtain rfl:=OJ a;exact⟨_,[0],res Q,by decide,(kB Q),Q,Q⟩
theorem wD{j:Aa}{k:(List Ae)}{r:(List Ab)}(a:lC j k=some r):RetD TP 52 [j.enc,.sl 3 (k.map Ae.enc)] (.sl 2 (r.map Ab.enc)):=by
 refine .of (mv:=λ_=>false) (aJ (aQ Q) func52 Q ntmps52 Q Q (λwX gX=>?_));unfold lC at a;refine aB [0,1] Q (aM 1 Q (bU 0 Q Q Q (aI 4 Q (iC (f:=Ab.enc) 1 123 2 Q Q Q (aG 2 Q (aN a (λb=>([(5,.msl 1 2 0 b.length)])) (λb=>([(1,.flat 123 2 (b.map Ab.enc))])) [5] [] Q (λJ a=>?_) (λb a=>?_)))))));refine aM 2 Q (aX TK Q (aG 4 Q (bF a (λ(g,c)=>([(5,.msl 1 2 0 c.length),(12,.d (.int .i64 g))])) (λ(g,c)=>([(1,.flat 123 2 (c.map Ab.enc))])) [5,12] [2,10,11] [0,1] k0 Q (λs K a z=>?_))));obtain⟨g,c⟩:=s;refine aB [2,5,10,11,12] Q (bX 5 Q (bY a Q (λt a=>?_) (λt a=>?_)));refine aK 5 Q (VE a λl u a=>dL TK Q u (aI 1 Q (cK 2 Q Q dG Q (aI 6 Q (BE a λB w a=>?_)))));obtain⟨C,F⟩:=B;refine bB Q (dX Q Q Q (wC w)) (aG 7 Q (aN a (λe=>([(32,.d (.bool (e)))])) (λe=>[]) [32] [2,5,7,8,10,11,12] Q (λI a=>?_) (λe a=>?_)));refine aM 2 Q (SB TK Q (λA i=>?_));cases A;replace a:=JB i a;exact aF 10 Q (aZ [0,1,2] a Q Q);replace a:=JA i a;exact aI 4 Q (VE a λE v a=>dL TK Q v (aF 5 Q (aZ [0,1,2] a Q Q)));refine aB [2,5,7,8,10,11,12,32] Q (bI a Q (λq a=>?_) (λq a=>?_))
 ·exact aK 5 Q (bB Q (bR Q xO hP Q Q Q Q) (iE [.tmp 37] TK Q hP (GE a λm a=>fJ (f:=Ab.enc) ([(⟨l.el,C⟩:Ab)]:List Ab) TK Q Q hP Q Q Q Q Q (λh=>absurd h (pS _)) Q eC m Q Q (aI 5 Q (GE a λn a=>bN Q n (aF 2 Q (cA [0,1] a Q Q)))))))
 exact aK 4 Q (GE a λo a=>bN Q o (aF 2 Q (cA [0,1] a Q Q)));refine aL 2 Q (IE a λH a y=>?_);rw[z _ y]at a;exact WX (bS 1 Q (aZ [0,1] a Q Q));refine aB [5] Q (aK 2 Q (GE a λp a=>?_));refine vL [1] Q Q Q (by simp) Q Q Q (mR wQ Q (λ_ _ _ h=>(br h).retD) b p) Q Q ?_;refine cD 5 (pP dA b).length Q (iY _).symm (cD 41 (pP dA b).length Q (iY _).symm (aI 4 Q (BE a λG x a=>?_)));refine oZ 43 (.msl 1 2 0 (pP dA b).length) Q (by first|rfl|simp[Fr.get,iY]) ?_;refine gP [1] (λ_=>false) Q Q Q (by decide) Q Q Q Q (nF x) Q Q Q ?_;refine aF 4 Q ?_;obtain rfl:=OJ a;exact EndsS.one _ Q (aW Q) (.refl _)
theorem wE{k:Aa}{l:(List Ae)}{r:(List Int)}(a:gD k l=some r):RetD TP 53 [k.enc,.sl 3 (l.map Ae.enc)] (.sl 1 (r.map (D.int .i64))):=by
 refine .of (mv:=λ_=>false) (aJ (aQ Q) func53 Q ntmps53 Q Q (λwX gX=>?_));unfold gD at a;refine aB [0,1] Q (aM 1 Q (bU 0 Q Q Q (aI 4 Q (iC (f:=(D.int .i64)) 1 3 1 Q Q Q (aI 3 Q (lE 3 4 Q (oZ 10 (.mmap 2) Q Q (aG 3 Q (aN a (λ(b,g)=>([(5,.msl 1 1 0 b.length)])) (λ(b,g)=>([(1,.flat 3 1 (b.map (D.int .i64))),(2,.map 3 4 (aV (D.int .i64) D.bool g))])) [5] [] Q (λH a=>?_) (λj a=>?_))))))))));refine aM 2 Q (aX TK Q (aG 4 Q (bF a (λ(i,c,e)=>([(5,.msl 1 1 0 c.length),(13,.d (.int .i64 i))])) (λ(i,c,e)=>([(1,.flat 3 1 (c.map (D.int .i64))),(2,.map 3 4 (aV (D.int .i64) D.bool e))])) [5,13] [2,6,11,12] [0,1,2] k0 Q (λs G a B=>?_))));obtain⟨i,c,e⟩:=s;refine aB [2,5,6,11,12,13] Q (bX 5 Q (bY a Q (λv a=>?_) (λv a=>?_)));refine aK 5 Q (VE a λC y a=>dL TK Q y (aI 1 Q (cK 3 Q Q dG Q (aI 8 Q (dI a (nC ·) Q λE a=>aG 3 Q (bI a Q (λw a=>?_) (λw a=>?_)))))))
 ·exact aK 5 Q (GE a λn a=>bN Q n (aF 2 Q (cA [0,1,2] a Q Q)))
 refine aK 7 Q (VE a λm z a=>dL TK Q z (aG 5 Q (aB [2,5,6,9,11,12,13] Q (aK 3 Q (GE a λo a=>bB Q (vD (fT .i64) D.bool _ _ false Q ve Cb Q Q Q Q o) (aG 3 Q (bI a Q (λx a=>?_) (λx a=>?_))))))))
 ·exact aK 3 Q (GE a λp a=>bz (fT .i64) D.bool ve Q Q Q Q p (aI 5 Q (iE [.tmp 36] TK Q fL (GE a λq a=>fJ (f:=(D.int .i64)) ([m.Az]:List Int) TK Q Q fL Q Q Q Q Q (λh=>absurd h (pS _)) Q eC q Q Q (aI 5 Q (GE a λt a=>bN Q t (aF 2 Q (cA [0,1,2] a Q Q))))))))
 exact aK 4 Q (GE a λu a=>bN Q u (aF 2 Q (cA [0,1,2] a Q Q)));refine aL 2 Q (IE a λF a A=>?_);rw[B _ A]at a;exact WX (bS 1 Q (aZ [0,1,2] a Q Q));obtain⟨b,g⟩:=j;refine aB [5] Q (aL 6 Q ?_);obtain rfl:=OJ a;exact EndsS.one _ Q (aW Q) (.refl _)
theorem nD{f:Aa}{g:(List Ae)}{r:Int}(a:iX f g=some r):RetN TP 57 [f.enc,.sl 3 (g.map Ae.enc)] (.int .i64 r):=by
 refine .unit (aJ (aQ Q) func57 Q ntmps57 Q Q (λwX gX=>?_)) Q;unfold iX at a;refine aB [0,1] Q (aM 1 Q (bU 0 Q Q Q (aG 7 Q (aN a (λb=>([(5,.d (.int .i64 b))])) (λb=>[]) [5] [] Q (λw a=>?_) (λb a=>?_)))));refine aM 2 Q (aX TK Q (aG 4 Q (bF a (λ(c,e)=>([(5,.d (.int .i64 c)),(10,.d (.int .i64 e))])) (λ(c,e)=>[]) [5,10] [2,8,9] [0] k0 Q (λs x a p=>?_))));obtain⟨c,e⟩:=s;refine aB [2,5,8,9,10] Q (bX 5 Q (bY a Q (λl a=>?_) (λl a=>?_)));refine aK 5 Q (VE a λt n a=>dL TK Q n (aI 1 Q (cK 1 Q Q dG Q (aI 7 Q (dI a (nC ·) Q λu a=>aG 2 Q (bI a Q (λk a=>?_) (λk a=>?_)))))))
 ·exact aK 6 Q (VE a λq m a=>dL TK Q m (aI 2 Q (GE a λh a=>bN Q h (aG 4 Q (aB [2,5,8,9,10] Q (aK 1 Q (GE a λi a=>bN Q i (aF 2 Q (cA [0] a Q Q)))))))))
 exact aK 4 Q (GE a λj a=>bN Q j (aF 2 Q (cA [0] a Q Q)));refine aL 2 Q (IE a λv a o=>?_);rw[p _ o]at a;exact WX (bS 1 Q (aZ [0] a Q Q));exact aB [5] Q (aL 6 Q (aY a Q))
theorem Bu{b:Aa}{c:Int}{e:(List Ae)}{r:Al}(a:qO b c e=some r):RetD TP 89 [b.enc,.int .i64 c,.sl 3 (e.map Ae.enc)] (r.enc):=by
 refine .of (mv:=λ_=>false) (aJ (aQ Q) func89 Q ntmps89 Q Q (λwX gX=>?_));unfold qO at a;refine aB [0,1,2] Q (aM 1 Q (bU 0 Q Q Q (cK 1 Q Q oD Q (eZ 1 [none,none,none,some 3,some 2,some 1,none,none,some 3,some 2,some 1,some 2,some 1,some 2] Q Q (aI 6 Q (VE a λk i a=>dL TK Q i (aI 1 Q (cK 2 Q Q nW Q (aG 3 Q (bK follows ?_))))))))));iterate 2 (refine DA [0,1,2] TK Q ?_)
 refine gA [0,1,2] a (ed ·) Q λq a=>gA [0,1,2] a (kY ·) Q λs a=>?_;refine DT ?_ (by kernel_rfl);refine aG 4 Q (aN a (λname4=>([(8,.d (.str name4))])) (λname4=>[]) [8] [1,2,3,6,7,9] Q (λt a=>?_) (λname4 a=>?_));refine bX 5 Q (bY a Q (λh a=>?_) (λh a=>?_))
 ·exact aK 4 Q (VE a λl j a=>dL TK Q j (aF 4 Q (aZ [0,1,2] a Q Q)))
 exact aL 1 Q (aZ [0,1,2] a Q Q);refine aB [1,2,3,6,7,8,9] Q (bK follows ?_);iterate 2 (refine DA [0,1,2] TK Q ?_)
 refine GE a λf a=>aU [0,1,2] Q (I5 Q Q Q f) (DA [0,1,2] TK Q (GE a λg a=>aU [0,1,2] Q (I5 Q Q Q g) ?_));iterate 5 (refine DA [0,1,2] TK Q ?_)
 refine zR [0,1,2] a (wD ·) Q λm a=>?_;iterate 2 (refine DA [0,1,2] TK Q ?_)
 refine zR [0,1,2] a (wE ·) Q λn a=>?_;iterate 4 (refine DA [0,1,2] TK Q ?_)
 refine gA [0,1,2] a (eN ·) Q λo a=>?_;iterate 2 (refine DA [0,1,2] TK Q ?_)
 refine gA [0,1,2] a (nD ·) Q λp a=>aU [0,1,2] Q (bR Q plc80 oD Q Q Q Q) ?_;refine DT ?_ (by kernel_rfl);refine aI 1 Q (eZ 1 [none,none,none,none,none,none,none,none,some 3,some 2,some 1,some 2,some 1,some 2] Q Q (aG 2 Q (aB [6] Q (aL 1 Q ?_))));obtain rfl:=OJ a;exact EndsS.cellR _ TK Q Q Q Q Q (.d _)
theorem ye{b:Int}{r:BA}(a:strconv_Itoa b=some r):RetN TP 90 [.int .i64 b] (.str r):=by
 unfold strconv_Itoa at a;refine GE a λh a=>?_;obtain rfl:=OJ a;exact Ij b h
theorem zS{b:A0}{e:(List Ae)}{p:Int}{r:Bool}(a:jB b e p=some r):Ret TP 134 [.box 185 [.d (.str b.l.name),.d (.sl 1 (b.l.Ai.map D.str)),.d (.sl 7 (b.l.Ad.map An.enc)),.d (.sl 4 (b.l.joints.map Ay.enc)),.d (.sl 4 (b.l.Aj.map As.enc)),.d (.sl 3 (b.l.balises.map Am.enc)),.msl 1 1 0 b.paths.length],.flat 71 1 (b.paths.map (λ(l:List Ae)=>D.sl 3 (l.map Ae.enc))),.flat 120 3 (e.map Ae.enc)] (λ_=>false) [.mptr 0 0 0 0,.msl 2 3 0 e.length,.d (.int .i64 p)] (.d (.bool (r))) [.box 185 [.d (.str b.l.name),.d (.sl 1 (b.l.Ai.map D.str)),.d (.sl 7 (b.l.Ad.map An.enc)),.d (.sl 4 (b.l.joints.map Ay.enc)),.d (.sl 4 (b.l.Aj.map As.enc)),.d (.sl 3 (b.l.balises.map Am.enc)),.msl 1 1 0 b.paths.length],.flat 71 1 (b.paths.map (λ(l:List Ae)=>D.sl 3 (l.map Ae.enc))),.flat 120 3 (e.map Ae.enc)]:=by
 refine eB (aQ Q) func134 Q ntmps134 Q Q (λwX gX=>?_);unfold jB at a;refine aB [0,1,2] Q (aM 10 Q (dI a (eN ·) Q λA a=>aG 3 Q (cH a (λ_=>[]) (λ_=>[]) [] [] Q (λK a o=>?_) (λj a=>?_))))
 ·refine bX 7 Q (bF a (λh=>([(18,.d (.int .i64 h))])) (λh=>[]) [18] [0,1,2,7,16,17] [0,1,2] (kB Q) Q (λh L a f=>aB [0,1,2,7,16,17,18] Q (bX 5 Q (bY a Q (λu a=>?_) (λu a=>?_)))))
  ·refine aK 6 Q (VE a λz k a=>?_);refine bB Q (eF TK Q Q Q Q k (by first|rfl|simp)) ?_;refine bB Q (gV TK Q Q Q Q k.2 Q) (cK 3 Q Q dG Q (aG 12 Q (bY a Q (λv a=>?_) (λv a=>?_))));refine bP 4 Q (aB [6] Q (aL 4 Q (IE a λI a c=>?_)));rw[f _ c]at a;refine WR (bS 1 Q (IE a λE a c=>?_));rw[o _ c]at a;refine WR ?_;obtain rfl:=OJ a;exact⟨_,[0,1,2],res Q,by decide,(kB Q),Q,Q⟩;refine bP 2 Q (aN a (λg=>([(54,.d (.bool (g)))])) (λg=>[]) [54] [0,1,2,7,16,17,18] Q (λJ a=>?_) (λg a=>?_))
   ·refine fU follows ?_;iterate 2 (refine DA [0,1,2,3] TK Q ?_)
    refine bn [0,1,2,3] TK Q (λw m=>?_);cases w;replace a:=JF m a;iterate 25 (refine DA [0,1,2,3] TK Q ?_)
    refine DT ?_ (by kernel_rfl);exact aF 1 Q (zJ [0,1,2,3] a Q (kB Q) Q);replace a:=JT m a;iterate 6 (refine DA [0,1,2,3] TK Q ?_)
    refine GE a λq a=>aU [0,1,2,3] Q (mG Q Q Q Q q) (VE a λy i a=>?_);refine aU [0,1,2,3] Q (eF TK Q Q Q Q i (by first|rfl|simp)) ?_;refine DA [0,1,2,3] TK Q (aU [0,1,2,3] Q (gV TK Q Q Q Q i.2 Q) (gA [0,1,2,3] a (eN ·) Q λB a=>?_));iterate 3 (refine DA [0,1,2,3] TK Q ?_)
    refine bn [0,1,2,3] TK Q (λx n=>?_);cases x;replace a:=JF n a;iterate 10 (refine DA [0,1,2,3] TK Q ?_)
    refine DT ?_ (by kernel_rfl);exact aF 1 Q (zJ [0,1,2,3] a Q (kB Q) Q);replace a:=JT n a;iterate 6 (refine DA [0,1,2,3] TK Q ?_)
    refine gA [0,1,2,3] a (eN ·) Q λC a=>?_;iterate 3 (refine DA [0,1,2,3] TK Q ?_)
    refine DT ?_ (by kernel_rfl);exact aF 1 Q (zJ [0,1,2,3] a Q (kB Q) Q)
   refine aB [0,1,2,7,16,17,18,54] Q (bI a Q (λt a=>?_) (λt a=>?_))
   ·refine aL 7 Q (IE a λF a c=>?_);rw[f _ c]at a;refine WR (bS 1 Q (IE a λG a c=>?_));rw[o _ c]at a;refine WR ?_;obtain rfl:=OJ a;exact⟨_,[0,1,2],res Q,by decide,(kB Q),Q,Q⟩
   exact aK 4 Q (GE a λs a=>bN Q s (aF 2 Q (wL [0,1,2] a Q (kB Q) Q)))
  refine aL 2 Q (IE a λH a c=>?_);rw[f _ c]at a;exact WX (bS 1 Q (wL [0,1,2] a Q (kB Q) Q))
 refine aB [] Q (aL 5 Q ?_);obtain rfl:=OJ a;exact⟨_,[0,1,2],res Q,by decide,(kB Q),Q,Q⟩
theorem lI{b:(List Ae)}{r:(List Ae)}(a:cL b=some r):Ret TP 37 [] (λ_=>false) ([.sl 3 (b.map Ae.enc)].map .d) (.msl 0 3 0 r.length) [.flat 120 3 (r.map Ae.enc)]:=by
 refine eB (aQ Q) func37 Q ntmps37 Q Q (λwX gX=>?_);unfold cL at a;refine aB [0] Q (aM 1 Q (iC (f:=Ae.enc) 0 120 3 Q Q Q (aI 5 Q (tB Q Tryz.underlying71 Q Q (λg hb1=>aG 2 Q (TC _ Q (λc=>?_) (λc=>?_)))))));obtain⟨hnb1,a⟩:=vb (hb1 c) a;subst hnb1;refine aK 1 Q (iC (f:=Ae.enc) 1 120 3 Q Q Q (aF 4 Q ?_));obtain rfl:=OJ a;exact⟨_,[1],res Q,by decide,k0,Q,Q⟩;replace a:=vd a;refine aK 3 Q (xI (f:=Ae.enc) 1 [] ([]:List Ae) TK Q Q Q dG Q Q Q Q Q (aI 1 Q (GE a λe a=>fJ (f:=Ae.enc) b TK Q Q dG Q Q Q Q Q (λh=>absurd h (pS _)) Q eC e Q Q (aF 4 Q ?_))));obtain rfl:=OJ a;exact⟨_,[1],res Q,by decide,k0,Q,Q⟩
theorem rF{b:A0}{c:(List Ae)}{h:End}{e:A0}(a:gQ b c=some (h,e)):Ret TP 135 [.box 185 [.d (.str b.l.name),.d (.sl 1 (b.l.Ai.map D.str)),.d (.sl 7 (b.l.Ad.map An.enc)),.d (.sl 4 (b.l.joints.map Ay.enc)),.d (.sl 4 (b.l.Aj.map As.enc)),.d (.sl 3 (b.l.balises.map Am.enc)),.msl 1 1 0 b.paths.length],.flat 71 1 (b.paths.map (λ(l:List Ae)=>D.sl 3 (l.map Ae.enc))),.flat 120 3 (c.map Ae.enc)] (λj=>Nat.beq j 1) [.mptr 0 0 0 0,.msl 2 3 0 c.length] (.d (h.enc)) [.box 185 [.d (.str b.l.name),.d (.sl 1 (b.l.Ai.map D.str)),.d (.sl 7 (b.l.Ad.map An.enc)),.d (.sl 4 (b.l.joints.map Ay.enc)),.d (.sl 4 (b.l.Aj.map As.enc)),.d (.sl 3 (b.l.balises.map Am.enc)),.msl 1 1 0 e.paths.length],.flat 71 1 (e.paths.map (λ(l:List Ae)=>D.sl 3 (l.map Ae.enc))),.flat 120 3 (c.map Ae.enc)]:=by
 refine eB (aQ Q) func135 Q ntmps135 Q Q (λwX gX=>?_);unfold gQ at a;refine aB [0,1] Q (aM 1 Q (cK 3 Q Q cQ Q (aG 2 Q (cH a (λ_=>[]) (λ_=>[]) [] [0,1,4] Q (λC a v=>?_) (λj a=>?_)))))
 ·refine tZ follows ?_;iterate 5 (refine DA [0,1,2,3] TK Q ?_)
  refine BE a λy s a=>aU [0,1,2,3] Q (RN Q Q (SC (aW Q) SN) (ed s)) (gA [0,1,2,3] a (kY ·) Q λz a=>DA [0,1,2,3] TK Q ?_);refine DT ?_ (by kernel_rfl);refine aG 2 Q (bY a Q (λq a=>?_) (λq a=>?_))
  ·refine fN (bK follows ?_);iterate 3 (refine DA [] TK Q ?_)
   refine DA [0] TK Q ?_;iterate 3 (refine DA [] TK Q ?_)
   refine GE a λo a=>aU [] Q (mG Q Q Q Q o) (VE a λx g a=>?_);refine aU [] Q (eF TK Q Q Q Q g (by first|rfl|simp)) ?_;refine aU [2] Q (gV TK Q Q Q Q g.2 Q) (BE a λw t a=>?_);obtain⟨k,A⟩:=w;refine aU [] Q (dX Q Q Q (qq t)) ?_;iterate 3 (refine DA [] TK Q ?_)
   refine tV [4] _ (.mptr 4 0 0 0) Q (dZ Q) Q (lL Q Q cQ Q Q) (qT 1000008 [4] [(4,.box 128 [.d (.int .i64 k.el),.d (.int .i64 k.side)])] (dZ Q) Q (kK TK Q Q Q Q Q Q Q Q Q Q) ?_);refine DT ?_ (by kernel_rfl);refine aG 3 Q (aB [0,1,4,5,6] Q (bP 4 Q (bI a Q (λp a=>?_) (λp a=>?_))));refine bP 5 Q (aB [4] Q (aL 1 Q (IE a λB a u=>?_)));rw[v _ u]at a;refine WR ?_;obtain⟨rfl,rfl⟩:=bJ (aS a);exact⟨_,[0,1,2],.mk _ (.cons (.agg (TK.lay Q) Q Q Q Q) .nil) Q,by decide,(kB Q),Q,Q⟩;exact aL 1 Q (wL [0,1,2,3] a Q (kB Q) Q)
  exact aL 1 Q (wL [0,1,2,3] a Q (kB Q) Q)
 refine aB [0,1,4] Q (bK follows ?_);iterate 6 (refine DA [0,1,2,3] TK Q ?_)
 refine BE a λi r a=>aU [0,1,2,3] Q (RN Q Q (SC (aW Q) SN) (retN_row (lI r) (λ_=>Q))) (aU [0,1,2,3] Q (pO [.tmp 37] TK Q Q C1 Q Q Q Q Q) ?_);refine d_tailq 0 31 ?_ ?_ Q (by kernel_rfl) (by kernel_rfl) (by kernel_rfl);refine GE a λm a=>fJ (f:=(λ(l:List Ae)=>D.sl 3 (l.map Ae.enc))) ([i]:List (List Ae)) TK Q Q C1 Q Q Q Q Q (λ_=>Q) Q eC m Q Q (aI 6 Q (bB Q (bR Q pC cQ Q Q Q Q) (aF 4 Q ?_)));obtain⟨rfl,rfl⟩:=bJ (aS a);exact⟨_,[0,1,2],.mk _ (.cons (.agg (TK.lay Q) Q Q Q Q) .nil) Q,by decide,(kB Q),Q,Q⟩;refine GE a λn a=>fJ (f:=(λ(l:List Ae)=>D.sl 3 (l.map Ae.enc))) ([i]:List (List Ae)) TK Q Q C1 Q Q Q Q Q (λ_=>Q) Q eC n Q Q (aI 7 Q (bB Q (bR Q pC cQ Q Q Q Q) (aF 4 Q ?_)));obtain⟨rfl,rfl⟩:=bJ (aS a);exact⟨_,[0,1,2],.mk _ (.cons (.agg (TK.lay Q) Q Q Q Q) .nil) Q,by decide,(kB Q),Q,Q⟩
theorem vN:∀(fu:Nat){b:A0}{e:(List Ae)} {o:End} {g:A0} {p:(List Ae)} (a:eA fu b e o=some (g,p)),Ret TP 88 [.box 185 [.d (.str b.l.name),.d (.sl 1 (b.l.Ai.map D.str)),.d (.sl 7 (b.l.Ad.map An.enc)),.d (.sl 4 (b.l.joints.map Ay.enc)),.d (.sl 4 (b.l.Aj.map As.enc)),.d (.sl 3 (b.l.balises.map Am.enc)),.msl 1 1 0 b.paths.length],.flat 71 1 (b.paths.map (λ(l:List Ae)=>D.sl 3 (l.map Ae.enc))),.flat 120 3 (e.map Ae.enc)] (λj=>Nat.beq j 1||Nat.beq j 2) [.mptr 0 0 0 0,.msl 2 3 0 e.length,.d (o.enc)] (.tup []) [.box 185 [.d (.str b.l.name),.d (.sl 1 (b.l.Ai.map D.str)),.d (.sl 7 (b.l.Ad.map An.enc)),.d (.sl 4 (b.l.joints.map Ay.enc)),.d (.sl 4 (b.l.Aj.map As.enc)),.d (.sl 3 (b.l.balises.map Am.enc)),.msl 1 1 0 g.paths.length],.flat 71 1 (g.paths.map (λ(l:List Ae)=>D.sl 3 (l.map Ae.enc))),.flat 120 3 (p.map Ae.enc)]:=by
 intro fu
 induction fu with
 |zero=>
  intro b e o g p a;unfold eA at a;cases a
 |succ fu ih=>
  intro b e o g p a;refine eB (aQ Q) func88 Q ntmps88 Q Q (λwX gX=>?_);unfold eA at a;refine aB [0,1,2] Q (aM 1 Q (bU 3 Q Q Q (aG 2 Q (w_scope 0 a (λ(q,r,m,n)=>([(1,.msl 2 3 0 n.length)])) (λ(q,r,m,n)=>([(0,.box 185 [.d (.str b.l.name),.d (.sl 1 (b.l.Ai.map D.str)),.d (.sl 7 (b.l.Ad.map An.enc)),.d (.sl 4 (b.l.joints.map Ay.enc)),.d (.sl 4 (b.l.Aj.map As.enc)),.d (.sl 3 (b.l.balises.map Am.enc)),.msl 1 1 0 m.length]),(1,.flat 71 1 (m.map (λ(l:List Ae)=>D.sl 3 (l.map Ae.enc)))),(2,.flat 120 3 (n.map Ae.enc)),(3,.box 128 [.d (.int .i64 q),.d (.int .i64 r)])])) [1] [0,5] [0,1,2,3] (kB Q) Q (λs b2 a t=>?_)))));obtain⟨q,r,m,n⟩:=s;refine aB [0,1,5] Q (bX 1 Q (aN a (λv=>([(21,.d (.bool (v)))])) (λv=>[]) [21] [0,1,5] Q (λb0 a=>?_) (λv a=>?_)));refine aM 4 Q (SB TK Q (λU x=>?_));cases U;replace a:=JF x a;refine aI 4 Q (BE a λY N a=>s_on Q ?_);refine gP [0,1,2] (λ_=>false) Q Q Q (by decide) Q Q Q Q (zS N) Q Q Q ?_;exact aF 3 Q (zJ [0,1,2,3] a Q (kB Q) Q);replace a:=JT x a;exact aF 8 Q (zJ [0,1,2,3] a Q (kB Q) Q);refine aB [0,1,5,21] Q (bI a Q (λG a=>?_) (λG a=>?_))
  ·refine aL 2 Q (IE a λa6 a c=>?_);rw[t _ c]at a;refine jumpR ?_;obtain⟨rfl,rfl⟩:=bJ (aS a);exact⟨_,[0,1,2],res Q,by decide,(kB Q),Q,Q⟩
  refine bP 2 Q (bK follows ?_);iterate 5 (refine DA [0,1,2,3] TK Q ?_)
  refine zR [0,1,2,3] a (wF ·) Q λZ a=>?_;refine DT ?_ (by kernel_rfl);refine aI 6 Q (aX TK Q (aG 3 Q (bY a Q (λH a=>?_) (λH a=>?_))));refine aK 3 Q (VE a λy L a=>dL TK Q L (aI 1 Q (iE [.tmp 34] TK Q dG (GE a λA a=>fJ (f:=Ae.enc) ([y]:List Ae) TK Q Q dG Q Q Q Q Q (λ_=>Q) Q eC A Q Q (aG 3 Q (aB [0,1,5] Q (aK 4 Q (BE a λV O a=>?_))))))));obtain⟨a0,a1⟩:=V;refine gP [0,1,2] (λj=>Nat.beq j 1) Q Q Q (by decide) Q Q Q Q (rF O) Q Q Q ?_;refine aG 9 Q (bY a Q (λI a=>?_) (λI a=>?_));exact J7 (gotoA (wL [0,1,2,3] a Q (kB Q) Q));refine aL 4 Q (IE a λa7 a c=>?_);rw[t _ c]at a;refine jumpR ?_;obtain⟨rfl,rfl⟩:=bJ (aS a);exact⟨_,[0,1,2],res Q,by decide,(kB Q),Q,Q⟩;refine aK 4 Q (aX TK Q (aG 4 Q (bF a (λ(w,k)=>([(45,.d (.int .i64 w))])) (λ(w,k)=>([(0,.box 185 [.d (.str b.l.name),.d (.sl 1 (b.l.Ai.map D.str)),.d (.sl 7 (b.l.Ad.map An.enc)),.d (.sl 4 (b.l.joints.map Ay.enc)),.d (.sl 4 (b.l.Aj.map As.enc)),.d (.sl 3 (b.l.balises.map Am.enc)),.msl 1 1 0 k.length]),(1,.flat 71 1 (k.map (λ(l:List Ae)=>D.sl 3 (l.map Ae.enc))))])) [45] [0,1,43,44] [0,1,2,3] (kB Q) Q (λs b1 a T=>?_))));obtain⟨w,k⟩:=s;refine aB [0,1,43,44,45] Q (bX 5 Q (bY a Q (λJ a=>?_) (λJ a=>?_)));refine aK 5 Q (VE a λz M a=>dL TK Q M (aI 1 Q (cK 4 Q Q dG Q (aG 3 Q (aB [0,1,8,43,44,45] Q (fN (bK follows (DA [] TK Q (BE a λu P a=>?_)))))))));refine tV [2,5] [(5,.flat 120 3 (u.map Ae.enc))] (.msl 5 3 0 u.length) Q (dZ Q) Q (J3 (Bs:=[.flat 120 3 (u.map Ae.enc)]) [5] (by intro i h;simp only[zQB,xA,or_false]at h;rcases h with rfl<;>rfl) (by decide) Q Q Q (SC (aW Q) SN) (lI P) (by intro B h;simp only[zQB,xA,or_false]at h;rcases h with rfl;exact Cp (λ_=>Q)) (.msl _ _ _ _) Q (by intro B h;simp only[zQB,xA,or_false]at h;rcases h with rfl;rfl)) ?_;refine DA [4] TK Q (aU [] Q (pO [.tmp 51] TK Q Q dG Q Q Q Q Q) ?_);refine DT ?_ (by kernel_rfl);refine GE a λC a=>?_;refine fJ (f:=Ae.enc) ([z]:List Ae) TK Q Q dG Q Q Q Q Q (λh=>absurd (show 5<3 from h) (by decide)) Q eC C Q Q ?_;refine aG 3 Q (aB [0,1,9,43,44,45] Q (aK 3 Q (BE a λW R a=>?_)));obtain⟨a2,a3⟩:=W;refine gP [0,1,5] (λj=>Nat.beq j 1) Q Q Q (by decide) Q Q Q Q (rF R) Q Q Q ?_;refine cK 6 Q Q cQ Q (aG 3 Q (aB [0,1,9,10,43,44,45] Q (bP 6 Q (bY a Q (λK a=>?_) (λK a=>?_)))));refine aK 4 Q (BE a λX S a=>?_);obtain⟨a4,a5⟩:=X;refine gP [0,1,5] (λj=>Nat.beq j 1||Nat.beq j 2) Q Q Q (by decide) Q Q Q Q (ih S) Q Q Q ?_;exact aG 3 Q (aB [0,1,43,44,45] Q (aK 1 Q (GE a λE a=>bN Q E (aF 2 Q (wL [0,1,2,3] a Q (kB Q) Q)))));exact aK 4 Q (GE a λF a=>bN Q F (aF 2 Q (wL [0,1,2,3] a Q (kB Q) Q)));refine aL 2 Q (IE a λa8 a c=>?_);rw[T _ c]at a;refine WX (bS 1 Q (IE a λa9 a c=>?_))
  rw[t _ c]at a;refine jumpN ?_;obtain⟨rfl,rfl⟩:=bJ (aS a);exact⟨_,[0,1,2],res Q,by decide,(kB Q),Q,Q⟩
theorem wR{a:A0}{b:(List Ae)}{e:End}{c:A0}{f:(List Ae)}(g:mZ a b e=some (c,f)):Ret TP 88 [.box 185 [.d (.str a.l.name),.d (.sl 1 (a.l.Ai.map D.str)),.d (.sl 7 (a.l.Ad.map An.enc)),.d (.sl 4 (a.l.joints.map Ay.enc)),.d (.sl 4 (a.l.Aj.map As.enc)),.d (.sl 3 (a.l.balises.map Am.enc)),.msl 1 1 0 a.paths.length],.flat 71 1 (a.paths.map (λ(l:List Ae)=>D.sl 3 (l.map Ae.enc))),.flat 120 3 (b.map Ae.enc)] (λj=>Nat.beq j 1||Nat.beq j 2) [.mptr 0 0 0 0,.msl 2 3 0 b.length,.d (e.enc)] (.tup []) [.box 185 [.d (.str a.l.name),.d (.sl 1 (a.l.Ai.map D.str)),.d (.sl 7 (a.l.Ad.map An.enc)),.d (.sl 4 (a.l.joints.map Ay.enc)),.d (.sl 4 (a.l.Aj.map As.enc)),.d (.sl 3 (a.l.balises.map Am.enc)),.msl 1 1 0 c.paths.length],.flat 71 1 (c.paths.map (λ(l:List Ae)=>D.sl 3 (l.map Ae.enc))),.flat 120 3 (f.map Ae.enc)]:=vN lN g
theorem Dn{n:Aa}{i:Int}{r:(List Al)}(a:sI n i=some r):RetD TP 36 [n.enc,.int .i64 i] (.sl 14 (r.map Al.enc)):=by
 refine .of (mv:=λ_=>false) (aJ (aQ Q) func36 Q ntmps36 Q Q (λwX gX=>?_));unfold sI at a;refine aB [0,1] Q (aM 1 Q (bU 0 Q Q Q (aG 4 Q ?_)));refine fC [(22,.d (.bool (((decide (i<0))||(decide ((n.Aj.length:Int)<=i))))))] [22] [1,2] Q ?_ ?_;refine aM 3 Q (SB TK Q (λM q=>?_));cases M;refine aI 3 Q (aX TK Q (aF 3 Q ?_));exact⟨[0],Q,k0,bT (aO (aP (by simp[q])) Q) Q⟩;refine aF 7 Q ?_;exact⟨[0],Q,k0,bT (aO (aP (by simp[q])) Q) Q⟩;refine aB [1,2,22] Q (bI a Q (λC a=>?_) (λC a=>?_))
 ·refine bP 4 Q (sW 4 [some 14] Q (aL 2 Q ?_));obtain rfl:=OJ a;exact EndsS.one _ Q (.d _) (.refl _)
 refine bP 2 Q (fN (bK follows (DA [0] TK Q (DA [] TK Q (DA [0] TK Q (DA [] TK Q (VE a λR H a=>aU [] Q (jQ TK Q Q Q Q H) ?_)))))));iterate 2 (refine DA [] TK Q ?_)
 refine BE a λN I a=>?_;obtain⟨t,U⟩:=N;refine aU [] Q (dX Q Q Q (nZ I)) ?_;iterate 3 (refine DA [] TK Q ?_)
 refine tV [1] _ (.mptr 1 0 0 0) Q (dZ Q) Q (lL Q Q cQ Q Q) (qT 1000002 [1] [(1,.box 128 [.d (.int .i64 t.el),.d (.int .i64 t.side)])] (dZ Q) Q (kK TK Q Q Q Q Q Q Q Q Q Q) ?_);refine DT ?_ (by kernel_rfl);refine aG 9 Q (bI a Q (λG a=>?_) (λG a=>?_));refine bP 4 Q (sW 4 [some 14] Q (aB [4] Q (aL 2 Q ?_)));obtain rfl:=OJ a;exact EndsS.one _ Q (.d _) (.refl _);refine bP 2 Q (aB [1,2,5] Q (aK 2 Q (bB Q (jD Q plc185 I3 Q Q Q Q) (cK 2 Q Q I3 Q (dJ (f:=(λ(l:List Ae)=>D.sl 3 (l.map Ae.enc))) 2 6 3 71 1 Q Q Q (eZ 2 [none,some 1,some 7,some 4,some 4,some 3,none] Q Q (aI 1 Q (dJ (f:=(λ(l:List Ae)=>D.sl 3 (l.map Ae.enc))) 2 6 4 71 1 Q Q Q (aG 2 Q (aB [1,2,5,7] Q (aK 2 Q (s_virtF (f:=Ae.enc) 5 120 3 Q (BE a λO J a=>?_)))))))))))));obtain⟨V,S⟩:=O;refine s_callMW [2,4,5] (λj=>Nat.beq j 1||Nat.beq j 2) Q Q Q (by decide) Q Q Q Q (wR J) (.cons (.refl _) (.cons (.nil _ _) (.cons (.refl _) .nil))) Q Q Q ?_;refine aG 2 Q (aB [1,2,7] Q (aK 1 Q (iC (f:=Al.enc) 6 80 14 Q Q Q (aG 2 Q (aB [1,2,7,8] Q (aK 1 Q (lE 9 3 Q (oZ 40 (.mmap 7) Q Q (aG 3 Q (aB [1,2,7,8,9] Q (aN a (λ(c,m)=>([(8,.msl 6 14 0 c.length)])) (λ(c,m)=>([(6,.flat 80 14 (c.map Al.enc)),(7,.map 9 3 (aV D.str (D.int .i64) m))])) [8] [] Q (λX a=>?_) (λj a=>?_))))))))))))
 ·refine bX 8 Q (bF a (λ(o,e,k)=>([(8,.msl 6 14 0 e.length),(44,.d (.int .i64 o))])) (λ(o,e,k)=>([(6,.flat 80 14 (e.map Al.enc)),(7,.map 9 3 (aV D.str (D.int .i64) k))])) [8,44] [1,2,9,42,43] [0,1,2,3,4,5,6,7] k0 Q (λs Y a L=>?_));obtain⟨o,e,k⟩:=s;refine aB [1,2,8,9,42,43,44] Q (bX 5 Q (bY a Q (λE a=>?_) (λE a=>?_)))
  ·refine aK 5 Q (VE a λP p a=>?_);refine bB Q (eF TK Q Q Q Q p (by first|rfl|simp)) ?_;refine bB Q (gV TK Q Q Q Q p.2 Q) (aI 7 Q (iK a (Bu ·) Q λb a=>cK 8 Q Q oD Q (eZ 8 [none,none,none,some 3,some 2,some 1,none,none,some 3,some 2,some 1,some 2,some 1,some 2] Q Q (aG 3 Q (aB [1,2,8,9,12,42,43,44] Q (aK 4 Q (GE a λu a=>bB Q (vD yC (D.int .i64) _ _ (0:Int) Q Ib fL Q Q Q Q u) (GE a λv a=>bN Q v (GE a λw a=>bz yC (D.int .i64) Ib Q Q Q Q w (aG 2 Q (aB [1,2,8,9,12,42,43,44] Q (aN a (λg=>[]) (λg=>([(8,.box 80 [.d (.str g),.d (.int .i64 b.entry),.d (.int .i64 b.exit),.d (.sl 3 (b.path.map Ae.enc)),.d (.sl 2 (b.A4.map Ab.enc)),.d (.sl 1 (b.Ai.map (D.int .i64))),.d (.int .i64 b.A2),.d (.int .i64 b.length),.d (.sl 3 (b.over.map Ae.enc)),.d (.sl 2 (b.Ax.map Ab.enc)),.d (.sl 1 (b.Aw.map (D.int .i64))),.d (.sl 2 (b.A7.map Ab.enc)),.d (.sl 1 (b.guards.map (D.int .i64))),.d (.sl 2 (b.gaps.map End.enc))])])) [] [1,2,8,9,12,42,43,44] Q (λZ a=>?_) (λg a=>?_)))))))))))));refine aM 4 Q (GE a λx a=>bB Q (vD yC (D.int .i64) _ _ (0:Int) Q Ib fL Q Q Q Q x) (aG 8 Q (bY a Q (λF a=>?_) (λF a=>?_))))
   ·refine eV follows ?_;iterate 3 (refine DA [0,1,2,3,4,5,6,7,8] TK Q ?_)
    refine gA [0,1,2,3,4,5,6,7,8] a (ye ·) Q λT a=>GE a λy a=>aU [0,1,2,3,4,5,6,7,8] Q (I5 Q Q Q y) (GE a λz a=>aU [0,1,2,3,4,5,6,7,8] Q (I5 Q Q Q z) (DA [0,1,2,3,4,5,6,7,8] TK Q ?_));refine DT ?_ (by kernel_rfl);exact aF 2 Q (aZ [0,1,2,3,4,5,6,7,8] a Q Q)
   exact aL 1 Q (aZ [0,1,2,3,4,5,6,7,8] a Q Q);exact aB [1,2,8,9,12,42,43,44] Q (aK 3 Q (iE [.tmp 71] TK Q oD (GE a λA a=>fJ (f:=Al.enc) ([(⟨g,b.entry,b.exit,b.path,b.A4,b.Ai,b.A2,b.length,b.over,b.Ax,b.Aw,b.A7,b.guards,b.gaps⟩:Al)]:List Al) TK Q Q oD Q Q Q Q Q (λh=>absurd h (pS _)) Q eC A Q Q (aG 4 Q (aB [1,2,8,9,42,43,44] Q (aK 1 Q (GE a λB a=>bN Q B (aF 2 Q (cA [0,1,2,3,4,5,6,7] a Q Q)))))))))
  refine aL 2 Q (IE a λW a K=>?_);rw[L _ K]at a;exact WX (bS 1 Q (aZ [0,1,2,3,4,5,6,7] a Q Q))
 obtain⟨c,m⟩:=j;refine aB [8] Q (aL 6 Q ?_);obtain rfl:=OJ a;exact EndsS.one _ Q (aW Q) (.refl _)
theorem Fj{i:Aa}{j:(List Al)}{e:Int}(a:uG i=some (j,e)):RetT TP 11 [i.enc] [.sl 14 (j.map Al.enc),.int .i64 e]:=by
 refine .of (mv:=λ_=>false) (fD (aQ Q) func11 Q ntmps11 Q Q (λwX gX=>?_));unfold uG at a;refine aB [0] Q (aM 1 Q (bU 0 Q Q Q (aI 7 Q (dI a (xZ ·) Q λe a=>aG 8 Q (mT a Q (λo a=>?_) (λo a=>?_))))));refine bP 6 Q (sW 2 [some 14] Q (aL 2 Q ?_));obtain⟨rfl,rfl⟩:=bJ (aS a);exact EndsT.two Q (.d _) (.refl _) (.d _) (.refl _);refine aK 3 Q (iC (f:=Al.enc) 1 80 14 Q Q Q (aG 2 Q (aN a (λb=>([(5,.msl 1 14 0 b.length)])) (λb=>([(1,.flat 80 14 (b.map Al.enc))])) [5] [] Q (λv a=>?_) (λb a=>?_))))
 ·refine aM 3 Q (aX TK Q (aG 4 Q (bF a (λ(g,c)=>([(5,.msl 1 14 0 c.length),(15,.d (.int .i64 g))])) (λ(g,c)=>([(1,.flat 80 14 (c.map Al.enc))])) [5,15] [1,14] [0,1] k0 Q (λs u a q=>?_))));obtain⟨g,c⟩:=s;refine aB [1,5,14,15] Q (bX 5 Q (bY a Q (λm a=>?_) (λm a=>?_)));exact aK 13 Q (iK a (Dn ·) Q λr a=>GE a λk a=>fJ (f:=Al.enc) r TK Q Q oD Q Q Q Q Q (λh=>absurd h (pS _)) Q eC k Q Q (aI 5 Q (GE a λl a=>bN Q l (aF 2 Q (cA [0,1] a Q Q)))));refine aL 2 Q (IE a λt a p=>?_);rw[q _ p]at a;exact WX (bS 1 Q (aZ [0,1] a Q Q))
 refine aB [5] Q (bP 7 Q (bY a Q (λn a=>?_) (λn a=>?_)))
 ·refine bP 5 Q (sW 2 [some 14] Q (aL 2 Q ?_));obtain⟨rfl,rfl⟩:=bJ (aS a);exact EndsT.two Q (.d _) (.refl _) (.d _) (.refl _)
 refine aL 9 Q ?_;obtain⟨rfl,rfl⟩:=bJ (aS a);exact EndsT.two Q (aW Q) (.refl _) (.d _) (.refl _)
theorem xS{c:Aa}{b:Al}{f:As}{g:Bool}(a:gC c b=some (f,g)):Ret TP 100 [] (λ_=>false) ([c.enc,b.enc].map .d) (.tup ([f.enc,.bool (g)].map .d)) []:=by
 refine fD (aQ Q) func100 Q ntmps100 Q Q (λwX gX=>?_);unfold gC at a;refine aB [0,1] Q (aM 1 Q (bU 0 Q Q Q (bU 1 Q Q Q (cK 2 Q Q nW Q (aG 4 Q ?_)))));refine fC [(16,.d (.bool (((decide (b.exit<0))||(decide ((c.Aj.length:Int)<=b.exit))))))] [16] [2,3,4] Q ?_ ?_;refine aM 4 Q (SB TK Q (λj e=>?_));cases j;refine aI 4 Q (aX TK Q (aF 3 Q ?_));exact⟨[0,1,2],Q,k0,bT (aO (aP (by simp[e])) Q) Q⟩;refine aF 8 Q ?_;exact⟨[0,1,2],Q,k0,bT (aO (aP (by simp[e])) Q) Q⟩;refine aB [2,3,4,16] Q (bI a Q (λh a=>?_) (λh a=>?_))
 ·refine aK 1 Q (bB Q (bR Q H4 nW Q Q Q Q) (aF 6 Q ?_));obtain⟨rfl,rfl⟩:=bJ (aS a);exact⟨_,.mk _ (.cons (.agg (TK.lay Q) Q Q Q Q) (.cons (.tmp 5) .nil)) Q,(.cons (.d _) (.refl _) (.cons (.d _) (.refl _) .nil))⟩
 refine aK 7 Q (VE a λk i a=>dL TK Q i (aF 6 Q ?_));obtain⟨rfl,rfl⟩:=bJ (aS a);exact⟨_,.mk _ (.cons (.agg (TK.lay Q) Q Q Q Q) (.cons (.tmp 5) .nil)) Q,(.cons (.d _) (.refl _) (.cons (.d _) (.refl _) .nil))⟩
theorem xT{a:Aa}{b:Al}{c:As}{d:Bool}(e:gC a b=some (c,d)):RetT TP 100 [a.enc,b.enc] [c.enc,.bool (d)]:=.of (mv:=λ_=>false) (xS e)
theorem zW{b:Ae}{c:Int}{r:Bool}(a:lO b c=some r):RetN TP 161 [b.enc,.ptr (.agg [.int .i64 c]) 0] (.bool (r)):=by
 refine .unit (aJ (aQ Q) func161 Q ntmps161 Q Q (λwX gX=>?_)) Q;unfold lO at a;exact aB [0,1] Q (aM 1 Q (bU 0 Q Q Q (aF 12 Q (aY a Q))))
theorem uD{h:(List Ae)}{i:Ae->Option Bool}{f:D}(q:∀e r,i e=some r->∃F cs,sV f=some (F,cs)/\RetD TP F ([e.enc]++cs) (.bool (r))){r:Int}(a:iP h i=some r):RetN TP 190 [.sl 3 (h.map Ae.enc),f] (.int .i64 r):=by
 refine .unit (aJ (aQ Q) func190 Q ntmps190 Q Q (λwX gX=>?_)) Q;unfold iP at a;refine aB [0,1] Q (bX 4 Q (cH a (λ_=>[]) (λ_=>[]) [] [] Q (λA a t=>?_) (λj a=>?_)));refine aM 2 Q (aX TK Q (aG 4 Q (bF a (λc=>([(8,.d (.int .i64 c))])) (λc=>[]) [8] [0,1,7] [] k0 Q (λc B a g=>aB [0,1,7,8] Q (bX 5 Q (bY a Q (λl a=>?_) (λl a=>?_)))))))
 ·refine aK 13 Q (VE a λv p a=>dL TK Q p (aI 1 Q (BE a λw s a=>?_)));obtain⟨Fr7,u,n,o⟩:=q _ _ s;refine bB Q (pB Q Q n Q o) (aG 2 Q (bI a Q (λm a=>?_) (λm a=>?_)));refine aL 8 Q (IE a λz a b=>?_);rw[g _ b]at a;refine WR (bS 1 Q (IE a λx a b=>?_));rw[t _ b]at a;exact WR (aY a Q);exact aK 4 Q (GE a λk a=>bN Q k (aF 2 Q (cA [] a Q Q)))
 refine aL 2 Q (IE a λy a b=>?_);rw[g _ b]at a;exact WX (bS 1 Q (cA [] a Q Q));exact aB [] Q (aL 5 Q (aY a Q))
theorem eG{d:(List Ae)}{e:Ae->Option Bool}{c:D}(f:∀b r,e b=some r->∃F cs,sV c=some (F,cs)/\RetD TP F ([b.enc]++cs) (.bool (r))){r:Bool}(a:cO d e=some r):RetN TP 160 [.sl 3 (d.map Ae.enc),c] (.bool (r)):=by
 refine .unit (aJ (aQ Q) func160 Q ntmps160 Q Q (λwX gX=>?_)) Q;unfold cO at a;exact aB [0,1] Q (aM 7 Q (BE a λh g a=>bB Q (RN Q Q (hZ Q) (uD f g)) (aF 5 Q (aY a Q))))
theorem kk{b:(List Ae)}{c:Int}{r:Bool}(a:lX b c=some r):RetN TP 101 [.sl 3 (b.map Ae.enc),.int .i64 c] (.bool (r)):=by
 refine .unit (aJ (aQ Q) func101 Q ntmps101 Q Q (λwX gX=>?_)) Q;unfold lX at a;exact aB [0,1] Q (aM 1 Q (bU 0 Q Q Q (aG 3 Q (vn 0 Q Q Q Q Q (aK 3 Q (BE a λe d a=>bB Q (RN Q Q (hZ Q) (eG (λ_ r h=>⟨161,_,Q,(zW h).retD⟩) d)) (aF 4 Q (aY a Q))))))))
theorem bw{f:(List Int)}{g:Int}{r:Int}(a:mJ f g=some r):RetN TP 130 [.sl 1 (f.map (D.int .i64)),.int .i64 g] (.int .i64 r):=by
 refine .unit (aJ (aQ Q) func130 Q ntmps130 Q Q (λwX gX=>?_)) Q;unfold mJ at a;refine aB [0,1] Q (bX 4 Q (cH a (λ_=>[]) (λ_=>[]) [] [] Q (λs a m=>?_) (λj a=>?_)));refine aM 2 Q (aX TK Q (aG 4 Q (bF a (λc=>([(8,.d (.int .i64 c))])) (λc=>[]) [8] [0,1,7] [] k0 Q (λc t a e=>aB [0,1,7,8] Q (bX 5 Q (bY a Q (λi a=>?_) (λi a=>?_)))))))
 ·refine aK 13 Q (VE a λn l a=>dL TK Q l (aG 4 Q (bY a Q (λk a=>?_) (λk a=>?_))))
  ·refine aL 8 Q (IE a λp a b=>?_);rw[e _ b]at a;refine WR (bS 1 Q (IE a λq a b=>?_));rw[m _ b]at a;exact WR (aY a Q)
  exact aK 4 Q (GE a λh a=>bN Q h (aF 2 Q (cA [] a Q Q)))
 refine aL 2 Q (IE a λo a b=>?_);rw[e _ b]at a;exact WX (bS 1 Q (cA [] a Q Q));exact aB [] Q (aL 5 Q (aY a Q))
theorem iR{b:(List Int)}{c:Int}{r:Bool}(a:dY b c=some r):RetN TP 75 [.sl 1 (b.map (D.int .i64)),.int .i64 c] (.bool (r)):=by
 refine .unit (aJ (aQ Q) func75 Q ntmps75 Q Q (λwX gX=>?_)) Q;unfold dY at a;exact aB [0,1] Q (aM 7 Q (dI a (bw ·) Q λd a=>aF 5 Q (aY a Q)))
theorem xR{b:Int}{c:(List Int)}{r:Bool}(a:iM b c=some r):RetN TP 102 [.int .i64 b,.sl 1 (c.map (D.int .i64))] (.bool (r)):=by
 refine .unit (aJ (aQ Q) func102 Q ntmps102 Q Q (λwX gX=>?_)) Q;unfold iM at a;exact aB [0,1] Q (aM 7 Q (dI a (iR ·) Q λd a=>aF 4 Q (aY a Q)))
theorem vy{u:Aa}{v:Al}{r:(List Ae)}(a:nI u v=some r):RetD TP 50 [u.enc,v.enc] (.sl 3 (r.map Ae.enc)):=by
 refine .of (mv:=λ_=>false) (aJ (aQ Q) func50 Q ntmps50 Q Q (λwX gX=>?_));unfold nI at a;refine aB [0,1] Q (aM 1 Q (bU 0 Q Q Q (bU 1 Q Q Q (aI 6 Q (BE a λO G a=>?_)))));obtain⟨T,V⟩:=O;refine bB Q (dX Q Q Q (xT G)) (aI 3 Q (cK 2 Q Q nW Q (aG 10 Q (bI a Q (λC a=>?_) (λC a=>?_)))));refine bP 4 Q (sW 4 [some 3] Q (aB [4] Q (aL 2 Q ?_)));obtain rfl:=OJ a;exact EndsS.one _ Q (.d _) (.refl _);refine aK 3 Q (iC (f:=Ae.enc) 3 120 3 Q Q Q (aI 6 Q (BE a λR K a=>?_)));obtain⟨a1,a2⟩:=R;refine bB Q (dX Q Q Q (nZ K)) (aI 3 Q (cK 4 Q Q cQ Q (aG 4 Q (aB [2,3,5,6,7,8] Q (aN a (λ(e,l,g)=>([(7,.msl 3 3 0 e.length)])) (λ(e,l,g)=>([(3,.flat 120 3 (e.map Ae.enc)),(4,.box 128 [.d (.int .i64 l),.d (.int .i64 g)])])) [7] [] Q (λa6 a=>?_) (λj a=>?_))))));refine bX 1 Q (bF a (λ(ok17,i,k,c)=>([(6,.d (.bool (ok17))),(7,.msl 3 3 0 c.length)])) (λ(ok17,i,k,c)=>([(3,.flat 120 3 (c.map Ae.enc)),(4,.box 128 [.d (.int .i64 i),.d (.int .i64 k)])])) [6,7] [2,3,5,8] [0,1,2,3,4] k0 Q (λs a7 a m=>?_));obtain⟨ok17,i,k,c⟩:=s;refine aB [2,3,5,6,7,8] Q (bX 1 Q (aN a (λn=>([(38,.d (.bool (n)))])) (λn=>[]) [38] [2,3,5,7,8] Q (λa8 a=>?_) (λn a=>?_)));refine fU follows (DA [0,1,2,3,4] TK Q (bn [0,1,2,3,4] TK Q (λL p=>?_)));cases L;replace a:=JB p a;iterate 12 (refine DA [0,1,2,3,4] TK Q ?_)
 refine DT ?_ (by kernel_rfl);exact aF 1 Q (aZ [0,1,2,3,4] a Q Q);replace a:=JA p a;iterate 2 (refine DA [0,1,2,3,4] TK Q ?_)
 refine BE a λU H a=>aU [0,1,2,3,4] Q (RN Q Q (SC (.d _) (SC (aW Q) SN)) (nD H)) ?_;iterate 4 (refine DA [0,1,2,3,4] TK Q ?_)
 refine bn [0,1,2,3,4] TK Q (λM q=>?_);cases M;replace a:=JF q a;iterate 4 (refine DA [0,1,2,3,4] TK Q ?_)
 refine DT ?_ (by kernel_rfl);exact aF 1 Q (aZ [0,1,2,3,4] a Q Q);replace a:=JT q a;iterate 4 (refine DA [0,1,2,3,4] TK Q ?_)
 refine DT ?_ (by kernel_rfl);exact aF 1 Q (aZ [0,1,2,3,4] a Q Q);refine aB [2,3,5,7,8,38] Q (bI a Q (λz a=>?_) (λz a=>?_))
 ·refine bP 4 Q (aN a (λo=>([(51,.d (.bool (o)))])) (λo=>[]) [51] [2,3,5,7,8] Q (λa9 a=>?_) (λo a=>?_))
  ·refine fU follows ?_;iterate 3 (refine DA [0,1,2,3,4] TK Q ?_)
   refine BE a λW I a=>aU [0,1,2,3,4] Q (RN Q Q (SC (aW Q) (hZ Q)) (kk I)) (bn [0,1,2,3,4] TK Q (λN t=>?_));cases N;replace a:=JB t a;iterate 3 (refine DA [0,1,2,3,4] TK Q ?_)
   refine gA [0,1,2,3,4] a (eN ·) Q λX a=>?_;iterate 2 (refine DA [0,1,2,3,4] TK Q ?_)
   refine gA [0,1,2,3,4] a (xR ·) Q λY a=>DA [0,1,2,3,4] TK Q ?_;refine DT ?_ (by kernel_rfl);exact aF 1 Q (aZ [0,1,2,3,4] a Q Q);replace a:=JA t a;iterate 8 (refine DA [0,1,2,3,4] TK Q ?_)
   refine DT ?_ (by kernel_rfl);exact aF 1 Q (aZ [0,1,2,3,4] a Q Q)
  refine aB [2,3,5,7,8,51] Q (bI a Q (λA a=>?_) (λA a=>?_))
  ·refine aL 3 Q (IE a λa3 a b=>?_);rw[m _ b]at a;exact WX (bS 1 Q (aZ [0,1,2,3,4] a Q Q))
  refine aK 5 Q (iK a (wF ·) Q λZ a=>aI 6 Q (aX TK Q (aG 3 Q (bY a Q (λB a=>?_) (λB a=>?_)))))
  ·refine aL 3 Q (IE a λa4 a b=>?_);rw[m _ b]at a;exact WX (bS 1 Q (aZ [0,1,2,3,4] a Q Q))
  refine aK 5 Q (VE a λx E a=>dL TK Q E (aI 1 Q (iE [.tmp 61] TK Q dG (GE a λy a=>fJ (f:=Ae.enc) ([x]:List Ae) TK Q Q dG Q Q Q Q Q (λh=>absurd h (pS _)) Q eC y Q Q (aG 3 Q (aB [2,3,5,7,8,9] Q (eV follows (DA [0] TK Q (DA [] TK Q (VE a λS F a=>aU [] Q (jQ TK Q Q Q Q F) (DA [] TK Q (BE a λP J a=>?_))))))))))));obtain⟨w,a0⟩:=P;refine aU [] Q (dX Q Q Q (qq J)) ?_;iterate 3 (refine DA [] TK Q ?_)
  refine qT 1000012 [4] [(4,.box 128 [.d (.int .i64 w.el),.d (.int .i64 w.side)])] (dZ Q) Q (kK TK Q Q Q Q Q Q Q Q Q Q) ?_;refine DT ?_ (by kernel_rfl);exact aF 3 Q (cA [0,1,2,3,4] a Q Q)
 refine aL 2 Q (IE a λa5 a b=>?_);rw[m _ b]at a;exact WX (bS 1 Q (aZ [0,1,2,3,4] a Q Q));obtain⟨e,l,g⟩:=j;refine aB [7] Q (aL 6 Q ?_);obtain rfl:=OJ a;exact EndsS.one _ Q (aW Q) (.refl _)
theorem iB{b:(List Ab)}{r:(List Ab)}(a:dT b=some r):RetD TP 38 [.sl 2 (b.map Ab.enc)] (.sl 2 (r.map Ab.enc)):=by
 refine .of (mv:=λ_=>false) (aJ (aQ Q) func38 Q ntmps38 Q Q (λwX gX=>?_));unfold dT at a;refine aB [0] Q (aM 7 Q (tB Q Tryz.underlying77 Q Q (λg hb1=>aG 2 Q (TC _ Q (λc=>?_) (λc=>?_)))));obtain⟨hnb1,a⟩:=vb (hb1 c) a;subst hnb1;refine bP 4 Q (sW 2 [some 2] Q (aL 2 Q ?_));obtain rfl:=OJ a;exact EndsS.one _ Q (.d _) (.refl _);replace a:=vd a;refine aK 3 Q (xI (f:=Ab.enc) 0 [] ([]:List Ab) TK Q Q Q hP Q Q Q Q Q (aI 1 Q (GE a λe a=>fJ (f:=Ab.enc) b TK Q Q hP Q Q Q Q Q (λh=>absurd h (pS _)) Q eC e Q Q (aF 4 Q ?_))));obtain rfl:=OJ a;exact EndsS.one _ Q (aW Q) (.refl _)
theorem cB{b:(List Int)}{r:(List Int)}(a:bW b=some r):RetD TP 39 [.sl 1 (b.map (D.int .i64))] (.sl 1 (r.map (D.int .i64))):=by
 refine .of (mv:=λ_=>false) (aJ (aQ Q) func39 Q ntmps39 Q Q (λwX gX=>?_));unfold bW at a;refine aB [0] Q (aM 7 Q (tB Q Tryz.underlying37 Q Q (λg hb1=>aG 2 Q (TC _ Q (λc=>?_) (λc=>?_)))));obtain⟨hnb1,a⟩:=vb (hb1 c) a;subst hnb1;refine bP 4 Q (sW 2 [some 1] Q (aL 2 Q ?_));obtain rfl:=OJ a;exact EndsS.one _ Q (.d _) (.refl _);replace a:=vd a;refine aK 3 Q (xI (f:=(D.int .i64)) 0 [] ([]:List Int) TK Q Q Q fL Q Q Q Q Q (aI 1 Q (GE a λe a=>fJ (f:=(D.int .i64)) b TK Q Q fL Q Q Q Q Q (λh=>absurd h (pS _)) Q eC e Q Q (aF 4 Q ?_))));obtain rfl:=OJ a;exact EndsS.one _ Q (aW Q) (.refl _)
theorem bx{b:(List End)}{r:(List End)}(a:jW b=some r):RetD TP 51 [.sl 2 (b.map End.enc)] (.sl 2 (r.map End.enc)):=by
 refine .of (mv:=λ_=>false) (aJ (aQ Q) func51 Q ntmps51 Q Q (λwX gX=>?_));unfold jW at a;refine aB [0] Q (aM 7 Q (tB Q Tryz.underlying78 Q Q (λg hb1=>aG 2 Q (TC _ Q (λc=>?_) (λc=>?_)))));obtain⟨hnb1,a⟩:=vb (hb1 c) a;subst hnb1;refine bP 4 Q (sW 2 [some 2] Q (aL 2 Q ?_));obtain rfl:=OJ a;exact EndsS.one _ Q (.d _) (.refl _);replace a:=vd a;refine aK 3 Q (xI (f:=End.enc) 0 [] ([]:List End) TK Q Q Q cQ Q Q Q Q Q (aI 1 Q (GE a λe a=>fJ (f:=End.enc) b TK Q Q cQ Q Q Q Q Q (λh=>absurd h (pS _)) Q eC e Q Q (aF 4 Q ?_))));obtain rfl:=OJ a;exact EndsS.one _ Q (aW Q) (.refl _)
theorem yx{b:Aa}{c:Al}{r:Al}(a:pD b c=some r):RetD TP 13 [b.enc,c.enc] (r.enc):=by
 refine .of (mv:=λ_=>false) (aJ (aQ Q) func13 Q ntmps13 Q Q (λwX gX=>?_));unfold pD at a;refine aB [0,1] Q (aM 1 Q (bU 0 Q Q Q (bU 1 Q Q Q (cK 2 Q Q oD Q (eZ 2 [none,none,none,some 3,some 2,some 1,none,none,some 3,some 2,some 1,some 2,some 1,some 2] Q Q (aI 5 Q (iK a (vy ·) Q λe a=>aI 6 Q (iK a (eR ·) Q λf a=>aI 7 Q (iK a (iB ·) Q λg a=>aI 7 Q (iK a (cB ·) Q λh a=>aG 4 Q (aB [2,3,4,5] Q (aK 3 Q (iK a (iB ·) Q λi a=>aI 7 Q (iK a (cB ·) Q λj a=>aI 7 Q (iK a (bx ·) Q λk a=>aI 13 Q (iK a (wD ·) Q λl a=>?_))))))))))))))));refine aG 4 Q (aB [2,3,4,5] Q (aK 3 Q (iK a (wE ·) Q λm a=>aF 10 Q ?_)));obtain rfl:=OJ a;exact EndsS.cellR _ TK Q Q Q Q Q (.d _)
theorem vJ(n:Nat)(hn:n<=1000000000)(mv:Nat->Bool):Ret TP 91 [] mv ([.nilsl,.int .i64 n].map .d) (.msl 0 3 0 0) [.flat 120 3 []]:=by
 refine eB (aQ Q) func91 Q ntmps91 Q Q (λwX gX=>cV [0,1] (cC Q (cC Q .nil)) (dN Q) (RS (fH _ Q (pZ (.inr Q) Q) (TN (cV [0,1] (cC Q (cC Q .nil)) (dN Q) (TQ (RS (fH _ Q (pZ (.inl Q) Q) (fH _ Q (fk Q Q Q Q) (TN (cV [0,1,6] (cC Q (cC Q (cC Q .nil))) (dN Q) (TC _ Q (λhneg=>?_) (λhneg=>?_)))))))))))));exact absurd (of_decide_eq_true hneg) (by omega);refine TS (WT (cV [0,1] (cC Q (cC Q .nil)) (dN Q) (TQ (RS (fH _ Q (pZ (.inl Q) Q) (fH _ Q (pZ (.inl Q) Q) (fH _ Q (Jw Q bi Q) (fH _ Q (pZ (.inl Q) Q) (fH _ Q (ew Q bi Q) ?_)))))))));refine fH _ Q (z7 (r:=0) Q Q Q Q Q (by first|omega|(constructor<;>omega))) ?_;refine fH _ Q (z7 (r:=(n:Int)) Q Q Q Q (by omega) (by first|omega|(constructor<;>omega))) ?_;refine fH _ Q (pZ (.inr Q) Q) (TN (cV [0,1] (cC Q (cC Q .nil)) (dN Q) (RS (fH _ Q (pZ (.inl Q) Q) (fH _ Q (fk Q Q Q Q) (TN (cV [0,1,16] (cC Q (cC Q (cC Q .nil))) (dN Q) (TC _ Q (λhpos=>?_) (λhpos=>?_)))))))));have hpos:0<n:=by simpa using hpos
 refine TG (fH _ Q (pZ (.inl Q) Q) (fH _ Q (pZ (.inl Q) Q) (fH _ Q (Jw Q bi Q) (fH _ Q (cut_nil Q bi Q Q Q) (fH _ Q (pZ (.inl Q) Q) ?_)))));refine s_zeros (n:=n) Q bi Tryz.underlying3 dG Q Q Q hpos (by decide) (by omega) (by omega) ?_;refine fH _ Q (pZ (.inl Q) Q) (fH _ Q (ew Q bi Q) (fH _ Q (yp 0 3 24 0 n 0 0 Q bi Q Q Q (wt _) (cN _)) (fH _ Q (tS (.inr Q) Q) (TN (WT (cV [0] (mI Q .nil) (jJ Q (dN Q)) (RS (fH _ Q (tS (.inl Q) Q) (fH _ Q (tS (.inr Q) Q) (TN (cV [4] (mI Q .nil) (jJ Q (dN Q)) (TR ?_))))))))))));exact⟨_,[0],res Q,by decide,λi hi=>absurd hi (pS i),Q,Q⟩;refine E1 0 120 3 Q (TS (WT (cV [0] (mI Q .nil) (jJ Q (dN Q)) (RS (fH _ Q (tS (.inl Q) Q) (fH _ Q (tS (.inr Q) Q) (TN (cV [4] (mI Q .nil) (jJ Q (dN Q)) (TR ?_)))))))));exact⟨_,[0],res Q,by decide,λi hi=>absurd hi (pS i),Q,Q⟩
theorem tO(xss:List (List Ae))(hn:xss.length<=1000)(ht:xss.flatten.length<=1000000000)(mv:Nat->Bool):Ret TP 40 [] mv ([.sl 1 (xss.map λl=>.sl 3 (l.map Ae.enc))].map .d) (.msl 0 3 0 xss.flatten.length) [.flat 120 3 (xss.flatten.map Ae.enc)]:=by
 refine eB (aQ Q) func40 Q ntmps40 Q Q (λwX gX=>cV [0] (cC Q .nil) (dN Q) (RS (fH _ Q (pZ (.inr Q) Q) (TN (cV [0] (cC Q .nil) (dN Q) (RS (fH _ Q (pZ (.inr Q) Q) (TN (cV [0,3] (cC Q (cC Q .nil)) (dN Q) (TQ (RS (fH _ Q (pZ (.inl Q) Q) ?_))))))))))));refine fH _ Q (by first|exact Jl Q gz Q (by first|exact Bo _|rfl)|exact ew Q gz Q) ?_;refine fH _ Q (pZ (.inl Q) Q) (TN (cV [0,3,9,10,11] (cC Q (cC Q (cC Q (cC Q (cC Q .nil))))) (dN Q) (TB ?_)));refine bu (λi=>([(3,.d (.int .i64 ((mD xss i).length:Int))),(11,.d (.int .i64 ((i:Nat):Int)))])) (λi=>[]) (λi=>i<=xss.length) (λi=>xss.length-i) [3,11] [0,9,10] [] 0 (by decide) (λi hi=>absurd hi (pS i)) (cN _) (cC Q (cC Q (cC Q .nil))) Q (by rw[qd];rfl) (dN Q) Q ?_;rintro i hok;refine cV [3,11,0,9,10] (cC Q (cC Q (cC Q (cC Q (cC Q .nil))))) (dN Q) (RS (fH _ Q (fk Q Q Q Q) (TN (cV [0,3,9,10,11,12] (cC Q (cC Q (cC Q (cC Q (cC Q (cC Q .nil)))))) (dN Q) (TQ (TC _ Q (λhlt=>?_) (λhlt=>?_)))))))
 ·have hlt:i<xss.length:=by simpa using hlt
  obtain⟨x,hx⟩:∃x,(xss)[i]?=some x:=⟨_,lR (by first|exact hlt|omega|(simp;omega))⟩;have hs:=Co hx;have hle:=Ec xss (i+1);refine TS (WT (cV [0,3,9,10,11] (cC Q (cC Q (cC Q (cC Q (cC Q .nil))))) (dN Q) (TQ (TB (RS (fH _ Q (y8 Q gz Q Q (Jn hx)) (fH _ Q (F2 Q lay71 Q Q) (fH _ Q (pZ (.inr Q) Q) (TN (cV [0,3,5,9,10,11] (cC Q (cC Q (cC Q (cC Q (cC Q (cC Q .nil)))))) (dN Q) (RS (fH _ Q (pZ (.inl Q) Q) (fH _ Q (pZ (.inl Q) Q) ?_)))))))))))));refine fH _ Q (by first|exact Jl Q bi Q (by first|exact Bo _|rfl)|exact ew Q bi Q) ?_;refine fH _ Q (z7 (r:=((mD xss (i+1)).length:Int)) Q Q Q Q (by rw[hs];simp) (by omega)) ?_;refine fH _ Q (pZ (.inr Q) Q) (TN (cV [0,3,9,10,11] (cC Q (cC Q (cC Q (cC Q (cC Q .nil))))) (dN Q) (RS (fH _ Q (pZ (.inl Q) Q) (fH _ Q (fk Q Q Q Q) (TN (cV [0,3,9,10,11,20] (cC Q (cC Q (cC Q (cC Q (cC Q (cC Q .nil)))))) (dN Q) (TC _ Q (λhneg=>?_) (λhneg=>?_)))))))));exact absurd (of_decide_eq_true hneg) (by omega);refine TS (WK (WT (cV [0,3,9,10,11] (cC Q (cC Q (cC Q (cC Q (cC Q .nil))))) (dN Q) (TG ?_))));refine fH _ Q (ge Q Q Q Q (by first|omega|(constructor<;>omega))) ?_;refine fH _ Q (pZ (.inl Q) Q) (TN (WT ?_));exact⟨(i+1),[],by decide,(λi hi=>absurd hi (pS i)),(by omega),(by omega),Q⟩
 have hge:¬i<xss.length:=by simpa using hlt
 have hi:i=xss.length:=by omega
 refine yb (WX (WX (WH (WT (cV [0,3] (cC Q (cC Q .nil)) (dN Q) (RS (fH _ Q (pZ (.inl Q) Q) ?_)))))));refine kM Q Q Q (vJ _ (by have:=Ec xss i;omega) (λ_=>false)) Q Q ?_;refine fH _ Q (tS (.inr Q) Q) (TN (cV [0,6] (cC Q (mI Q .nil)) (jJ Q (dN Q)) (TQ (RS (fH _ Q (pZ (.inl Q) Q) ?_)))));refine fH _ Q (by first|exact Jl Q gz Q (by first|exact Bo _|rfl)|exact ew Q gz Q) ?_;refine fH _ Q (pZ (.inl Q) Q) (TN (cV [6,25,26,27] (mI Q (cC Q (cC Q (cC Q .nil)))) (jJ Q (dN Q)) (TB ?_)));refine bu (λi=>([(6,.msl 0 3 0 (mD xss i).length),(27,.d (.int .i64 ((i:Nat):Int)))])) (λi=>([(0,.flat 120 3 ((mD xss i).map Ae.enc))])) (λi=>i<=xss.length) (λi=>xss.length-i) [6,27] [25,26] [0] 0 (by decide) (λi hi=>absurd hi (pS i)) (cN _) (cC Q (cC Q .nil)) Q (by rw[qd];rfl) (jJ Q (dN Q)) (by rw[qd];rfl) ?_;rintro i hok;refine cV [6,27,25,26] (mI Q (cC Q (cC Q (cC Q .nil)))) (jJ Q (dN Q)) (RS (fH _ Q (fk Q Q Q Q) (TN (cV [6,25,26,27,28] (mI Q (cC Q (cC Q (cC Q (cC Q .nil))))) (jJ Q (dN Q)) (TQ (TC _ Q (λhlt=>?_) (λhlt=>?_)))))))
 ·have hlt:i<xss.length:=by simpa using hlt
  obtain⟨x,hx⟩:∃x,(xss)[i]?=some x:=⟨_,lR (by first|exact hlt|omega|(simp;omega))⟩;have hs:=Co hx;have hle:=Ec xss (i+1);have hsl:(mD xss (i+1)).length=(mD xss i).length+x.length:=by rw[hs];simp
  refine TS (WT (cV [6,25,26,27] (mI Q (cC Q (cC Q (cC Q .nil)))) (jJ Q (dN Q)) (TQ (TB (RS (fH _ Q (y8 Q gz Q Q (Jn hx)) (fH _ Q (F2 Q lay71 Q Q) (fH _ Q (pZ (.inr Q) Q) (TN (cV [6,8,25,26,27] (mI Q (cC Q (cC Q (cC Q (cC Q .nil))))) (jJ Q (dN Q)) (TG (fH _ Q (tS (.inl Q) Q) (fH _ Q (pZ (.inl Q) Q) ?_)))))))))))));refine Ff (m:=(mD xss (i+1)).length) (ds:=x.map Ae.enc) (es':=(mD xss (i+1)).map Ae.enc) Q bi dG Q Q Q (by simp) (λh=>absurd h (pS _)) Q ⟨Q,(by first|rfl|(simp[xk,C5];done)|(rw[<- List.map_drop,C3 (by simp)]))⟩ (by rw[hs];simp) (by simp;omega) (by omega) (by omega) Q Q ?_;refine fH _ Q (tS (.inr Q) Q) (TN (WK (WT (cV [6,25,26,27] (mI Q (cC Q (cC Q (cC Q .nil)))) (jJ Q (dN Q)) (TG ?_)))));refine fH _ Q (ge Q Q Q Q (by first|omega|(constructor<;>omega))) ?_;refine fH _ Q (pZ (.inl Q) Q) (TN (WT ?_));exact⟨(i+1),[0],by decide,(λi hi=>absurd hi (pS i)),(by omega),(by omega),Q⟩
 have hge:¬i<xss.length:=by simpa using hlt
 have hi:i=xss.length:=by omega
 have hall:=flat_all hge;refine yb (WX (WX (WH (WT (cV [6] (mI Q .nil) (jJ Q (dN Q)) (RS (fH _ Q (tS (.inl Q) Q) (fH _ Q (tS (.inr Q) Q) (TN (cV [2] (mI Q .nil) (jJ Q (dN Q)) (TR ?_)))))))))));rw[hall];exact⟨_,[0],res Q,by decide,λi hi=>absurd hi (pS i),Q,Q⟩
theorem xH{b:List (List Ae)}{r:List Ae}(a:kL b=some r):RetN TP 40 [.sl 1 (b.map (λl=>D.sl 3 (l.map Ae.enc)))] (.sl 3 (r.map Ae.enc)):=by
 unfold kL at a;refine GE a λg a=>?_;obtain rfl:=OJ a;exact .flat (tO b g.1 g.2 (λ_=>false)) (by rw[Bo]) (λe he=>by obtain⟨x,_,rfl⟩:=zal76q.1 he;rfl)
theorem ze{i:Aa}{b:Ae}{r:(List End)}(a:pI i b=some r):RetD TP 41 [i.enc,b.enc] (.sl 2 (r.map End.enc)):=by
 refine .of (mv:=λ_=>false) (aJ (aQ Q) func41 Q ntmps41 Q Q (λwX gX=>?_));unfold pI at a;refine aB [0,1] Q (aM 1 Q (bU 0 Q Q Q (bU 1 Q Q Q (aG 4 Q ?_))));refine fC [(20,.d (.bool (((decide (b.el<0))||(decide ((i.Ad.length:Int)<=b.el))))))] [20] [2,3] Q ?_ ?_;refine aM 4 Q (SB TK Q (λy j=>?_));cases y;refine aI 4 Q (aX TK Q (aF 3 Q ?_));exact⟨[0,1],Q,k0,bT (aO (aP (by simp[j])) Q) Q⟩;refine aF 8 Q ?_;exact⟨[0,1],Q,k0,bT (aO (aP (by simp[j])) Q) Q⟩;refine aB [2,3,20] Q (bI a Q (λq a=>?_) (λq a=>?_))
 ·refine bP 4 Q (sW 4 [some 2] Q (aL 2 Q ?_));obtain rfl:=OJ a;exact EndsS.one _ Q (.d _) (.refl _)
 refine aK 7 Q (VE a λB u a=>dL TK Q u (aI 12 Q (BE a λA v a=>?_)));obtain⟨E,F⟩:=A;refine bB Q (dX Q Q Q (tE v)) (aG 7 Q (aB [3,5,7] Q (bP 5 Q (bI a Q (λt a=>?_) (λt a=>?_)))));refine bP 4 Q (sW 4 [some 2] Q (aL 2 Q ?_));obtain rfl:=OJ a;exact EndsS.one _ Q (.d _) (.refl _);refine aK 3 Q (iC (f:=End.enc) 2 128 2 Q Q Q (aG 2 Q (aN a (λg=>([(8,.msl 2 2 0 g.length)])) (λg=>([(2,.flat 128 2 (g.map End.enc))])) [8] [] Q (λI a=>?_) (λg a=>?_))))
 ·refine aM 2 Q (dI a (em ·) Q λC a=>aG 4 Q (bF a (λ(c,e)=>([(8,.msl 2 2 0 e.length),(41,.d (.int .i64 c))])) (λ(c,e)=>([(2,.flat 128 2 (e.map End.enc))])) [8,41] [3,40] [0,1,2] k0 Q (λs H a x=>?_)));obtain⟨c,e⟩:=s;refine aB [3,8,40,41] Q (bX 5 Q (bY a Q (λo a=>?_) (λo a=>?_)));refine bP 9 Q (fC [(53,.d (.bool (((!(decide (c=b.inV)))&&(!(decide (c=b.out)))))))] [53] [3,8,9,40,41] Q ?_ ?_)
  ·refine aM 5 Q (SB TK Q (λz k=>?_));cases z;refine aF 6 Q ?_;exact⟨[0,1,2],Q,k0,bT (aO (aP (by simp[k])) Q) Q⟩;refine aF 6 Q ?_;exact⟨[0,1,2],Q,k0,bT (aO (aP (by simp[k])) Q) Q⟩
  refine aB [3,8,9,40,41,53] Q (bI a Q (λp a=>?_) (λp a=>?_))
  ·exact aK 5 Q (bB Q (bR Q pC cQ Q Q Q Q) (iE [.tmp 58] TK Q cQ (GE a λl a=>fJ (f:=End.enc) ([(⟨b.el,c⟩:End)]:List End) TK Q Q cQ Q Q Q Q Q (λh=>absurd h (pS _)) Q eC l Q Q (aI 5 Q (GE a λm a=>bN Q m (aF 2 Q (cA [0,1,2] a Q Q)))))))
  exact aK 4 Q (GE a λn a=>bN Q n (aF 2 Q (cA [0,1,2] a Q Q)));refine aL 2 Q (IE a λG a w=>?_);rw[x _ w]at a;exact WX (bS 1 Q (aZ [0,1,2] a Q Q))
 refine aB [8] Q (aL 6 Q ?_);obtain rfl:=OJ a;exact EndsS.one _ Q (aW Q) (.refl _)
theorem tH{b:Ae}{c:Int}{r:Bool}(a:iV b c=some r):RetN TP 180 [b.enc,.ptr (.agg [.int .i64 c]) 0] (.bool (r)):=by
 refine .unit (aJ (aQ Q) func180 Q ntmps180 Q Q (λwX gX=>?_)) Q;unfold iV at a;exact aB [0,1] Q (aM 1 Q (bU 0 Q Q Q (aF 12 Q (aY a Q))))
theorem zb{e:Al}{f:Int}{r:Bool}(a:pH e f=some r):RetN TP 138 [e.enc,.int .i64 f] (.bool (r)):=by
 refine .unit (aJ (aQ Q) func138 Q ntmps138 Q Q (λwX gX=>?_)) Q;unfold pH at a;refine aB [0,1] Q (aM 1 Q (bU 0 Q Q Q (bU 1 Q Q Q (aG 3 Q (vn 1 Q Q Q Q Q (bP 5 Q (aN a (λb=>([(4,.d (.bool (b)))])) (λb=>[]) [4] [] Q (λm a=>?_) (λb a=>?_))))))));refine aM 4 Q (BE a λk g a=>bB Q (RN Q Q (hZ Q) (eG (λ_ r h=>⟨180,_,Q,(tH h).retD⟩) g)) (SB TK Q (λj c=>?_)));cases j;replace a:=JB c a;exact aI 3 Q (BE a λl i a=>bB Q (RN Q Q (hZ Q) (eG (λ_ r h=>⟨180,_,Q,(tH h).retD⟩) i)) (aF 3 Q (aZ [0,1] a Q Q)));replace a:=JA c a;exact aF 7 Q (aZ [0,1] a Q Q);exact aB [4] Q (aL 1 Q (aY a Q))
theorem vH{g:(List Ab)}{h:Ab}{r:Int}(a:iZ g h=some r):RetN TP 208 [.sl 2 (g.map Ab.enc),h.enc] (.int .i64 r):=by
 refine .unit (aJ (aQ Q) func208 Q ntmps208 Q Q (λwX gX=>?_)) Q;unfold iZ at a;refine aB [0,1] Q (aM 1 Q (bU 0 Q Q Q (aG 3 Q (cH a (λ_=>[]) (λ_=>[]) [] [] Q (λt a n=>?_) (λj a=>?_)))));refine aM 2 Q (aX TK Q (aG 4 Q (bF a (λc=>([(8,.d (.int .i64 c))])) (λc=>[]) [8] [0,3,7] [0] k0 Q (λc u a f=>aB [0,3,7,8] Q (bX 5 Q (bY a Q (λk a=>?_) (λk a=>?_)))))))
 ·refine bP 9 Q (bK follows ?_);iterate 3 (refine DA [0] TK Q ?_)
  refine VE a λo m a=>aU [0] Q (jQ TK Q Q Q Q m) (DA [0] TK Q (GE a λe a=>aU [0] Q (Be Q Q Q e.1 e.2) ?_));refine DT ?_ (by kernel_rfl);refine aG 2 Q (bY a Q (λl a=>?_) (λl a=>?_));refine aL 8 Q (IE a λp a b=>?_);rw[f _ b]at a;refine WR (bS 1 Q (IE a λq a b=>?_));rw[n _ b]at a;exact WR (aY a Q);exact aK 4 Q (GE a λi a=>bN Q i (aF 2 Q (cA [0] a Q Q)))
 refine aL 2 Q (IE a λs a b=>?_);rw[f _ b]at a;exact WX (bS 1 Q (cA [0] a Q Q));exact aB [] Q (aL 5 Q (aY a Q))
theorem iT{b:(List Ab)}{c:Ab}{r:Bool}(a:dP b c=some r):RetN TP 199 [.sl 2 (b.map Ab.enc),c.enc] (.bool (r)):=by
 refine .unit (aJ (aQ Q) func199 Q ntmps199 Q Q (λwX gX=>?_)) Q;unfold dP at a;exact aB [0,1] Q (aM 1 Q (bU 0 Q Q Q (aI 6 Q (dI a (vH ·) Q λd a=>aF 5 Q (aY a Q)))))
theorem B8{f:Al}{g:Ab}{r:Bool}(a:qS f g=some r):RetN TP 181 [f.enc,g.enc] (.bool (r)):=by
 refine .unit (aJ (aQ Q) func181 Q ntmps181 Q Q (λwX gX=>?_)) Q;unfold qS at a;refine aB [0,1] Q (aM 1 Q (bU 0 Q Q Q (bU 1 Q Q Q (aG 3 Q (aN a (λb=>([(4,.d (.bool (b)))])) (λb=>[]) [4] [] Q (λm a=>?_) (λb a=>?_))))));refine aM 4 Q (dI a (iT ·) Q λj a=>SB TK Q (λh c=>?_));cases h;replace a:=JB c a;refine aI 3 Q (dI a (iT ·) Q λk a=>aI 1 Q (SB TK Q (λi e=>?_)));cases i;replace a:=JB e a;exact aI 3 Q (dI a (iT ·) Q λl a=>aF 3 Q (aZ [0,1] a Q Q));replace a:=JA e a;exact aF 7 Q (aZ [0,1] a Q Q);replace a:=JA c a;exact aF 13 Q (aZ [0,1] a Q Q);exact aB [4] Q (aL 1 Q (aY a Q))
theorem Ee{e:Al}{f:End}{r:Gap ⊕ Ab}(a:sQ e f=some r):Iz TP 139 [e.enc,f.enc] (λp=>.iface 244 p.enc) (λv=>.d (v.enc)) r:=by
 refine Ch (aQ Q) func139 Q ntmps139 Q Q (λwX gX=>?_);unfold sQ at a;refine aB [0,1] Q (aM 1 Q (bU 0 Q Q Q (bU 1 Q Q Q (cK 2 Q Q hP Q (aI 5 Q (BE a λk i a=>?_))))));obtain⟨l,m⟩:=k;refine bB Q (dX Q Q Q (tE i)) (aG 8 Q (aN a (λb=>([(22,.d (.bool (b)))])) (λb=>[]) [22] [3,4,5] Q (λo a=>?_) (λb a=>?_)));refine aM 3 Q (SB TK Q (λj c=>?_));cases j;replace a:=JB c a;exact aI 4 Q (bB Q (bR Q xO hP Q Q Q Q) (dI a (B8 ·) Q λn a=>aF 2 Q (aZ [0,1,2] a Q Q)));replace a:=JA c a;exact aF 8 Q (aZ [0,1,2] a Q Q);refine aB [3,4,5,22] Q (bI a Q (λh a=>?_) (λh a=>?_))
 ·refine mF (rC 3 Q Q (aI 1 Q (bB Q (bR Q Dz wo Q Q Q Q) (aF 2 Q (oI (rL Q Q (λch9 hp9=>fE _ ?_)))))));obtain rfl:=OJ a;exact hp9
 refine aK 6 Q (GE a λg a=>bN Q g (bB Q (bR Q xO hP Q Q Q Q) (aF 4 Q ?_)));obtain rfl:=OJ a;exact Cd (EndsS.cellR _ TK Q Q Q Q Q (.d _))
theorem cp{k:Aa}{q:Al}{t:End}{r:Gap ⊕ (Ab×Int)}(a:kC k q t=some r):Iz TP 95 [k.enc,q.enc,t.enc] (λp=>.iface 244 p.enc) (λv=>.tup ([v.1.enc,.int .i64 v.2].map .d)) r:=by
 refine Hs (aQ Q) func95 Q ntmps95 Q Q (λwX gX=>?_);unfold kC at a;refine aB [0,1,2] Q (aM 1 Q (bU 0 Q Q Q (bU 1 Q Q Q (bU 2 Q Q Q (cK 3 Q Q hP Q (aG 3 Q (cH a (λ(l,h,i)=>([(7,.d (.int .i64 l))])) (λ(l,h,i)=>([(2,.box 128 [.d (.int .i64 h),.d (.int .i64 i)])])) [7] [5,6] Q (λb1 a e=>?_) (λj a=>?_))))))));refine bX 5 Q (bF a (λ(m,n,f,g)=>([(7,.d (.int .i64 m)),(13,.d (.int .i64 n))])) (λ(m,n,f,g)=>([(2,.box 128 [.d (.int .i64 f),.d (.int .i64 g)])])) [7,13] [3,4,5,6] [0,1,2,3] k0 Q (λs b0 a c=>?_));obtain⟨m,n,f,g⟩:=s;refine aB [3,4,5,6,7,13] Q (bX 5 Q (bY a Q (λx a=>?_) (λx a=>?_)));refine aK 7 Q (BE a λK H a=>?_);obtain⟨u,N⟩:=K;refine bB Q (dX Q Q Q (nZ H)) (aI 3 Q (cK 4 Q Q cQ Q (aG 4 Q (aB [3,4,5,6,7,8,9,13] Q (bP 6 Q (bI a Q (λy a=>?_) (λy a=>?_)))))));refine aK 1 Q (bB Q (bR Q xO hP Q Q Q Q) (aF 8 Q (IE a λT a b=>?_)));rw[c _ b]at a;refine WR (bS 1 Q (IE a λU a b=>?_));rw[e _ b]at a;refine WR ?_;obtain rfl:=OJ a;exact Cd ⟨_,.mk _ (.cons (.agg (TK.lay Q) Q Q Q Q) (.cons (.tmp 7) .nil)) Q,(.cons (.d _) (.refl _) (.cons (.d _) (.refl _) .nil))⟩;refine aK 6 Q (dI a (kY ·) Q λO a=>aG 8 Q (bY a Q (λz a=>?_) (λz a=>?_)))
 ·refine aK 1 Q (bB Q (bR Q xO hP Q Q Q Q) (aG 5 Q (aB [6,7] Q (aL 4 Q (IE a λV a b=>?_)))));rw[c _ b]at a;refine WR (bS 1 Q (IE a λW a b=>?_));rw[e _ b]at a;refine WR ?_;obtain rfl:=OJ a;exact Cd ⟨_,.mk _ (.cons (.agg (TK.lay Q) Q Q Q Q) (.cons (.tmp 7) .nil)) Q,(.cons (.d _) (.refl _) (.cons (.d _) (.refl _) .nil))⟩
 refine aK 7 Q (dI a (zb ·) Q λP a=>aG 2 Q (bI a Q (λA a=>?_) (λA a=>?_)))
 ·refine aK 1 Q (bB Q (bR Q xO hP Q Q Q Q) (aG 4 Q (aB [6,7] Q (aL 4 Q (IE a λX a b=>?_)))));rw[c _ b]at a;refine WR (bS 1 Q (IE a λY a b=>?_));rw[e _ b]at a;refine WR ?_;obtain rfl:=OJ a;exact Cd ⟨_,.mk _ (.cons (.agg (TK.lay Q) Q Q Q Q) (.cons (.tmp 7) .nil)) Q,(.cons (.d _) (.refl _) (.cons (.d _) (.refl _) .nil))⟩
 refine bP 3 Q ?_;refine fC [(46,.d (.bool (((decide (u.el<0))||(decide ((k.Ad.length:Int)<=u.el))))))] [46] [3,4,5,6,7,8,13] Q ?_ ?_;refine aM 4 Q (SB TK Q (λJ o=>?_));cases J;refine aI 4 Q (aX TK Q (aF 3 Q ?_));exact⟨[0,1,2,3,4],Q,k0,bT (aO (aP (by simp[o])) Q) Q⟩;refine aF 8 Q ?_;exact⟨[0,1,2,3,4],Q,k0,bT (aO (aP (by simp[o])) Q) Q⟩;refine aB [3,4,5,6,7,8,13,46] Q (bI a Q (λB a=>?_) (λB a=>?_))
 ·refine mF (rC 3 Q Q (aI 1 Q (bB Q (bR Q Dz wo Q Q Q Q) (aF 2 Q (oI (rL Q Q (λch33 hp33=>fE _ (IE a λZ a b=>?_))))))));rw[c _ b]at a;refine oJ (fE _ (IE a λa0 a b=>?_));rw[e _ b]at a;refine oJ (fE _ ?_);obtain rfl:=OJ a;exact hp33
 refine aK 7 Q (VE a λL F a=>dL TK Q F (aG 11 Q (bY a Q (λC a=>?_) (λC a=>?_))))
 ·refine Hg (rC 2 Q Q (aF 3 Q (oI (BE a λR I a=>Dc Q Q Q (Ee I) (λ_=>Q) (λa9 ch41 er38 hp41=>?_) (λa1 er38=>?_)))))
  ·subst er38;dsimp only at a;refine fE _ (IE a λa2 a b=>?_);rw[c _ b]at a;refine oJ (fE _ (IE a λa3 a b=>?_));rw[e _ b]at a;refine oJ (fE _ ?_);obtain rfl:=OJ a;exact hp41
  subst er38;dsimp only at a;refine Db (aG 4 Q (aB [6,7] Q (aL 4 Q (IE a λa4 a b=>?_))));rw[c _ b]at a;refine WR (bS 1 Q (IE a λa5 a b=>?_));rw[e _ b]at a;refine WR ?_;obtain rfl:=OJ a;exact Cd ⟨_,.mk _ (.cons (.agg (TK.lay Q) Q Q Q Q) (.cons (.tmp 7) .nil)) Q,(.cons (.d _) (.refl _) (.cons (.d _) (.refl _) .nil))⟩
 refine aK 6 Q (iK a (qy ·) Q λS a=>aG 3 Q (aB [3,4,5,6,7,8,12,13] Q (aK 3 Q (aX TK Q (aG 3 Q (bY a Q (λE a=>?_) (λE a=>?_)))))))
 ·refine mF (rC 3 Q Q (aI 1 Q (bB Q (bR Q Dz wo Q Q Q Q) (aF 2 Q (oI (rL Q Q (λch48 hp48=>fE _ (IE a λa6 a b=>?_))))))));rw[c _ b]at a;refine oJ (fE _ (IE a λa7 a b=>?_));rw[e _ b]at a;refine oJ (fE _ ?_);obtain rfl:=OJ a;exact hp48
 refine bP 2 Q (eV follows ?_);iterate 3 (refine DA [0,1,2,3,4] TK Q ?_)
 refine VE a λM G a=>aU [0,1,2,3,4] Q (jQ TK Q Q Q Q G) (DA [0,1,2,3,4] TK Q (aU [0,1,2,3,4] Q (bR Q pC cQ Q Q Q Q) ?_));refine DT ?_ (by kernel_rfl);exact aG 4 Q (aB [3,4,5,6,7,13] Q (aK 1 Q (GE a λw a=>bN Q w (aF 2 Q (cA [0,1,2,3] a Q Q)))));refine aL 2 Q (IE a λa8 a b=>?_);rw[c _ b]at a;exact WX (bS 1 Q (cA [0,1,2,3] a Q Q));obtain⟨l,h,i⟩:=j;refine aB [5,6,7] Q (mF (rC 3 Q Q (aI 1 Q (bB Q (bR Q Dz wo Q Q Q Q) (aF 2 Q (oI (rL Q Q (λch54 hp54=>fE _ ?_))))))));obtain rfl:=OJ a;exact hp54
theorem bd{a:Ab}{e:Int}{f:Bool}{pv:Gap}{b:Ab}{g:Int}{i:Bool}{ch:List PanicEntry}(hx:I1 (.iface 244 pv.enc) ch)(c:pK a e f pv=some (b,g,i)):Ca TP 94 [.box 123 [.d (.int .i64 a.el),.d (.int .i64 a.pos)],.box 3 [.d (.int .i64 e)],.box 4 [.d (.bool (f))]] (.panicking ch) [.box 123 [.d (.int .i64 b.el),.d (.int .i64 b.pos)],.box 3 [.d (.int .i64 g)],.box 4 [.d (.bool (i))]]:=by
 refine yG (aQ Q) func94 Q Q ntmps94 Q Q Q (.inr ⟨_,Q,hx⟩) (λwX gX=>?_);unfold pK at c;refine bB Q (x_nilY Q Tryz.underlying20 Q) (aG 2 Q ?_);refine TC true Q (λ_=>?_) (λh=>by cases h);refine aK 1 Q (bB Q (bR Q xO hP Q Q Q Q) (aF 4 Q ?_));obtain⟨rfl,j⟩:=bJ (aS c);obtain⟨rfl,rfl⟩:=bJ (j);exact⟨_,[0,1,2],res Q,by decide,(kB Q),Q,Q⟩
theorem bc{a:Ab}{e:Int}{f:Bool}{b:Ab}{g:Int}{i:Bool}(c:pJ a e f=some (b,g,i)):Ca TP 94 [.box 123 [.d (.int .i64 a.el),.d (.int .i64 a.pos)],.box 3 [.d (.int .i64 e)],.box 4 [.d (.bool (f))]] .returning [.box 123 [.d (.int .i64 b.el),.d (.int .i64 b.pos)],.box 3 [.d (.int .i64 g)],.box 4 [.d (.bool (i))]]:=by
 refine yG (aQ Q) func94 Q Q ntmps94 Q Q Q (.inl ⟨Q,Q⟩) (λwX gX=>?_);unfold pJ at c;refine bB Q (Hh Q Tryz.underlying20 Q) (aG 2 Q (TC false Q (λh=>by cases h) (λ_=>aL 1 Q ?_)));obtain⟨rfl,j⟩:=bJ (aS c);obtain⟨rfl,rfl⟩:=bJ (j);exact⟨_,[0,1,2],res Q,by decide,(kB Q),Q,Q⟩
theorem zf{e:Aa}{f:Al}{g:End}{h:Ab}{i:Int}{c:Bool}(a:pL e f g=some (h,i,c)):Ret TP 42 [] (λ_=>false) ([e.enc,f.enc,g.enc].map .d) (.tup ([h.enc,.int .i64 i,.bool (c)].map .d)) []:=by
 refine cd (aQ Q) func42 Q ntmps42 Q Q (λwX gX=>?_);unfold pL at a;refine Eg (bU 0 Q Q Q (bU 1 Q Q Q (bU 2 Q Q Q (cK 3 Q Q hP Q (cK 4 Q Q fL Q (cK 5 Q Q Cb Q (aF 1 Q (oI (xc 1 9 Q Q (bB Q (tD Q) (aF 1 Q (oI (f_go [3,4,5] Q (λwY gY dfY=>aB [3,4,5,6,7,8] Q (Hg (ks:=[]) (rC 3 Q Q (aF 4 Q (oI (BE a λc l a=>Dc Q Q Q (cp l) (λ_=>Q) (λv ch5 er2 hp5=>?_) (λj er2=>?_))))))))))))))))))));subst er2;dsimp only at a;refine fE _ (BE a λo m a=>?_);obtain⟨s,t,u⟩:=o;obtain⟨rfl,b⟩:=bJ (aS a);obtain⟨rfl,rfl⟩:=bJ (b);exact yr Q Q Q (bd hp5 m) Q Q ⟨_,.mk _ (.cons (.agg (TK.lay Q) Q Q Q Q) (.cons (.one (TK.lay Q) Q Q Q) (.cons (.one (TK.lay Q) Q Q Q) .nil))) Q,(.cons (.d _) (.refl _) (.cons (.d _) (.refl _) (.cons (.d _) (.refl _) .nil)))⟩;subst er2;dsimp only at a;refine Db (aG 7 Q (aB [6,7,8] Q (bK follows (DA [3] TK Q (DA [4] TK Q (qT 1000002 [3] [(3,.box 123 [.d (.int .i64 j.1.el),.d (.int .i64 j.1.pos)])] (dZ Q) Q (kK TK Q Q Q Q Q Q Q Q Q Q) ?_))))));refine DT ?_ (by kernel_rfl);refine aG 4 Q (aB [6,7,8] Q (aL 1 Q (BE a λn k a=>?_)));obtain⟨p,q,r⟩:=n;obtain⟨rfl,b⟩:=bJ (aS a);obtain⟨rfl,rfl⟩:=bJ (b);exact yr Q Q Q (bc k) Q Q ⟨_,.mk _ (.cons (.agg (TK.lay Q) Q Q Q Q) (.cons (.one (TK.lay Q) Q Q Q) (.cons (.one (TK.lay Q) Q Q Q) .nil))) Q,(.cons (.d _) (.refl _) (.cons (.d _) (.refl _) (.cons (.d _) (.refl _) .nil)))⟩
theorem wc{b:Ab}{c:Ab}{r:Int}(a:eY b c=some r):RetN TP 44 [b.enc,c.enc] (.int .i64 r):=by
 refine .unit (aJ (aQ Q) func44 Q ntmps44 Q Q (λwX gX=>?_)) Q;unfold eY at a;refine aB [0,1] Q (aM 1 Q (bU 0 Q Q Q (bU 1 Q Q Q (aG 3 Q (bK follows ?_)))));iterate 4 (refine DA [0,1] TK Q ?_)
 refine gA [0,1] a (gS ·) Q λd a=>?_;iterate 4 (refine DA [0,1] TK Q ?_)
 refine gA [0,1] a (gS ·) Q λe a=>aU [0,1] Q (pO [.tmp 9,.tmp 14] TK Q Q fL Q Q Q Q Q) (gA [0,1] a (vY ·) Q λf a=>?_);refine DT ?_ (by kernel_rfl);exact aG 3 Q (aB [4] Q (aL 1 Q (aY a Q)))
theorem Ef{F:Aa}{b:Al}{r:Al}(a:sR F b=some r):RetD TP 12 [F.enc,b.enc] (r.enc):=by
 refine .of (mv:=λ_=>false) (aJ (aQ Q) func12 Q ntmps12 Q Q (λwX gX=>?_));unfold sR at a;refine aB [0,1] Q (aM 1 Q (bU 0 Q Q Q (bU 1 Q Q Q (cK 2 Q Q oD Q (dJ (f:=Ab.enc) 2 11 3 123 2 Q Q Q (dJ (f:=(D.int .i64)) 2 12 4 3 1 Q Q Q (dJ (f:=End.enc) 2 13 5 128 2 Q Q Q (eZ 2 [none,none,none,some 3,some 2,some 1,none,none,some 3,some 2,some 1,none,none,none] Q Q (aG 2 Q (aB [2,3,4] Q (aK 3 Q (iK a (eR ·) Q λu a=>aG 4 Q (aB [2,3,4] Q (aK 3 Q (iK a (iB ·) Q λv a=>aG 4 Q (aB [2,3,4] Q (aK 3 Q (iK a (cB ·) Q λw a=>aG 4 Q (aB [2,3,4] Q (aK 3 Q ?_))))))))))))))))))));refine iK a (eR ·) Q λx a=>aG 4 Q (aB [2,3,4] Q (aK 3 Q (iK a (iB ·) Q λy a=>aG 4 Q (aB [2,3,4] Q (aK 3 Q (iK a (cB ·) Q λz a=>aG 4 Q (aB [2,3,4] Q (aK 3 Q (dJ (f:=Ab.enc) 1 11 6 123 2 Q Q Q (aI 2 Q (dJ (f:=(D.int .i64)) 1 12 7 3 1 Q Q Q (aI 2 Q (dJ (f:=End.enc) 1 13 8 128 2 Q Q Q (aG 2 Q (aB [2,3,4] Q (aN a (λ(e,c,t)=>[]) (λ(e,c,t)=>([(1,.box 80 [.d (.str b.name),.d (.int .i64 b.entry),.d (.int .i64 b.exit),.d (.sl 3 (u.map Ae.enc)),.d (.sl 2 (v.map Ab.enc)),.d (.sl 1 (w.map (D.int .i64))),.d (.int .i64 b.A2),.d (.int .i64 b.length),.d (.sl 3 (x.map Ae.enc)),.d (.sl 2 (y.map Ab.enc)),.d (.sl 1 (z.map (D.int .i64))),.msl 6 2 0 e.length,.msl 7 1 0 c.length,.msl 8 2 0 t.length]),(6,.flat 123 2 (e.map Ab.enc)),(7,.flat 3 1 (c.map (D.int .i64))),(8,.flat 128 2 (t.map End.enc))])) [] [3,4] Q (λb4 a=>?_) (λj a=>?_)))))))))))))))));refine aM 5 Q (iE [.tmp 40,.tmp 42] TK Q C1 (dI a (xH ·) Q λa8 a=>aX TK Q (aG 4 Q (bF a (λ(B,g,i,k)=>([(46,.d (.int .i64 B))])) (λ(B,g,i,k)=>([(1,.box 80 [.d (.str b.name),.d (.int .i64 b.entry),.d (.int .i64 b.exit),.d (.sl 3 (u.map Ae.enc)),.d (.sl 2 (v.map Ab.enc)),.d (.sl 1 (w.map (D.int .i64))),.d (.int .i64 b.A2),.d (.int .i64 b.length),.d (.sl 3 (x.map Ae.enc)),.d (.sl 2 (y.map Ab.enc)),.d (.sl 1 (z.map (D.int .i64))),.msl 6 2 0 g.length,.msl 7 1 0 i.length,.msl 8 2 0 k.length]),(6,.flat 123 2 (g.map Ab.enc)),(7,.flat 3 1 (i.map (D.int .i64))),(8,.flat 128 2 (k.map End.enc))])) [46] [2,3,4,44,45] [0,1,2,3,4,5,6,7,8] k0 Q (λs b5 a a2=>?_)))));obtain⟨B,g,i,k⟩:=s;refine aB [2,3,4,44,45,46] Q (bX 5 Q (bY a Q (λT a=>?_) (λT a=>?_)));refine bP 2 Q (aN a (λ(l,m,n)=>[]) (λ(l,m,n)=>([(1,.box 80 [.d (.str b.name),.d (.int .i64 b.entry),.d (.int .i64 b.exit),.d (.sl 3 (u.map Ae.enc)),.d (.sl 2 (v.map Ab.enc)),.d (.sl 1 (w.map (D.int .i64))),.d (.int .i64 b.A2),.d (.int .i64 b.length),.d (.sl 3 (x.map Ae.enc)),.d (.sl 2 (y.map Ab.enc)),.d (.sl 1 (z.map (D.int .i64))),.msl 6 2 0 l.length,.msl 7 1 0 m.length,.msl 8 2 0 n.length]),(6,.flat 123 2 (l.map Ab.enc)),(7,.flat 3 1 (m.map (D.int .i64))),(8,.flat 128 2 (n.map End.enc))])) [] [2,3,4,44,45,46] Q (λb6 a=>?_) (λj a=>?_))
 ·refine aM 2 Q (VE a λa7 Y a=>dL TK Q Y (aI 1 Q (cK 9 Q Q dG Q (aG 3 Q (aB [2,3,4,6,44,45,46] Q (aK 3 Q (iK a (ze ·) Q λa9 a=>aX TK Q (aG 4 Q (bF a (λ(C,o,p,q)=>([(54,.d (.int .i64 C))])) (λ(C,o,p,q)=>([(1,.box 80 [.d (.str b.name),.d (.int .i64 b.entry),.d (.int .i64 b.exit),.d (.sl 3 (u.map Ae.enc)),.d (.sl 2 (v.map Ab.enc)),.d (.sl 1 (w.map (D.int .i64))),.d (.int .i64 b.A2),.d (.int .i64 b.length),.d (.sl 3 (x.map Ae.enc)),.d (.sl 2 (y.map Ab.enc)),.d (.sl 1 (z.map (D.int .i64))),.msl 6 2 0 o.length,.msl 7 1 0 p.length,.msl 8 2 0 q.length]),(6,.flat 123 2 (o.map Ab.enc)),(7,.flat 3 1 (p.map (D.int .i64))),(8,.flat 128 2 (q.map End.enc))])) [54] [2,3,4,44,45,46,52,53] [0,1,2,3,4,5,6,7,8] k0 Q (λs b7 a a3=>?_))))))))));obtain⟨C,o,p,q⟩:=s;refine aB [2,3,4,44,45,46,52,53,54] Q (bX 5 Q (bY a Q (λU a=>?_) (λU a=>?_)));refine aK 5 Q (VE a λG Z a=>dL TK Q Z (aI 1 Q (cK 9 Q Q cQ Q (aG 3 Q (aB [2,3,4,8,44,45,46,52,53,54] Q (aK 4 Q (BE a λa4 a0 a=>?_)))))));obtain⟨a5,a6,b0⟩:=a4;refine bB Q (Kn Q Q (SC (.d _) (SC (fP (.cons (.d _) Q (.cons (.d _) Q (.cons (.d _) Q (.cons (.d _) Q (.cons (.d _) Q (.cons (.d _) Q (.cons (.d _) Q (.cons (.d _) Q (.cons (.d _) Q (.cons (.d _) Q (.cons (.d _) Q (.cons (aW Q) Q (.cons (aW Q) Q (.cons (aW Q) Q .nil))))))))))))))) (hZ Q))) (zf a0) Q) (aI 4 Q (cK 10 Q Q hP Q (aG 5 Q (aB [2,3,4,8,9,10,11,44,45,46,52,53,54] Q (bP 7 Q (bI a Q (λV a=>?_) (λV a=>?_)))))));exact aK 4 Q (iE [.tmp 71] TK Q cQ (GE a λH a=>fJ (f:=End.enc) ([G]:List End) TK Q Q cQ Q Q Q Q Q (λh=>absurd h (pS _)) Q eC H Q Q (aG 6 Q (aB [2,3,4,44,45,46,52,53,54] Q (aK 1 Q (GE a λI a=>bN Q I (aF 2 Q (cA [0,1,2,3,4,5,6,7,8] a Q Q))))))));refine bP 6 Q (bY a Q (λW a=>?_) (λW a=>?_))
  ·exact aK 4 Q (iE [.tmp 80] TK Q fL (GE a λJ a=>fJ (f:=(D.int .i64)) ([a6]:List Int) TK Q Q fL Q Q Q Q Q (λh=>absurd h (pS _)) Q eC J Q Q (aG 6 Q (aB [2,3,4,44,45,46,52,53,54] Q (aK 1 Q (GE a λK a=>bN Q K (aF 2 Q (cA [0,1,2,3,4,5,6,7,8] a Q Q))))))))
  refine aK 2 Q (bB Q (bR Q xO hP Q Q Q Q) (GE a λE a=>bB Q (Bd Q Q Q E.1 E.2) (aG 3 Q (aB [2,3,4,9,44,45,46,52,53,54,84] Q (mT a Q (λX a=>?_) (λX a=>?_))))))
  ·exact aK 4 Q (iE [.tmp 90] TK Q hP (GE a λL a=>fJ (f:=Ab.enc) ([a5]:List Ab) TK Q Q hP Q Q Q Q Q (λh=>absurd h (pS _)) Q eC L Q Q (aG 6 Q (aB [2,3,4,44,45,46,52,53,54] Q (aK 1 Q (GE a λM a=>bN Q M (aF 2 Q (cA [0,1,2,3,4,5,6,7,8] a Q Q))))))))
  exact aK 5 Q (GE a λN a=>bN Q N (aF 2 Q (cA [0,1,2,3,4,5,6,7,8] a Q Q)));refine aL 2 Q (IE a λb2 a A=>?_);rw[a3 _ A]at a;exact WX (bS 2 Q (aZ [0,1,2,3,4,5,6,7,8] a Q Q))
 obtain⟨l,m,n⟩:=j;exact aB [2,3,4,44,45,46] Q (aK 1 Q (GE a λO a=>bN Q O (aF 2 Q (cA [0,1,2,3,4,5,6,7,8] a Q Q))));refine aL 2 Q (IE a λb3 a A=>?_);rw[a2 _ A]at a;exact WX (bS 1 Q (aZ [0,1,2,3,4,5,6,7,8] a Q Q));obtain⟨e,c,t⟩:=j;refine aB [3,4] Q (aK 3 Q (GE a λP a=>?_));refine vL [6] Q Q Q (by simp) Q Q Q (mR cq Q (λ_ _ _ h=>(wc h).retD) e P) Q Q ?_;refine cD 97 (pP eY e).length Q (iY _).symm (aG 2 Q (aB [3,4] Q (aK 3 Q (BE a λb1 a1 a=>?_))));refine oZ 100 (.msl 6 2 0 (pP eY e).length) Q (by first|rfl|simp[Fr.get,iY]) ?_;refine gP [6] (λ_=>false) Q Q Q (by decide) Q Q Q Q (nF a1) Q Q Q ?_;refine aG 4 Q (aB [3,4] Q (aK 3 Q (GE a λR a=>?_)));refine vL [7] Q Q Q (by simp) Q Q Q (oW c R) Q Q ?_;refine cD 104 (kF c).length Q (fO _).symm (aG 2 Q (aB [3,4] Q (aK 3 Q (GE a λS a=>?_))));refine oZ 107 (.msl 7 1 0 (kF c).length) Q (by first|rfl|simp[Fr.get,iY,fO]) ?_;refine vL [7] Q Q Q (by simp) Q Q Q (qM (kF c) S) Q Q ?_;refine aG 4 Q (aB [3,4] Q (bP 5 Q (aB [4] Q (aL 1 Q ?_))));obtain rfl:=OJ a;exact EndsS.cellR _ TK Q Q Q Q Q (fP (.cons (.d _) Q (.cons (.d _) Q (.cons (.d _) Q (.cons (.d _) Q (.cons (.d _) Q (.cons (.d _) Q (.cons (.d _) Q (.cons (.d _) Q (.cons (.d _) Q (.cons (.d _) Q (.cons (.d _) Q (.cons (aW Q) Q (.cons (aW Q) Q (.cons (aW Q) Q .nil)))))))))))))))
theorem v8{g:Aa}{r:(List Int)}(a:nM g=some r):RetD TP 14 [g.enc] (.sl 1 (r.map (D.int .i64))):=by
 refine .of (mv:=λ_=>false) (aJ (aQ Q) func14 Q ntmps14 Q Q (λwX gX=>?_));unfold nM at a;refine aB [0] Q (aM 1 Q (bU 0 Q Q Q (aI 4 Q (iC (f:=(D.int .i64)) 1 3 1 Q Q Q (aG 2 Q (aN a (λb=>([(3,.msl 1 1 0 b.length)])) (λb=>([(1,.flat 3 1 (b.map (D.int .i64)))])) [3] [] Q (λu a=>?_) (λb a=>?_)))))));refine aM 3 Q (aX TK Q (aG 4 Q (bF a (λ(e,c)=>([(3,.msl 1 1 0 c.length),(9,.d (.int .i64 e))])) (λ(e,c)=>([(1,.flat 3 1 (c.map (D.int .i64)))])) [3,9] [7,8] [0,1] k0 Q (λs v a p=>?_))));obtain⟨e,c⟩:=s;refine aB [3,7,8,9] Q (bX 5 Q (bY a Q (λm a=>?_) (λm a=>?_)));refine aK 6 Q (VE a λq n a=>dL TK Q n (aI 1 Q (cK 2 Q Q rI Q (aG 10 Q (bY a Q (λl a=>?_) (λl a=>?_))))))
 ·exact aK 3 Q (iE [.tmp 18] TK Q fL (GE a λi a=>fJ (f:=(D.int .i64)) ([e]:List Int) TK Q Q fL Q Q Q Q Q (λh=>absurd h (pS _)) Q eC i Q Q (aI 5 Q (GE a λj a=>bN Q j (aF 2 Q (cA [0,1] a Q Q))))))
 exact aK 4 Q (GE a λk a=>bN Q k (aF 2 Q (cA [0,1] a Q Q)));refine aL 2 Q (IE a λt a o=>?_);rw[p _ o]at a;exact WX (bS 1 Q (aZ [0,1] a Q Q));refine aB [3] Q (aL 6 Q ?_);obtain rfl:=OJ a;exact EndsS.one _ Q (aW Q) (.refl _)
theorem bh{b:Aa}{q:A1}{m:Int}(a:oK b=some (q,m)):RetT TP 4 [b.enc] [q.enc,.int .i64 m]:=by
 refine .of (mv:=λ_=>false) (fD (aQ Q) func4 Q ntmps4 Q Q (λwX gX=>?_));unfold oK at a;refine aB [0] Q (aM 1 Q (bU 0 Q Q Q (cK 1 Q Q gl Q (dJ (f:=Al.enc) 1 0 2 80 14 Q Q Q (dJ (f:=(D.int .i64)) 1 1 3 3 1 Q Q Q (dJ (f:=(D.int .i64)) 1 2 4 3 1 Q Q Q (aG 3 Q (aB [1,2] Q (aK 2 Q (BE a λm G a=>?_))))))))));obtain⟨L,N⟩:=m;refine bB Q (dX Q Q Q (Fj G)) (aG 13 Q (mT a Q (λC a=>?_) (λC a=>?_)));refine aK 1 Q (bB Q (jD Q plc39 gl Q Q Q Q) (aI 2 Q (dJ (f:=Al.enc) 1 0 5 80 14 Q Q Q (dJ (f:=(D.int .i64)) 1 1 6 3 1 Q Q Q (dJ (f:=(D.int .i64)) 1 2 7 3 1 Q Q Q (aG 3 Q (aB [2,3] Q (aL 2 Q ?_))))))));obtain⟨rfl,rfl⟩:=bJ (aS a);exact⟨_,.mk _ (.cons (.agg (TK.lay Q) Q Q Q Q) (.cons (.tmp 3) .nil)) Q,(.cons (fP (.cons (aW Q) Q (.cons (aW Q) Q (.cons (aW Q) Q (.cons (.d _) Q (.cons (.d _) Q .nil)))))) (.refl _) (.cons (.d _) (.refl _) .nil))⟩;refine aK 5 Q (aX TK Q (aI 2 Q (aX TK Q (bB Q (jD Q plc39 gl Q Q Q Q) (cK 5 Q Q gl Q (dJ (f:=Al.enc) 5 0 6 80 14 Q Q Q (dJ (f:=(D.int .i64)) 5 1 7 3 1 Q Q Q (dJ (f:=(D.int .i64)) 5 2 8 3 1 Q Q Q (aI 1 Q (dJ (f:=Al.enc) 5 0 9 80 14 Q Q Q (dJ (f:=(D.int .i64)) 5 1 10 3 1 Q Q Q (dJ (f:=(D.int .i64)) 5 2 11 3 1 Q Q Q (aG 2 Q (aB [1,2,4,6] Q (aN a (λg=>[]) (λg=>([(5,.box 39 [.msl 9 14 0 g.length,.msl 10 1 0 ([]:List Int).length,.msl 11 1 0 ([]:List Int).length,.d (.int .i64 (b.Ai.length:Int)),.d (.int .i64 (b.Aj.length:Int))]),(9,.flat 80 14 (g.map Al.enc))])) [] [1,2,6] Q (λU a=>?_) (λg a=>?_))))))))))))))))
 ·refine aM 2 Q (aX TK Q (aG 4 Q (bF a (λ(o,c)=>([(29,.d (.int .i64 o))])) (λ(o,c)=>([(5,.box 39 [.msl 9 14 0 c.length,.msl 10 1 0 ([]:List Int).length,.msl 11 1 0 ([]:List Int).length,.d (.int .i64 (b.Ai.length:Int)),.d (.int .i64 (b.Aj.length:Int))]),(9,.flat 80 14 (c.map Al.enc))])) [29] [1,2,6,27,28] [0,1,2,3,4,5,6,7,8,9,10,11] k0 Q (λs R a H=>?_))));obtain⟨o,c⟩:=s;refine aB [1,2,6,27,28,29] Q (bX 5 Q (bY a Q (λA a=>?_) (λA a=>?_)));refine aK 5 Q (VE a λJ E a=>dL TK Q E (aI 1 Q (cK 12 Q Q oD Q (eZ 12 [none,none,none,some 3,some 2,some 1,none,none,some 3,some 2,some 1,some 2,some 1,some 2] Q Q (aG 3 Q (aB [1,2,6,8,27,28,29] Q (fN (eV follows (DA [] TK Q (DA [5] TK Q ?_))))))))));iterate 2 (refine DA [0] TK Q ?_)
  refine DA [12] TK Q (zR [] a (yx ·) Q λK a=>zR [] a (Ef ·) Q λr a=>aU [] Q (pO [.tmp 39] TK Q Q oD Q Q Q Q Q) (GE a λv a=>tV [9,13] _ (.msl 13 14 0 (c++([r]:List Al)).length) Q (dZ Q) Q (xy (f:=Al.enc) (xs:=c) ([r]:List Al) Q Q Q TK Q oD Q Q Q Q Q Q eC v) (DA [] TK Q ?_)));refine DT ?_ (by kernel_rfl);exact aG 4 Q (aB [1,2,6,27,28,29] Q (aK 1 Q (GE a λw a=>bN Q w (aF 2 Q (cA [0,1,2,3,4,5,6,7,8,13,10,11] a Q Q)))));refine aL 2 Q (IE a λO a n=>?_);rw[H _ n]at a;exact WX (bS 1 Q (aZ [0,1,2,3,4,5,6,7,8,9,10,11] a Q Q))
 refine aB [1,2,6] Q (aN a (λ(i,k)=>[]) (λ(i,k)=>([(5,.box 39 [.msl 9 14 0 g.length,.msl 10 1 0 i.length,.msl 11 1 0 k.length,.d (.int .i64 (b.Ai.length:Int)),.d (.int .i64 (b.Aj.length:Int))]),(10,.flat 3 1 (i.map (D.int .i64))),(11,.flat 3 1 (k.map (D.int .i64)))])) [] [2,6] Q (λS a=>?_) (λj a=>?_))
 ·refine aM 2 Q (iK a (v8 ·) Q λM a=>aX TK Q (aG 4 Q (bF a (λ(p,l,e)=>([(47,.d (.int .i64 p))])) (λ(p,l,e)=>([(5,.box 39 [.msl 9 14 0 g.length,.msl 10 1 0 l.length,.msl 11 1 0 e.length,.d (.int .i64 (b.Ai.length:Int)),.d (.int .i64 (b.Aj.length:Int))]),(10,.flat 3 1 (l.map (D.int .i64))),(11,.flat 3 1 (e.map (D.int .i64)))])) [47] [1,2,6,45,46] [0,1,2,3,4,5,6,7,8,9,10,11] k0 Q (λs T a I=>?_))));obtain⟨p,l,e⟩:=s;refine aB [1,2,6,45,46,47] Q (bX 5 Q (bY a Q (λB a=>?_) (λB a=>?_)));refine aK 5 Q (VE a λu F a=>dL TK Q F (aI 8 Q (iE [.tmp 53] TK Q fL (GE a λx a=>fJ (f:=(D.int .i64)) ([u]:List Int) TK Q Q fL Q Q Q Q Q (λh=>absurd h (pS _)) Q eC x Q Q (aG 4 Q (aB [1,2,6,10,45,46,47] Q (fN (eV follows (DA [] TK Q (DA [5] TK Q (DA [0] TK Q (DA [] TK Q (gA [] a (eN ·) Q λt a=>aU [] Q (pO [.tmp 61] TK Q Q fL Q Q Q Q Q) (GE a λy a=>tV [11,12] _ (.msl 12 1 0 (e++([t]:List Int)).length) Q (dZ Q) Q (xy (f:=(D.int .i64)) (xs:=e) ([t]:List Int) Q Q Q TK Q fL Q Q Q Q Q Q eC y) (DA [] TK Q ?_)))))))))))))));refine DT ?_ (by kernel_rfl);exact aG 4 Q (aB [1,2,6,45,46,47] Q (aK 1 Q (GE a λz a=>bN Q z (aF 2 Q (cA [0,1,2,3,4,5,6,7,8,9,10,12] a Q Q)))));refine aL 2 Q (IE a λP a n=>?_);rw[I _ n]at a;exact WX (bS 1 Q (aZ [0,1,2,3,4,5,6,7,8,9,10,11] a Q Q))
 obtain⟨i,k⟩:=j;refine aB [2,6] Q (bP 6 Q (aB [2,3] Q (aL 1 Q ?_)));obtain⟨rfl,rfl⟩:=bJ (aS a);exact⟨_,.mk _ (.cons (.agg (TK.lay Q) Q Q Q Q) (.cons (.tmp 3) .nil)) Q,(.cons (fP (.cons (aW Q) Q (.cons (aW Q) Q (.cons (aW Q) Q (.cons (.d _) Q (.cons (.d _) Q .nil)))))) (.refl _) (.cons (.d _) (.refl _) .nil))⟩
theorem jG{b:Int}{c:Int}{d:Int}{r:Int}(a:iU b c d=some r):RetN TP 163 [.int .i64 b,.int .i64 c,.int .i64 d] (.int .i64 r):=by
 refine .unit (aJ (aQ Q) func163 Q ntmps163 Q Q (λwX gX=>?_)) Q;unfold iU at a;exact aB [0,1,2] Q (aM 8 Q (bB Q (Dp Q Q Q Q) (bB Q (Dq Q Q Q Q) (aF 4 Q (aY a Q)))))
theorem yd{b:Ao}{r:Ao}(a:rO b=some r):RetN TP 109 [b.enc] (r.enc):=by
 refine .unit (aJ (aQ Q) func109 Q ntmps109 Q Q (λwX gX=>?_)) Q;unfold rO at a;refine aB [0] Q (aM 1 Q (bU 0 Q Q Q (cK 1 Q Q bo Q (aG 2 Q (bK follows ?_)))));iterate 2 (refine DA [0,1] TK Q ?_)
 refine gA [0,1] a (jG ·) Q λc a=>?_;iterate 4 (refine DA [0,1] TK Q ?_)
 refine gA [0,1] a (jG ·) Q λe a=>?_;iterate 2 (refine DA [0,1] TK Q ?_)
 refine gA [0,1] a (jG ·) Q λf a=>?_;iterate 2 (refine DA [0,1] TK Q ?_)
 refine gA [0,1] a (jG ·) Q λg a=>?_;iterate 2 (refine DA [0,1] TK Q ?_)
 refine gA [0,1] a (jG ·) Q λh a=>?_;iterate 4 (refine DA [0,1] TK Q ?_)
 refine gA [0,1] a (jG ·) Q λi a=>?_;iterate 2 (refine DA [0,1] TK Q ?_)
 refine gA [0,1] a (jG ·) Q λj a=>?_;iterate 2 (refine DA [0,1] TK Q ?_)
 refine gA [0,1] a (jG ·) Q λk a=>?_;iterate 2 (refine DA [0,1] TK Q ?_)
 refine gA [0,1] a (jG ·) Q λl a=>aU [0,1] Q (bR Q plc60 bo Q Q Q Q) ?_;refine DT ?_ (by kernel_rfl);refine aG 3 Q (aB [2] Q (aL 1 Q ?_));obtain rfl:=OJ a;exact EndsS.cellR _ TK Q Q Q Q Q (.d _)
theorem Br{c:Ao}{r:Int}(a:qL c=some r):RetN TP 54 [c.enc] (.int .i64 r):=by
 refine .unit (aJ (aQ Q) func54 Q ntmps54 Q Q (λwX gX=>?_)) Q;unfold qL at a;refine aB [0] Q (aM 1 Q (bU 0 Q Q Q (aI 7 Q (dI a (ea ·) Q λf a=>aG 3 Q (bI a Q (λd a=>?_) (λd a=>?_))))));exact aL 6 Q (aY a Q);refine bP 3 Q (bK follows ?_);iterate 2 (refine DA [0] TK Q ?_)
 refine gA [0] a (yd ·) Q λg a=>GE a λb a=>aU [0] Q (Train_ne Q Q Q b.1 b.2) ?_;refine DT ?_ (by kernel_rfl);refine aG 2 Q (mT a Q (λe a=>?_) (λe a=>?_));exact aL 6 Q (aY a Q);exact aL 7 Q (aY a Q)
end Go.Proofs.YtjmpojlgegloeaaGreatDoor
