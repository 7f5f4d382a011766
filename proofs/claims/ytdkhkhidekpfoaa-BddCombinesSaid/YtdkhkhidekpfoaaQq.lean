/- Texts of this proof, joined, without what it does not use. No condition. -/
import Derived.Deep.CondSized
import Derived.JoinedCond
import Derived.Test.YtdkhkhidekpfoaaQp

namespace Go.TL
open Go.ChangeShapes Go.WideShapes Go.RowKit Go.Deep Go.ChangeAt
mutual
def D.bulk:D→Nat
  | .str s=>s.size+1
  | .agg cs=>D.bulks cs+1
  | .sl _ es=>D.bulks es+1
  | _=>1
def D.bulks:List D→Nat
  | []=>0
  | d :: r=>d.bulk+D.bulks r
end
mutual
def tZ {H:Type}:DataW H→Nat
  | .lit (.string bytes)=>bytes.length+1
  | .lit _=>1
  | .nil=>1
  | .ptr d=>tZ d+1
  | .slice elems spare=>rW elems+rW spare+1
  | .agg parts=>rW parts+1
  | .iface _ d=>tZ d+1
  | .map entries=>qAF entries+1
  | .held _=>1
def rW {H:Type}:List (DataW H)→Nat
  | []=>0
  | d :: r=>tZ d+rW r
def qAF {H:Type}:List (Lit×DataW H)→Nat
  | []=>0
  | x :: r=>bulkWx x+qAF r
def bulkWx {H:Type}:Lit×DataW H→Nat
  | (.string bytes,d)=>bytes.length+tZ d+1
  | (_,d)=>tZ d+1
end
variable {P:Program} {H:Type} {enc:TypeId×Value→H} {w:World} {base:Nat} {spare:Nat→Bool} {held:Bool}
end Go.TL
set_option linter.unusedVariables false
set_option linter.unusedSimpArgs false
set_option maxHeartbeats 400000
set_option maxRecDepth 100000
namespace Go.Proofs.Ytdkhkhidekpfoaa
open Go Go.TL
mutual
theorem qAZ:∀ e:Expr,szE e≤e.encR.bulk
 | ⟨a,b,c⟩=>by
  have:=sE c;simp only [szE,Expr.encR,D.bulk,D.bulks];omega
theorem sE:∀ l:List Expr,szL l≤D.bulks (Expr.encsR l)
 | []=>by simp [szL]
 | e :: r=>by
  have:=qAZ e;have:=sE r;simp only [szL,Expr.encsR,D.bulks];omega
end
mutual
theorem dp_sz:∀ e:Expr,dpE e≤szE e
 | ⟨a,b,c⟩=>by
  have:=qAB c;simp only [szE,dpE];omega
theorem qAB:∀ l:List Expr,dpL l≤szL l
 | []=>by simp [szL,dpL]
 | e :: r=>by
  have:=dp_sz e;have:=qAB r;simp only [szL,dpL];omega
end
end Go.Proofs.Ytdkhkhidekpfoaa
