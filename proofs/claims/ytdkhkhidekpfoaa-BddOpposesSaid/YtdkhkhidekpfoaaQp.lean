/- Texts of this proof, joined, without what it does not use. No condition. -/
import Derived.Deep.CondSized
import Derived.JoinedCond
import Derived.Test.YtdkhkhidekpfoaaQo

namespace Go.TL
open Go.ChangeShapes Go.WideShapes Go.RowKit Go.Deep Go.ChangeAt
mutual
def D.bulk:D→Nat
  | .str s=>s.size+1
  | .agg cs=>D.bulks cs+1
  | .sl _ es=>D.bulks es+1
  | _=>1
def D.bulks:List D→Nat
  | []=>0
  | d :: r=>d.bulk+D.bulks r
end
mutual
def sW {H:Type}:DataW H→Nat
  | .lit (.string bytes)=>bytes.length+1
  | .lit _=>1
  | .nil=>1
  | .ptr d=>sW d+1
  | .slice elems spare=>qV elems+qV spare+1
  | .agg parts=>qV parts+1
  | .iface _ d=>sW d+1
  | .map entries=>yZ entries+1
  | .held _=>1
def qV {H:Type}:List (DataW H)→Nat
  | []=>0
  | d :: r=>sW d+qV r
def yZ {H:Type}:List (Lit×DataW H)→Nat
  | []=>0
  | x :: r=>bulkWx x+yZ r
def bulkWx {H:Type}:Lit×DataW H→Nat
  | (.string bytes,d)=>bytes.length+sW d+1
  | (_,d)=>sW d+1
end
variable {P:Program} {H:Type} {enc:TypeId×Value→H} {w:World} {base:Nat} {spare:Nat→Bool} {held:Bool}
end Go.TL
set_option linter.unusedVariables false
set_option linter.unusedSimpArgs false
set_option maxHeartbeats 400000
set_option maxRecDepth 100000
namespace Go.Proofs.Ytdkhkhidekpfoaa
open Go Go.TL
mutual
theorem zT:∀ e:Expr,szE e≤e.encR.bulk
 | ⟨a,b,c⟩=>by
  have:=rC c;simp only [szE,Expr.encR,D.bulk,D.bulks];omega
theorem rC:∀ l:List Expr,szL l≤D.bulks (Expr.encsR l)
 | []=>by simp [szL]
 | e :: r=>by
  have:=zT e;have:=rC r;simp only [szL,Expr.encsR,D.bulks];omega
end
mutual
theorem dp_sz:∀ e:Expr,dpE e≤szE e
 | ⟨a,b,c⟩=>by
  have:=yR c;simp only [szE,dpE];omega
theorem yR:∀ l:List Expr,dpL l≤szL l
 | []=>by simp [szL,dpL]
 | e :: r=>by
  have:=dp_sz e;have:=yR r;simp only [szL,dpL];omega
end
end Go.Proofs.Ytdkhkhidekpfoaa
