/- Texts of this proof, joined, without what it does not use. No condition. -/
import Derived.Test.YtciilodpnepdbaaDoorRows
import Derived.Test.YtciilodpnepdbaaDoorQg

namespace Go.Proofs.YtciilodpnepdbaaDoor
open Go Go.TL
mutual
theorem oU {H:Type}:∀ d:DataW H,Rows.uptoBulk d=bW d
 | .lit (.string bytes)=>by simp [Rows.uptoBulk,bW]
 | .lit (.bool _)=>by simp [Rows.uptoBulk,bW]
 | .lit (.int _ _)=>by simp [Rows.uptoBulk,bW]
 | .lit (.float .f32 _)=>by simp [Rows.uptoBulk,bW]
 | .lit (.float .f64 _)=>by simp [Rows.uptoBulk,bW]
 | .lit .nil=>by simp [Rows.uptoBulk,bW]
 | .nil=>by simp [Rows.uptoBulk,bW]
 | .ptr d=>by simp [Rows.uptoBulk,bW,oU d]
 | .slice elems spare=>by simp [Rows.uptoBulk,bW,yT elems,yT spare]
 | .agg parts=>by simp [Rows.uptoBulk,bW,yT parts]
 | .iface _ d=>by simp [Rows.uptoBulk,bW,oU d]
 | .map entries=>by simp [Rows.uptoBulk,bW,qKO entries]
 | .held _=>by simp [Rows.uptoBulk,bW]
theorem yT {H:Type}:∀ l:List (DataW H),Rows.uptoBulkAll l=fU l
 | []=>by simp [Rows.uptoBulkAll,fU]
 | d :: r=>by simp [Rows.uptoBulkAll,fU,oU d,yT r]
theorem qKO {H:Type}:∀ l:List (Lit×DataW H),Rows.uptoBulkEntries l=sX l
 | []=>by simp [Rows.uptoBulkEntries,sX]
 | x :: r=>by simp [Rows.uptoBulkEntries,sX,bulk4 x,qKO r]
theorem bulk4 {H:Type}:∀ x:Lit×DataW H,Rows.uptoBulkEntry x=mA x
 | (.string bytes,d)=>by simp [Rows.uptoBulkEntry,mA,oU d]
 | (.bool _,d)=>by simp [Rows.uptoBulkEntry,mA,oU d]
 | (.int _ _,d)=>by simp [Rows.uptoBulkEntry,mA,oU d]
 | (.float .f32 _,d)=>by simp [Rows.uptoBulkEntry,mA,oU d]
 | (.float .f64 _,d)=>by simp [Rows.uptoBulkEntry,mA,oU d]
 | (.nil,d)=>by simp [Rows.uptoBulkEntry,mA,oU d]
end
theorem zE {H:Type} {ds:List (DataW H)} (h:Rows.uptoSmall H ds=true):fU ds<=1048576:=by
 rw [<- yT];exact of_decide_eq_true h
end Go.Proofs.YtciilodpnepdbaaDoor
