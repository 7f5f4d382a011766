/- Texts of this proof, joined, without what it does not use. No condition. -/
import Derived.Test.YtciilodpnepdbaaDoorRows
import Derived.Test.YtciilodpnepdbaaDoorQg

namespace Go.Proofs.YtciilodpnepdbaaDoor
open Go Go.TL
mutual
theorem oV {H:Type}:∀ d:DataW H,Rows.uptoBulk d=bV d
 | .lit (.string bytes)=>by simp [Rows.uptoBulk,bV]
 | .lit (.bool _)=>by simp [Rows.uptoBulk,bV]
 | .lit (.int _ _)=>by simp [Rows.uptoBulk,bV]
 | .lit (.float .f32 _)=>by simp [Rows.uptoBulk,bV]
 | .lit (.float .f64 _)=>by simp [Rows.uptoBulk,bV]
 | .lit .nil=>by simp [Rows.uptoBulk,bV]
 | .nil=>by simp [Rows.uptoBulk,bV]
 | .ptr d=>by simp [Rows.uptoBulk,bV,oV d]
 | .slice elems spare=>by simp [Rows.uptoBulk,bV,yO elems,yO spare]
 | .agg parts=>by simp [Rows.uptoBulk,bV,yO parts]
 | .iface _ d=>by simp [Rows.uptoBulk,bV,oV d]
 | .map entries=>by simp [Rows.uptoBulk,bV,qKA entries]
 | .held _=>by simp [Rows.uptoBulk,bV]
theorem yO {H:Type}:∀ l:List (DataW H),Rows.uptoBulkAll l=fU l
 | []=>by simp [Rows.uptoBulkAll,fU]
 | d :: r=>by simp [Rows.uptoBulkAll,fU,oV d,yO r]
theorem qKA {H:Type}:∀ l:List (Lit×DataW H),Rows.uptoBulkEntries l=sS l
 | []=>by simp [Rows.uptoBulkEntries,sS]
 | x :: r=>by simp [Rows.uptoBulkEntries,sS,bulk4 x,qKA r]
theorem bulk4 {H:Type}:∀ x:Lit×DataW H,Rows.uptoBulkEntry x=mC x
 | (.string bytes,d)=>by simp [Rows.uptoBulkEntry,mC,oV d]
 | (.bool _,d)=>by simp [Rows.uptoBulkEntry,mC,oV d]
 | (.int _ _,d)=>by simp [Rows.uptoBulkEntry,mC,oV d]
 | (.float .f32 _,d)=>by simp [Rows.uptoBulkEntry,mC,oV d]
 | (.float .f64 _,d)=>by simp [Rows.uptoBulkEntry,mC,oV d]
 | (.nil,d)=>by simp [Rows.uptoBulkEntry,mC,oV d]
end
theorem zA {H:Type} {ds:List (DataW H)} (h:Rows.uptoSmall H ds=true):fU ds<=1048576:=by
 rw [<- yO];exact of_decide_eq_true h
end Go.Proofs.YtciilodpnepdbaaDoor
