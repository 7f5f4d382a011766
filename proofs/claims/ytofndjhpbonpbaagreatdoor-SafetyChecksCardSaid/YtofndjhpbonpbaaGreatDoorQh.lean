/- Texts of this proof, joined, without what it does not use. No condition. -/
import Derived.Test.YtofndjhpbonpbaaGreatDoorRows
import Derived.Test.YtofndjhpbonpbaaGreatDoorQg

namespace Go.Proofs.YtofndjhpbonpbaaGreatDoor
open Go Go.TL
mutual
theorem qAS {H:Type}:∀ d:DataW H,Rows.uptoBulk d=dJ d
 | .lit (.string bytes)=>by simp [Rows.uptoBulk,dJ]
 | .lit (.bool _)=>by simp [Rows.uptoBulk,dJ]
 | .lit (.int _ _)=>by simp [Rows.uptoBulk,dJ]
 | .lit (.float .f32 _)=>by simp [Rows.uptoBulk,dJ]
 | .lit (.float .f64 _)=>by simp [Rows.uptoBulk,dJ]
 | .lit .nil=>by simp [Rows.uptoBulk,dJ]
 | .nil=>by simp [Rows.uptoBulk,dJ]
 | .ptr d=>by simp [Rows.uptoBulk,dJ,qAS d]
 | .slice elems spare=>by simp [Rows.uptoBulk,dJ,qVT elems,qVT spare]
 | .agg parts=>by simp [Rows.uptoBulk,dJ,qVT parts]
 | .iface _ d=>by simp [Rows.uptoBulk,dJ,qAS d]
 | .map entries=>by simp [Rows.uptoBulk,dJ,zGV entries]
 | .held _=>by simp [Rows.uptoBulk,dJ]
theorem qVT {H:Type}:∀ l:List (DataW H),Rows.uptoBulkAll l=mZ l
 | []=>by simp [Rows.uptoBulkAll,mZ]
 | d :: r=>by simp [Rows.uptoBulkAll,mZ,qAS d,qVT r]
theorem zGV {H:Type}:∀ l:List (Lit×DataW H),Rows.uptoBulkEntries l=qHB l
 | []=>by simp [Rows.uptoBulkEntries,qHB]
 | x :: r=>by simp [Rows.uptoBulkEntries,qHB,bulk4 x,zGV r]
theorem bulk4 {H:Type}:∀ x:Lit×DataW H,Rows.uptoBulkEntry x=wI x
 | (.string bytes,d)=>by simp [Rows.uptoBulkEntry,wI,qAS d]
 | (.bool _,d)=>by simp [Rows.uptoBulkEntry,wI,qAS d]
 | (.int _ _,d)=>by simp [Rows.uptoBulkEntry,wI,qAS d]
 | (.float .f32 _,d)=>by simp [Rows.uptoBulkEntry,wI,qAS d]
 | (.float .f64 _,d)=>by simp [Rows.uptoBulkEntry,wI,qAS d]
 | (.nil,d)=>by simp [Rows.uptoBulkEntry,wI,qAS d]
end
end Go.Proofs.YtofndjhpbonpbaaGreatDoor
