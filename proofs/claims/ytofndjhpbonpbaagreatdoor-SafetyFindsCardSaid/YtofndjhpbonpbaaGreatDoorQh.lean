/- Texts of this proof, joined, without what it does not use. No condition. -/
import Derived.Test.YtofndjhpbonpbaaGreatDoorRows
import Derived.Test.YtofndjhpbonpbaaGreatDoorQg

namespace Go.Proofs.YtofndjhpbonpbaaGreatDoor
open Go Go.TL
mutual
theorem zL {H:Type}:∀ d:DataW H,Rows.uptoBulk d=dG d
 | .lit (.string bytes)=>by simp [Rows.uptoBulk,dG]
 | .lit (.bool _)=>by simp [Rows.uptoBulk,dG]
 | .lit (.int _ _)=>by simp [Rows.uptoBulk,dG]
 | .lit (.float .f32 _)=>by simp [Rows.uptoBulk,dG]
 | .lit (.float .f64 _)=>by simp [Rows.uptoBulk,dG]
 | .lit .nil=>by simp [Rows.uptoBulk,dG]
 | .nil=>by simp [Rows.uptoBulk,dG]
 | .ptr d=>by simp [Rows.uptoBulk,dG,zL d]
 | .slice elems spare=>by simp [Rows.uptoBulk,dG,qUI elems,qUI spare]
 | .agg parts=>by simp [Rows.uptoBulk,dG,qUI parts]
 | .iface _ d=>by simp [Rows.uptoBulk,dG,zL d]
 | .map entries=>by simp [Rows.uptoBulk,dG,zFA entries]
 | .held _=>by simp [Rows.uptoBulk,dG]
theorem qUI {H:Type}:∀ l:List (DataW H),Rows.uptoBulkAll l=mF l
 | []=>by simp [Rows.uptoBulkAll,mF]
 | d :: r=>by simp [Rows.uptoBulkAll,mF,zL d,qUI r]
theorem zFA {H:Type}:∀ l:List (Lit×DataW H),Rows.uptoBulkEntries l=qFM l
 | []=>by simp [Rows.uptoBulkEntries,qFM]
 | x :: r=>by simp [Rows.uptoBulkEntries,qFM,bulk4 x,zFA r]
theorem bulk4 {H:Type}:∀ x:Lit×DataW H,Rows.uptoBulkEntry x=vJ x
 | (.string bytes,d)=>by simp [Rows.uptoBulkEntry,vJ,zL d]
 | (.bool _,d)=>by simp [Rows.uptoBulkEntry,vJ,zL d]
 | (.int _ _,d)=>by simp [Rows.uptoBulkEntry,vJ,zL d]
 | (.float .f32 _,d)=>by simp [Rows.uptoBulkEntry,vJ,zL d]
 | (.float .f64 _,d)=>by simp [Rows.uptoBulkEntry,vJ,zL d]
 | (.nil,d)=>by simp [Rows.uptoBulkEntry,vJ,zL d]
end
end Go.Proofs.YtofndjhpbonpbaaGreatDoor
