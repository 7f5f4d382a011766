/- Texts of this proof, joined, without what it does not use. No condition. -/
import Derived.Test.YtofndjhpbonpbaaGreatDoorRows
import Derived.Test.YtofndjhpbonpbaaGreatDoorQg

namespace Go.Proofs.YtofndjhpbonpbaaGreatDoor
open Go Go.TL
mutual
theorem zW {H:Type}:∀ d:DataW H,Rows.uptoBulk d=dH d
 | .lit (.string bytes)=>by simp [Rows.uptoBulk,dH]
 | .lit (.bool _)=>by simp [Rows.uptoBulk,dH]
 | .lit (.int _ _)=>by simp [Rows.uptoBulk,dH]
 | .lit (.float .f32 _)=>by simp [Rows.uptoBulk,dH]
 | .lit (.float .f64 _)=>by simp [Rows.uptoBulk,dH]
 | .lit .nil=>by simp [Rows.uptoBulk,dH]
 | .nil=>by simp [Rows.uptoBulk,dH]
 | .ptr d=>by simp [Rows.uptoBulk,dH,zW d]
 | .slice elems spare=>by simp [Rows.uptoBulk,dH,qUM elems,qUM spare]
 | .agg parts=>by simp [Rows.uptoBulk,dH,qUM parts]
 | .iface _ d=>by simp [Rows.uptoBulk,dH,zW d]
 | .map entries=>by simp [Rows.uptoBulk,dH,zFK entries]
 | .held _=>by simp [Rows.uptoBulk,dH]
theorem qUM {H:Type}:∀ l:List (DataW H),Rows.uptoBulkAll l=mN l
 | []=>by simp [Rows.uptoBulkAll,mN]
 | d :: r=>by simp [Rows.uptoBulkAll,mN,zW d,qUM r]
theorem zFK {H:Type}:∀ l:List (Lit×DataW H),Rows.uptoBulkEntries l=qFY l
 | []=>by simp [Rows.uptoBulkEntries,qFY]
 | x :: r=>by simp [Rows.uptoBulkEntries,qFY,bulk4 x,zFK r]
theorem bulk4 {H:Type}:∀ x:Lit×DataW H,Rows.uptoBulkEntry x=vQ x
 | (.string bytes,d)=>by simp [Rows.uptoBulkEntry,vQ,zW d]
 | (.bool _,d)=>by simp [Rows.uptoBulkEntry,vQ,zW d]
 | (.int _ _,d)=>by simp [Rows.uptoBulkEntry,vQ,zW d]
 | (.float .f32 _,d)=>by simp [Rows.uptoBulkEntry,vQ,zW d]
 | (.float .f64 _,d)=>by simp [Rows.uptoBulkEntry,vQ,zW d]
 | (.nil,d)=>by simp [Rows.uptoBulkEntry,vQ,zW d]
end
end Go.Proofs.YtofndjhpbonpbaaGreatDoor
