/- Texts of this proof, joined, without what it does not use. No condition. -/
import Derived.Test.YtcagmechagiclaaGreatDoorRows
import Derived.Test.YtcagmechagiclaaGreatDoorQg

namespace Go.Proofs.YtcagmechagiclaaGreatDoor
open Go Go.TL
mutual
theorem yQ {H:Type}:∀ d:DataW H,Rows.uptoBulk d=fK d
 | .lit (.string bytes)=>by simp [Rows.uptoBulk,fK]
 | .lit (.bool _)=>by simp [Rows.uptoBulk,fK]
 | .lit (.int _ _)=>by simp [Rows.uptoBulk,fK]
 | .lit (.float .f32 _)=>by simp [Rows.uptoBulk,fK]
 | .lit (.float .f64 _)=>by simp [Rows.uptoBulk,fK]
 | .lit .nil=>by simp [Rows.uptoBulk,fK]
 | .nil=>by simp [Rows.uptoBulk,fK]
 | .ptr d=>by simp [Rows.uptoBulk,fK,yQ d]
 | .slice elems spare=>by simp [Rows.uptoBulk,fK,qOS elems,qOS spare]
 | .agg parts=>by simp [Rows.uptoBulk,fK,qOS parts]
 | .iface _ d=>by simp [Rows.uptoBulk,fK,yQ d]
 | .map entries=>by simp [Rows.uptoBulk,fK,zBZ entries]
 | .held _=>by simp [Rows.uptoBulk,fK]
theorem qOS {H:Type}:∀ l:List (DataW H),Rows.uptoBulkAll l=nU l
 | []=>by simp [Rows.uptoBulkAll,nU]
 | d :: r=>by simp [Rows.uptoBulkAll,nU,yQ d,qOS r]
theorem zBZ {H:Type}:∀ l:List (Lit×DataW H),Rows.uptoBulkEntries l=qDZ l
 | []=>by simp [Rows.uptoBulkEntries,qDZ]
 | x :: r=>by simp [Rows.uptoBulkEntries,qDZ,bulk4 x,zBZ r]
theorem bulk4 {H:Type}:∀ x:Lit×DataW H,Rows.uptoBulkEntry x=uX x
 | (.string bytes,d)=>by simp [Rows.uptoBulkEntry,uX,yQ d]
 | (.bool _,d)=>by simp [Rows.uptoBulkEntry,uX,yQ d]
 | (.int _ _,d)=>by simp [Rows.uptoBulkEntry,uX,yQ d]
 | (.float .f32 _,d)=>by simp [Rows.uptoBulkEntry,uX,yQ d]
 | (.float .f64 _,d)=>by simp [Rows.uptoBulkEntry,uX,yQ d]
 | (.nil,d)=>by simp [Rows.uptoBulkEntry,uX,yQ d]
end
end Go.Proofs.YtcagmechagiclaaGreatDoor
