/- Texts of this proof, joined, without what it does not use. No condition. -/
import Derived.Test.YtldaknhjmhlefaaGreatDoorRows
import Derived.Test.YtldaknhjmhlefaaGreatDoorQg

namespace Go.Proofs.YtldaknhjmhlefaaGreatDoor
open Go Go.TL
mutual
theorem vJ {H:Type}:∀ d:DataW H,Rows.uptoBulk d=dX d
 | .lit (.string bytes)=>by simp [Rows.uptoBulk,dX]
 | .lit (.bool _)=>by simp [Rows.uptoBulk,dX]
 | .lit (.int _ _)=>by simp [Rows.uptoBulk,dX]
 | .lit (.float .f32 _)=>by simp [Rows.uptoBulk,dX]
 | .lit (.float .f64 _)=>by simp [Rows.uptoBulk,dX]
 | .lit .nil=>by simp [Rows.uptoBulk,dX]
 | .nil=>by simp [Rows.uptoBulk,dX]
 | .ptr d=>by simp [Rows.uptoBulk,dX,vJ d]
 | .slice elems spare=>by simp [Rows.uptoBulk,dX,qGE elems,qGE spare]
 | .agg parts=>by simp [Rows.uptoBulk,dX,qGE parts]
 | .iface _ d=>by simp [Rows.uptoBulk,dX,vJ d]
 | .map entries=>by simp [Rows.uptoBulk,dX,qVG entries]
 | .held _=>by simp [Rows.uptoBulk,dX]
theorem qGE {H:Type}:∀ l:List (DataW H),Rows.uptoBulkAll l=kR l
 | []=>by simp [Rows.uptoBulkAll,kR]
 | d :: r=>by simp [Rows.uptoBulkAll,kR,vJ d,qGE r]
theorem qVG {H:Type}:∀ l:List (Lit×DataW H),Rows.uptoBulkEntries l=zW l
 | []=>by simp [Rows.uptoBulkEntries,zW]
 | x :: r=>by simp [Rows.uptoBulkEntries,zW,bulk4 x,qVG r]
theorem bulk4 {H:Type}:∀ x:Lit×DataW H,Rows.uptoBulkEntry x=rY x
 | (.string bytes,d)=>by simp [Rows.uptoBulkEntry,rY,vJ d]
 | (.bool _,d)=>by simp [Rows.uptoBulkEntry,rY,vJ d]
 | (.int _ _,d)=>by simp [Rows.uptoBulkEntry,rY,vJ d]
 | (.float .f32 _,d)=>by simp [Rows.uptoBulkEntry,rY,vJ d]
 | (.float .f64 _,d)=>by simp [Rows.uptoBulkEntry,rY,vJ d]
 | (.nil,d)=>by simp [Rows.uptoBulkEntry,rY,vJ d]
end
theorem qGO {H:Type} {ds:List (DataW H)} (h:Rows.uptoSmall H ds=true):kR ds≤1048576:=by
 rw [← qGE];exact of_decide_eq_true h
end Go.Proofs.YtldaknhjmhlefaaGreatDoor
