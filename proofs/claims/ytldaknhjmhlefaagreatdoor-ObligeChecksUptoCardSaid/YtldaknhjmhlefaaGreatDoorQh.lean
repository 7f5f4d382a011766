/- Texts of this proof, joined, without what it does not use. No condition. -/
import Derived.Test.YtldaknhjmhlefaaGreatDoorRows
import Derived.Test.YtldaknhjmhlefaaGreatDoorQg

namespace Go.Proofs.YtldaknhjmhlefaaGreatDoor
open Go Go.TL
mutual
theorem tM {H:Type}:∀ d:DataW H,Rows.uptoBulk d=dT d
 | .lit (.string bytes)=>by simp [Rows.uptoBulk,dT]
 | .lit (.bool _)=>by simp [Rows.uptoBulk,dT]
 | .lit (.int _ _)=>by simp [Rows.uptoBulk,dT]
 | .lit (.float .f32 _)=>by simp [Rows.uptoBulk,dT]
 | .lit (.float .f64 _)=>by simp [Rows.uptoBulk,dT]
 | .lit .nil=>by simp [Rows.uptoBulk,dT]
 | .nil=>by simp [Rows.uptoBulk,dT]
 | .ptr d=>by simp [Rows.uptoBulk,dT,tM d]
 | .slice elems spare=>by simp [Rows.uptoBulk,dT,qCW elems,qCW spare]
 | .agg parts=>by simp [Rows.uptoBulk,dT,qCW parts]
 | .iface _ d=>by simp [Rows.uptoBulk,dT,tM d]
 | .map entries=>by simp [Rows.uptoBulk,dT,qQZ entries]
 | .held _=>by simp [Rows.uptoBulk,dT]
theorem qCW {H:Type}:∀ l:List (DataW H),Rows.uptoBulkAll l=jS l
 | []=>by simp [Rows.uptoBulkAll,jS]
 | d :: r=>by simp [Rows.uptoBulkAll,jS,tM d,qCW r]
theorem qQZ {H:Type}:∀ l:List (Lit×DataW H),Rows.uptoBulkEntries l=xI l
 | []=>by simp [Rows.uptoBulkEntries,xI]
 | x :: r=>by simp [Rows.uptoBulkEntries,xI,bulk4 x,qQZ r]
theorem bulk4 {H:Type}:∀ x:Lit×DataW H,Rows.uptoBulkEntry x=qK x
 | (.string bytes,d)=>by simp [Rows.uptoBulkEntry,qK,tM d]
 | (.bool _,d)=>by simp [Rows.uptoBulkEntry,qK,tM d]
 | (.int _ _,d)=>by simp [Rows.uptoBulkEntry,qK,tM d]
 | (.float .f32 _,d)=>by simp [Rows.uptoBulkEntry,qK,tM d]
 | (.float .f64 _,d)=>by simp [Rows.uptoBulkEntry,qK,tM d]
 | (.nil,d)=>by simp [Rows.uptoBulkEntry,qK,tM d]
end
theorem qDG {H:Type} {ds:List (DataW H)} (h:Rows.uptoSmall H ds=true):jS ds≤1048576:=by
 rw [← qCW];exact of_decide_eq_true h
end Go.Proofs.YtldaknhjmhlefaaGreatDoor
