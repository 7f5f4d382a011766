/- Texts of this proof, joined, without what it does not use. No condition. -/
import Derived.Test.YtldaknhjmhlefaaGreatDoorRows
import Derived.Test.YtldaknhjmhlefaaGreatDoorQg

namespace Go.Proofs.YtldaknhjmhlefaaGreatDoor
open Go Go.TL
mutual
theorem vQ {H:Type}:∀ d:DataW H,Rows.uptoBulk d=dY d
 | .lit (.string bytes)=>by simp [Rows.uptoBulk,dY]
 | .lit (.bool _)=>by simp [Rows.uptoBulk,dY]
 | .lit (.int _ _)=>by simp [Rows.uptoBulk,dY]
 | .lit (.float .f32 _)=>by simp [Rows.uptoBulk,dY]
 | .lit (.float .f64 _)=>by simp [Rows.uptoBulk,dY]
 | .lit .nil=>by simp [Rows.uptoBulk,dY]
 | .nil=>by simp [Rows.uptoBulk,dY]
 | .ptr d=>by simp [Rows.uptoBulk,dY,vQ d]
 | .slice elems spare=>by simp [Rows.uptoBulk,dY,qGP elems,qGP spare]
 | .agg parts=>by simp [Rows.uptoBulk,dY,qGP parts]
 | .iface _ d=>by simp [Rows.uptoBulk,dY,vQ d]
 | .map entries=>by simp [Rows.uptoBulk,dY,qWI entries]
 | .held _=>by simp [Rows.uptoBulk,dY]
theorem qGP {H:Type}:∀ l:List (DataW H),Rows.uptoBulkAll l=kT l
 | []=>by simp [Rows.uptoBulkAll,kT]
 | d :: r=>by simp [Rows.uptoBulkAll,kT,vQ d,qGP r]
theorem qWI {H:Type}:∀ l:List (Lit×DataW H),Rows.uptoBulkEntries l=qAD l
 | []=>by simp [Rows.uptoBulkEntries,qAD]
 | x :: r=>by simp [Rows.uptoBulkEntries,qAD,bulk4 x,qWI r]
theorem bulk4 {H:Type}:∀ x:Lit×DataW H,Rows.uptoBulkEntry x=sF x
 | (.string bytes,d)=>by simp [Rows.uptoBulkEntry,sF,vQ d]
 | (.bool _,d)=>by simp [Rows.uptoBulkEntry,sF,vQ d]
 | (.int _ _,d)=>by simp [Rows.uptoBulkEntry,sF,vQ d]
 | (.float .f32 _,d)=>by simp [Rows.uptoBulkEntry,sF,vQ d]
 | (.float .f64 _,d)=>by simp [Rows.uptoBulkEntry,sF,vQ d]
 | (.nil,d)=>by simp [Rows.uptoBulkEntry,sF,vQ d]
end
theorem qGY {H:Type} {ds:List (DataW H)} (h:Rows.uptoSmall H ds=true):kT ds≤1048576:=by
 rw [← qGP];exact of_decide_eq_true h
end Go.Proofs.YtldaknhjmhlefaaGreatDoor
