/- Texts of this proof, joined, without what it does not use. No condition. -/
import Derived.Test.YtcagmechagiclaaGreatDoorRows
import Derived.Test.YtcagmechagiclaaGreatDoorQg

namespace Go.Proofs.YtcagmechagiclaaGreatDoor
open Go Go.TL
mutual
theorem qCL {H:Type}:∀ d:DataW H,Rows.uptoBulk d=fI d
 | .lit (.string bytes)=>by simp [Rows.uptoBulk,fI]
 | .lit (.bool _)=>by simp [Rows.uptoBulk,fI]
 | .lit (.int _ _)=>by simp [Rows.uptoBulk,fI]
 | .lit (.float .f32 _)=>by simp [Rows.uptoBulk,fI]
 | .lit (.float .f64 _)=>by simp [Rows.uptoBulk,fI]
 | .lit .nil=>by simp [Rows.uptoBulk,fI]
 | .nil=>by simp [Rows.uptoBulk,fI]
 | .ptr d=>by simp [Rows.uptoBulk,fI,qCL d]
 | .slice elems spare=>by simp [Rows.uptoBulk,fI,qTK elems,qTK spare]
 | .agg parts=>by simp [Rows.uptoBulk,fI,qTK parts]
 | .iface _ d=>by simp [Rows.uptoBulk,fI,qCL d]
 | .map entries=>by simp [Rows.uptoBulk,fI,zOK entries]
 | .held _=>by simp [Rows.uptoBulk,fI]
theorem qTK {H:Type}:∀ l:List (DataW H),Rows.uptoBulkAll l=pC l
 | []=>by simp [Rows.uptoBulkAll,pC]
 | d :: r=>by simp [Rows.uptoBulkAll,pC,qCL d,qTK r]
theorem zOK {H:Type}:∀ l:List (Lit×DataW H),Rows.uptoBulkEntries l=qJM l
 | []=>by simp [Rows.uptoBulkEntries,qJM]
 | x :: r=>by simp [Rows.uptoBulkEntries,qJM,bulk4 x,zOK r]
theorem bulk4 {H:Type}:∀ x:Lit×DataW H,Rows.uptoBulkEntry x=yE x
 | (.string bytes,d)=>by simp [Rows.uptoBulkEntry,yE,qCL d]
 | (.bool _,d)=>by simp [Rows.uptoBulkEntry,yE,qCL d]
 | (.int _ _,d)=>by simp [Rows.uptoBulkEntry,yE,qCL d]
 | (.float .f32 _,d)=>by simp [Rows.uptoBulkEntry,yE,qCL d]
 | (.float .f64 _,d)=>by simp [Rows.uptoBulkEntry,yE,qCL d]
 | (.nil,d)=>by simp [Rows.uptoBulkEntry,yE,qCL d]
end
theorem qUI {H:Type} {ds:List (DataW H)} (h:Rows.uptoSmall H ds=true):pC ds≤1048576:=by
 rw [← qTK];exact of_decide_eq_true h
end Go.Proofs.YtcagmechagiclaaGreatDoor
