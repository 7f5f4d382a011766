/- Texts of this proof, joined, without what it does not use. No condition. -/
import Derived.Test.YtldaknhjmhlefaaGreatDoorRows
import Derived.Test.YtldaknhjmhlefaaGreatDoorQg

namespace Go.Proofs.YtldaknhjmhlefaaGreatDoor
open Go Go.TL
mutual
theorem qFJ {H:Type}:∀ d:DataW H,Rows.uptoBulk d=gW d
 | .lit (.string bytes)=>by simp [Rows.uptoBulk,gW]
 | .lit (.bool _)=>by simp [Rows.uptoBulk,gW]
 | .lit (.int _ _)=>by simp [Rows.uptoBulk,gW]
 | .lit (.float .f32 _)=>by simp [Rows.uptoBulk,gW]
 | .lit (.float .f64 _)=>by simp [Rows.uptoBulk,gW]
 | .lit .nil=>by simp [Rows.uptoBulk,gW]
 | .nil=>by simp [Rows.uptoBulk,gW]
 | .ptr d=>by simp [Rows.uptoBulk,gW,qFJ d]
 | .slice elems spare=>by simp [Rows.uptoBulk,gW,qUM elems,qUM spare]
 | .agg parts=>by simp [Rows.uptoBulk,gW,qUM parts]
 | .iface _ d=>by simp [Rows.uptoBulk,gW,qFJ d]
 | .map entries=>by simp [Rows.uptoBulk,gW,zHR entries]
 | .held _=>by simp [Rows.uptoBulk,gW]
theorem qUM {H:Type}:∀ l:List (DataW H),Rows.uptoBulkAll l=pV l
 | []=>by simp [Rows.uptoBulkAll,pV]
 | d :: r=>by simp [Rows.uptoBulkAll,pV,qFJ d,qUM r]
theorem zHR {H:Type}:∀ l:List (Lit×DataW H),Rows.uptoBulkEntries l=qLV l
 | []=>by simp [Rows.uptoBulkEntries,qLV]
 | x :: r=>by simp [Rows.uptoBulkEntries,qLV,bulk4 x,zHR r]
theorem bulk4 {H:Type}:∀ x:Lit×DataW H,Rows.uptoBulkEntry x=qAO x
 | (.string bytes,d)=>by simp [Rows.uptoBulkEntry,qAO,qFJ d]
 | (.bool _,d)=>by simp [Rows.uptoBulkEntry,qAO,qFJ d]
 | (.int _ _,d)=>by simp [Rows.uptoBulkEntry,qAO,qFJ d]
 | (.float .f32 _,d)=>by simp [Rows.uptoBulkEntry,qAO,qFJ d]
 | (.float .f64 _,d)=>by simp [Rows.uptoBulkEntry,qAO,qFJ d]
 | (.nil,d)=>by simp [Rows.uptoBulkEntry,qAO,qFJ d]
end
theorem qVD {H:Type} {ds:List (DataW H)} (h:Rows.uptoSmall H ds=true):pV ds<=1048576:=by
 rw [<- qUM];exact of_decide_eq_true h
end Go.Proofs.YtldaknhjmhlefaaGreatDoor
