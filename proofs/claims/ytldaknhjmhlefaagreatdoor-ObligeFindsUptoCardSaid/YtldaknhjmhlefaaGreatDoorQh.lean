/- Texts of this proof, joined, without what it does not use. No condition. -/
import Derived.Test.YtldaknhjmhlefaaGreatDoorRows
import Derived.Test.YtldaknhjmhlefaaGreatDoorQg

namespace Go.Proofs.YtldaknhjmhlefaaGreatDoor
open Go Go.TL
mutual
theorem zK {H:Type}:∀ d:DataW H,Rows.uptoBulk d=eV d
 | .lit (.string bytes)=>by simp [Rows.uptoBulk,eV]
 | .lit (.bool _)=>by simp [Rows.uptoBulk,eV]
 | .lit (.int _ _)=>by simp [Rows.uptoBulk,eV]
 | .lit (.float .f32 _)=>by simp [Rows.uptoBulk,eV]
 | .lit (.float .f64 _)=>by simp [Rows.uptoBulk,eV]
 | .lit .nil=>by simp [Rows.uptoBulk,eV]
 | .nil=>by simp [Rows.uptoBulk,eV]
 | .ptr d=>by simp [Rows.uptoBulk,eV,zK d]
 | .slice elems spare=>by simp [Rows.uptoBulk,eV,qNJ elems,qNJ spare]
 | .agg parts=>by simp [Rows.uptoBulk,eV,qNJ parts]
 | .iface _ d=>by simp [Rows.uptoBulk,eV,zK d]
 | .map entries=>by simp [Rows.uptoBulk,eV,zGE entries]
 | .held _=>by simp [Rows.uptoBulk,eV]
theorem qNJ {H:Type}:∀ l:List (DataW H),Rows.uptoBulkAll l=lX l
 | []=>by simp [Rows.uptoBulkAll,lX]
 | d :: r=>by simp [Rows.uptoBulkAll,lX,zK d,qNJ r]
theorem zGE {H:Type}:∀ l:List (Lit×DataW H),Rows.uptoBulkEntries l=qEZ l
 | []=>by simp [Rows.uptoBulkEntries,qEZ]
 | x :: r=>by simp [Rows.uptoBulkEntries,qEZ,bulk4 x,zGE r]
theorem bulk4 {H:Type}:∀ x:Lit×DataW H,Rows.uptoBulkEntry x=uU x
 | (.string bytes,d)=>by simp [Rows.uptoBulkEntry,uU,zK d]
 | (.bool _,d)=>by simp [Rows.uptoBulkEntry,uU,zK d]
 | (.int _ _,d)=>by simp [Rows.uptoBulkEntry,uU,zK d]
 | (.float .f32 _,d)=>by simp [Rows.uptoBulkEntry,uU,zK d]
 | (.float .f64 _,d)=>by simp [Rows.uptoBulkEntry,uU,zK d]
 | (.nil,d)=>by simp [Rows.uptoBulkEntry,uU,zK d]
end
theorem qOA {H:Type} {ds:List (DataW H)} (h:Rows.uptoSmall H ds=true):lX ds≤1048576:=by
 rw [← qNJ];exact of_decide_eq_true h
end Go.Proofs.YtldaknhjmhlefaaGreatDoor
