/- Texts of this proof, joined, without what it does not use. No condition. -/
import Derived.Test.YtciilodpnepdbaaDoorRows
import Derived.Test.YtciilodpnepdbaaDoorQg

namespace Go.Proofs.YtciilodpnepdbaaDoor
open Go Go.TL
mutual
theorem nE {H:Type}:∀ d:DataW H,Rows.uptoBulk d=bB d
 | .lit (.string bytes)=>by simp [Rows.uptoBulk,bB]
 | .lit (.bool _)=>by simp [Rows.uptoBulk,bB]
 | .lit (.int _ _)=>by simp [Rows.uptoBulk,bB]
 | .lit (.float .f32 _)=>by simp [Rows.uptoBulk,bB]
 | .lit (.float .f64 _)=>by simp [Rows.uptoBulk,bB]
 | .lit .nil=>by simp [Rows.uptoBulk,bB]
 | .nil=>by simp [Rows.uptoBulk,bB]
 | .ptr d=>by simp [Rows.uptoBulk,bB,nE d]
 | .slice elems spare=>by simp [Rows.uptoBulk,bB,wP elems,wP spare]
 | .agg parts=>by simp [Rows.uptoBulk,bB,wP parts]
 | .iface _ d=>by simp [Rows.uptoBulk,bB,nE d]
 | .map entries=>by simp [Rows.uptoBulk,bB,qIH entries]
 | .held _=>by simp [Rows.uptoBulk,bB]
theorem wP {H:Type}:∀ l:List (DataW H),Rows.uptoBulkAll l=fF l
 | []=>by simp [Rows.uptoBulkAll,fF]
 | d :: r=>by simp [Rows.uptoBulkAll,fF,nE d,wP r]
theorem qIH {H:Type}:∀ l:List (Lit×DataW H),Rows.uptoBulkEntries l=qZ l
 | []=>by simp [Rows.uptoBulkEntries,qZ]
 | x :: r=>by simp [Rows.uptoBulkEntries,qZ,bulk4 x,qIH r]
theorem bulk4 {H:Type}:∀ x:Lit×DataW H,Rows.uptoBulkEntry x=kM x
 | (.string bytes,d)=>by simp [Rows.uptoBulkEntry,kM,nE d]
 | (.bool _,d)=>by simp [Rows.uptoBulkEntry,kM,nE d]
 | (.int _ _,d)=>by simp [Rows.uptoBulkEntry,kM,nE d]
 | (.float .f32 _,d)=>by simp [Rows.uptoBulkEntry,kM,nE d]
 | (.float .f64 _,d)=>by simp [Rows.uptoBulkEntry,kM,nE d]
 | (.nil,d)=>by simp [Rows.uptoBulkEntry,kM,nE d]
end
theorem xB {H:Type} {ds:List (DataW H)} (h:Rows.uptoSmall H ds=true):fF ds<=1048576:=by
 rw [<- wP];exact of_decide_eq_true h
end Go.Proofs.YtciilodpnepdbaaDoor
