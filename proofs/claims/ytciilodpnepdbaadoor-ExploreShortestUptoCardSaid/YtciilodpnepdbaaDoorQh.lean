/- Texts of this proof, joined, without what it does not use. No condition. -/
import Derived.Test.YtciilodpnepdbaaDoorRows
import Derived.Test.YtciilodpnepdbaaDoorQg

namespace Go.Proofs.YtciilodpnepdbaaDoor
open Go Go.TL
mutual
theorem nS {H:Type}:∀ d:DataW H,Rows.uptoBulk d=bH d
 | .lit (.string bytes)=>by simp [Rows.uptoBulk,bH]
 | .lit (.bool _)=>by simp [Rows.uptoBulk,bH]
 | .lit (.int _ _)=>by simp [Rows.uptoBulk,bH]
 | .lit (.float .f32 _)=>by simp [Rows.uptoBulk,bH]
 | .lit (.float .f64 _)=>by simp [Rows.uptoBulk,bH]
 | .lit .nil=>by simp [Rows.uptoBulk,bH]
 | .nil=>by simp [Rows.uptoBulk,bH]
 | .ptr d=>by simp [Rows.uptoBulk,bH,nS d]
 | .slice elems spare=>by simp [Rows.uptoBulk,bH,xE elems,xE spare]
 | .agg parts=>by simp [Rows.uptoBulk,bH,xE parts]
 | .iface _ d=>by simp [Rows.uptoBulk,bH,nS d]
 | .map entries=>by simp [Rows.uptoBulk,bH,qJG entries]
 | .held _=>by simp [Rows.uptoBulk,bH]
theorem xE {H:Type}:∀ l:List (DataW H),Rows.uptoBulkAll l=fJ l
 | []=>by simp [Rows.uptoBulkAll,fJ]
 | d :: r=>by simp [Rows.uptoBulkAll,fJ,nS d,xE r]
theorem qJG {H:Type}:∀ l:List (Lit×DataW H),Rows.uptoBulkEntries l=rP l
 | []=>by simp [Rows.uptoBulkEntries,rP]
 | x :: r=>by simp [Rows.uptoBulkEntries,rP,bulk4 x,qJG r]
theorem bulk4 {H:Type}:∀ x:Lit×DataW H,Rows.uptoBulkEntry x=kX x
 | (.string bytes,d)=>by simp [Rows.uptoBulkEntry,kX,nS d]
 | (.bool _,d)=>by simp [Rows.uptoBulkEntry,kX,nS d]
 | (.int _ _,d)=>by simp [Rows.uptoBulkEntry,kX,nS d]
 | (.float .f32 _,d)=>by simp [Rows.uptoBulkEntry,kX,nS d]
 | (.float .f64 _,d)=>by simp [Rows.uptoBulkEntry,kX,nS d]
 | (.nil,d)=>by simp [Rows.uptoBulkEntry,kX,nS d]
end
theorem xO {H:Type} {ds:List (DataW H)} (h:Rows.uptoSmall H ds=true):fJ ds<=1048576:=by
 rw [<- xE];exact of_decide_eq_true h
end Go.Proofs.YtciilodpnepdbaaDoor
