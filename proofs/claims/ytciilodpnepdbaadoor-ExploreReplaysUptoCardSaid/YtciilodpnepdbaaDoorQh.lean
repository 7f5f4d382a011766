/- Texts of this proof, joined, without what it does not use. No condition. -/
import Derived.Test.YtciilodpnepdbaaDoorRows
import Derived.Test.YtciilodpnepdbaaDoorQg

namespace Go.Proofs.YtciilodpnepdbaaDoor
open Go Go.TL
mutual
theorem nT {H:Type}:∀ d:DataW H,Rows.uptoBulk d=bP d
 | .lit (.string bytes)=>by simp [Rows.uptoBulk,bP]
 | .lit (.bool _)=>by simp [Rows.uptoBulk,bP]
 | .lit (.int _ _)=>by simp [Rows.uptoBulk,bP]
 | .lit (.float .f32 _)=>by simp [Rows.uptoBulk,bP]
 | .lit (.float .f64 _)=>by simp [Rows.uptoBulk,bP]
 | .lit .nil=>by simp [Rows.uptoBulk,bP]
 | .nil=>by simp [Rows.uptoBulk,bP]
 | .ptr d=>by simp [Rows.uptoBulk,bP,nT d]
 | .slice elems spare=>by simp [Rows.uptoBulk,bP,wJ elems,wJ spare]
 | .agg parts=>by simp [Rows.uptoBulk,bP,wJ parts]
 | .iface _ d=>by simp [Rows.uptoBulk,bP,nT d]
 | .map entries=>by simp [Rows.uptoBulk,bP,qGQ entries]
 | .held _=>by simp [Rows.uptoBulk,bP]
theorem wJ {H:Type}:∀ l:List (DataW H),Rows.uptoBulkAll l=fI l
 | []=>by simp [Rows.uptoBulkAll,fI]
 | d :: r=>by simp [Rows.uptoBulkAll,fI,nT d,wJ r]
theorem qGQ {H:Type}:∀ l:List (Lit×DataW H),Rows.uptoBulkEntries l=rF l
 | []=>by simp [Rows.uptoBulkEntries,rF]
 | x :: r=>by simp [Rows.uptoBulkEntries,rF,bulk4 x,qGQ r]
theorem bulk4 {H:Type}:∀ x:Lit×DataW H,Rows.uptoBulkEntry x=lD x
 | (.string bytes,d)=>by simp [Rows.uptoBulkEntry,lD,nT d]
 | (.bool _,d)=>by simp [Rows.uptoBulkEntry,lD,nT d]
 | (.int _ _,d)=>by simp [Rows.uptoBulkEntry,lD,nT d]
 | (.float .f32 _,d)=>by simp [Rows.uptoBulkEntry,lD,nT d]
 | (.float .f64 _,d)=>by simp [Rows.uptoBulkEntry,lD,nT d]
 | (.nil,d)=>by simp [Rows.uptoBulkEntry,lD,nT d]
end
theorem wS {H:Type} {ds:List (DataW H)} (h:Rows.uptoSmall H ds=true):fI ds<=1048576:=by
 rw [<- wJ];exact of_decide_eq_true h
end Go.Proofs.YtciilodpnepdbaaDoor
