/- Texts of this proof, joined, without what it does not use. No condition. -/
import Derived.Test.YtcagmechagiclaaGreatDoorRows
import Derived.Test.YtcagmechagiclaaGreatDoorQg

namespace Go.Proofs.YtcagmechagiclaaGreatDoor
open Go Go.TL
mutual
theorem bulk1 {H : Type} : ∀ d : DataW H, Rows.uptoBulk d = bulkW d
 | .lit (.string bytes) => by simp [Rows.uptoBulk, bulkW]
 | .lit (.bool _) => by simp [Rows.uptoBulk, bulkW]
 | .lit (.int _ _) => by simp [Rows.uptoBulk, bulkW]
 | .lit (.float .f32 _) => by simp [Rows.uptoBulk, bulkW]
 | .lit (.float .f64 _) => by simp [Rows.uptoBulk, bulkW]
 | .lit .nil => by simp [Rows.uptoBulk, bulkW]
 | .nil => by simp [Rows.uptoBulk, bulkW]
 | .ptr d => by simp [Rows.uptoBulk, bulkW, bulk1 d]
 | .slice elems spare => by simp [Rows.uptoBulk, bulkW, bulk2 elems, bulk2 spare]
 | .agg parts => by simp [Rows.uptoBulk, bulkW, bulk2 parts]
 | .iface _ d => by simp [Rows.uptoBulk, bulkW, bulk1 d]
 | .map entries => by simp [Rows.uptoBulk, bulkW, bulk3 entries]
 | .held _ => by simp [Rows.uptoBulk, bulkW]
theorem bulk2 {H : Type} : ∀ l : List (DataW H), Rows.uptoBulkAll l = bulkWs l
 | [] => by simp [Rows.uptoBulkAll, bulkWs]
 | d :: r => by simp [Rows.uptoBulkAll, bulkWs, bulk1 d, bulk2 r]
theorem bulk3 {H : Type} : ∀ l : List (Lit × DataW H), Rows.uptoBulkEntries l = bulkWe l
 | [] => by simp [Rows.uptoBulkEntries, bulkWe]
 | x :: r => by simp [Rows.uptoBulkEntries, bulkWe, bulk4 x, bulk3 r]
theorem bulk4 {H : Type} : ∀ x : Lit × DataW H, Rows.uptoBulkEntry x = bulkWx x
 | (.string bytes, d) => by simp [Rows.uptoBulkEntry, bulkWx, bulk1 d]
 | (.bool _, d) => by simp [Rows.uptoBulkEntry, bulkWx, bulk1 d]
 | (.int _ _, d) => by simp [Rows.uptoBulkEntry, bulkWx, bulk1 d]
 | (.float .f32 _, d) => by simp [Rows.uptoBulkEntry, bulkWx, bulk1 d]
 | (.float .f64 _, d) => by simp [Rows.uptoBulkEntry, bulkWx, bulk1 d]
 | (.nil, d) => by simp [Rows.uptoBulkEntry, bulkWx, bulk1 d]
end
end Go.Proofs.YtcagmechagiclaaGreatDoor
