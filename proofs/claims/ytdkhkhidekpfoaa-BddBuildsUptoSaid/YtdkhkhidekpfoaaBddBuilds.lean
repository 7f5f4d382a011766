/- BddBuilds returns true for every input. No condition. -/
import Derived.Test.YtdkhkhidekpfoaaQq
import Derived.Test.YtdkhkhidekpfoaaRows
import Derived.ProofKit
import Derived.OpenShut
import Derived.JoinedCond
set_option maxHeartbeats 8000000
set_option linter.unusedSimpArgs false
set_option linter.unusedVariables false
set_option maxRecDepth 20000
namespace Go.Proofs.Ytdkhkhidekpfoaa
open Go Go.TL Go.ChangeShapes Go.WideShapes Go.RowKit Go.ChangeAt

theorem bddBuilds_holds_args {H:Type} (ds:List (DataW H)) (h:ds.length=Try.f3.params.toList.length):Rows.bddBuildsSpec.fn H ds={ results:=[.lit (.bool true)],args:=ds }:=by
  have h:ds.length=2:=h
  match ds,h with
  | [d0,d1],_=>rfl
theorem bddBuilds_holds_true (ds:List D) (h:pI Try.prog Try.f3.params.toList ds) (hb:D.bulks ds≤1048576):Ret Try.prog 3 [] (λ_=>false) (ds.map .d) (.d (.bool true)) []:=by
  have h:pI Try.prog [24,3] ds:=h
  match ds,h with
  | [_,_],⟨⟨c0,_,t0,rfl⟩,⟨⟨c1,_,t1,rfl⟩,_⟩⟩=>
      obtain⟨x0,w0,e0⟩:=ty24 c0 t0
      obtain⟨x1,w1,e1⟩:=ty3 c1 t1
      simp only [e0,e1,Expr.encR_eq] at hb ⊢
      exact lE (vQ w0 w1 hb)
theorem bddBuilds_holds:Rows.BddBuildsUptoSaid:=
  OpenClaim.holds_of_cond 3 Try.f3 rfl rfl rfl rfl rfl rfl rfl ⟨rfl, rfl, rfl, rfl, rfl⟩ rfl rfl rfl rfl rfl (by kernel_rfl) Try.func3 (by kernel_rfl)
    (of_decide_eq_true (by kernel_rfl)) (by unfold Func.isWrapper;first|(rw [if_pos (by decide+kernel)];kernel_rfl)|(rw [if_neg (by decide+kernel)];exact⟨rfl,rfl⟩))
    (fun os started H enc _ F' => tF 1048576 [24, 3, 22] (s := Rows.bddBuildsSpec) (so := Rows.OpenSpec.upto Rows.bddBuildsSpec) (k := Rows.uptoSmall) rfl (fun ds h => uK h) (fun h => h) rfl rfl (C := Try.checked) os own started qBL (by kernel_rfl) Try.func3
      (OpenSpec.witness (enc := enc) (C := Try.checked) (s := Rows.OpenSpec.upto Rows.bddBuildsSpec) (k := Rows.uptoSmall) rfl false ⟨#[], #[Go.Value.agg #[Go.Value.int Go.IntKind.i64 0, Go.Value.int Go.IntKind.i64 0, Go.Value.slice Option.none 0 0], Go.Value.int Go.IntKind.i64 0], []⟩ 8 (by kernel_rfl) (by kernel_rfl) (by kernel_rfl) (x := ([.agg [.lit (.int .i64 0), .lit (.int .i64 0), .nil], .lit (.int .i64 0)], [], [])) (by kernel_rfl) rfl (by kernel_rfl)) (by kernel_rfl) rfl bddBuilds_holds_args bddBuilds_holds_true)

end Go.Proofs.Ytdkhkhidekpfoaa
