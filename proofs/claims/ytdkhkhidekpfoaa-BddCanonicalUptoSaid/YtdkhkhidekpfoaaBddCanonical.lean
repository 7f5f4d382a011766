/- BddCanonical returns true for every input. No condition. -/
import Derived.Test.YtdkhkhidekpfoaaQq
import Derived.Test.YtdkhkhidekpfoaaRows
import Derived.ProofKit
import Derived.OpenShut
import Derived.JoinedCond
set_option maxHeartbeats 8000000
set_option linter.unusedSimpArgs false
set_option linter.unusedVariables false
set_option maxRecDepth 20000
namespace Go.Proofs.Ytdkhkhidekpfoaa
open Go Go.TL Go.ChangeShapes Go.WideShapes Go.RowKit Go.ChangeAt

theorem bddCanonical_holds_args {H:Type} (ds:List (DataW H)) (h:ds.length=Try.f6.params.toList.length):Rows.bddCanonicalSpec.fn H ds={ results:=[.lit (.bool true)],args:=ds }:=by
  have h:ds.length=2:=h
  match ds,h with
  | [d0,d1],_=>rfl
theorem bddCanonical_holds_true (ds:List D) (h:qH Try.prog Try.f6.params.toList ds) (hb:D.bulks ds≤1048576):Ret Try.prog 6 [] (λ_=>false) (ds.map .d) (.d (.bool true)) []:=by
  have h:qH Try.prog [24,24] ds:=h
  match ds,h with
  | [_,_],⟨⟨c0,_,t0,rfl⟩,⟨⟨c1,_,t1,rfl⟩,_⟩⟩=>
      obtain⟨x0,w0,e0⟩:=ty24 c0 t0
      obtain⟨x1,w1,e1⟩:=ty24 c1 t1
      simp only [e0,e1,Expr.encR_eq,Expr.encR_eq] at hb ⊢
      exact iY (qS w0 w1 hb)
theorem bddCanonical_holds:Rows.BddCanonicalUptoSaid:=
  OpenClaim.holds_of_cond 6 Try.f6 rfl rfl rfl rfl rfl rfl rfl ⟨rfl, rfl, rfl, rfl, rfl⟩ rfl rfl rfl rfl rfl (by kernel_rfl) Try.func6 (by kernel_rfl)
    (of_decide_eq_true (by kernel_rfl)) (by unfold Func.isWrapper;first|(rw [if_pos (by decide+kernel)];kernel_rfl)|(rw [if_neg (by decide+kernel)];exact⟨rfl,rfl⟩))
    (fun os started H enc _ F' => tX 1048576 [24, 3, 22] (s := Rows.bddCanonicalSpec) (so := Rows.OpenSpec.upto Rows.bddCanonicalSpec) (k := Rows.uptoSmall) rfl (fun ds h => vD h) (fun h => h) rfl rfl (C := Try.checked) os own started qCG (by kernel_rfl) Try.func6
      (OpenSpec.witness (enc := enc) (C := Try.checked) (s := Rows.OpenSpec.upto Rows.bddCanonicalSpec) (k := Rows.uptoSmall) rfl false ⟨#[], #[Go.Value.agg #[Go.Value.int Go.IntKind.i64 0, Go.Value.int Go.IntKind.i64 0, Go.Value.slice Option.none 0 0], Go.Value.agg #[Go.Value.int Go.IntKind.i64 0, Go.Value.int Go.IntKind.i64 0, Go.Value.slice Option.none 0 0]], []⟩ 8 (by kernel_rfl) (by kernel_rfl) (by kernel_rfl) (x := ([.agg [.lit (.int .i64 0), .lit (.int .i64 0), .nil], .agg [.lit (.int .i64 0), .lit (.int .i64 0), .nil]], [], [])) (by kernel_rfl) rfl (by kernel_rfl)) (by kernel_rfl) rfl bddCanonical_holds_args bddCanonical_holds_true)

end Go.Proofs.Ytdkhkhidekpfoaa
