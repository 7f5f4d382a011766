/- BddCounts returns true for every input. No condition. -/
import Derived.Test.YtdkhkhidekpfoaaQr
import Derived.Test.YtdkhkhidekpfoaaRows
import Derived.ProofKit
import Derived.OpenShut
import Derived.JoinedCond
set_option maxHeartbeats 8000000
set_option linter.unusedSimpArgs false
set_option linter.unusedVariables false
set_option maxRecDepth 20000
namespace Go.Proofs.Ytdkhkhidekpfoaa
open Go Go.TL Go.ChangeShapes Go.WideShapes Go.RowKit Go.ChangeAt

theorem bddCounts_holds_args {H:Type} (ds:List (DataW H)) (h:ds.length=Try.f4.params.toList.length):Rows.bddCountsSpec.fn H ds={ results:=[.lit (.bool true)],args:=ds }:=by
  have h:ds.length=2:=h
  match ds,h with
  | [d0,d1],_=>rfl
theorem bddCounts_holds_true (ds:List D) (h:nZ Try.prog Try.f4.params.toList ds):Ret Try.prog 4 [] (λ_=>false) (ds.map .d) (.d (.bool true)) []:=by
  have h:nZ Try.prog [29,3] ds:=h
  match ds,h with
  | [_,_],⟨⟨c0,_,t0,rfl⟩,⟨⟨c1,_,t1,rfl⟩,_⟩⟩=>
      obtain⟨x0,w0,e0⟩:=ty29 c0 t0
      obtain⟨x1,w1,e1⟩:=ty3 c1 t1
      simp only [e0,e1]
      exact kE (tW w0 w1)
theorem bddCounts_holds:Rows.BddCountsSaid:=
  OpenClaim.holds_of_wide 4 Try.f4 rfl rfl rfl rfl rfl rfl rfl ⟨rfl, rfl, rfl, rfl, rfl⟩ rfl rfl rfl rfl rfl (by kernel_rfl) Try.func4 (by kernel_rfl)
    (of_decide_eq_true (by kernel_rfl)) (by unfold Func.isWrapper;first|(rw [if_pos (by decide+kernel)];kernel_rfl)|(rw [if_neg (by decide+kernel)];exact⟨rfl,rfl⟩))
    (fun os started H enc _ => tR [29, 27, 51, 3] (C := Try.checked) os own started zJ (by kernel_rfl) Try.func4
      (ChangeSpec.witness6 (enc := enc) (C := Try.checked) false ⟨#[], #[Go.Value.agg #[Go.Value.slice Option.none 0 0, Go.Value.int Go.IntKind.i64 0], Go.Value.int Go.IntKind.i64 0], []⟩ 8 (by kernel_rfl) (by kernel_rfl) (by kernel_rfl) (by kernel_rfl)) (by kernel_rfl) rfl bddCounts_holds_args bddCounts_holds_true)

end Go.Proofs.Ytdkhkhidekpfoaa
