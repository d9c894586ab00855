/- The statement of FnExactGetPlan. -/
import Derived.Test.YthlahiakloldbaaRows
import Derived.Test.YthlahiakloldbaaCExactGetPlan2
import Derived.Test.YthlahiakloldbaaLExactGetPlan0
import Derived.ProofKit
namespace Go.Proofs.Ythlahiakloldbaa
open Go Go.ChangeShapes Go.WideShapes Go.ChangeAt Go.RowKit Go.Ab
theorem aTz:ownKnob Try.prog.godebug=none:=by kernel_rfl
theorem aJg:tJ Try.prog [3,9]=true:=by kernel_rfl
theorem aDh:Try.f6.params.toList=[9,3]:=by kernel_rfl
set_option maxRecDepth 100000 in
theorem aRr (os : Os) (started : os.Started) (H : Type) (enc : TypeId × Value → H) :
    ReturnsInHanded {} Try.checked os 6 .any (Rows.fnExactGetPlanSpec.pre6 enc Try.prog Try.f6 Rows.fnExactGetPlanRow.domain false) (Rows.fnExactGetPlanSpec.post enc Try.prog Try.f6 false true false false):=by
  refine returnsInHanded_of_change (C:=Try.checked) aTz started (by kernel_rfl) Try.func6
    (ChangeSpec.witness6 (enc:=enc) (C:=Try.checked) false ⟨#[],#[.string ⟨#[]⟩,.int .i64 0],[]⟩ 8 (by kernel_rfl) (by kernel_rfl) (by kernel_rfl) (by kernel_rfl)) ?_
  intro W base args ds gs before hval hW _ _
  refine aU7 aJg (aTb aJg) (all_in (by rw [aDh]; kernel_rfl)) (tb:=4) (by kernel_rfl) (by kernel_rfl) rfl ?_ ?_ W base args ds gs before hval hW
  · intro ds hl
    rw [aDh] at hl
    match ds,hl with
    | [d0,d1],_=>exact ⟨rfl,rfl,rfl⟩
  · rw [aDh]
    exact fun ls h1 h2=>aRn aMk ls h1 h2
theorem fnExactGetPlan_holds:Rows.FnExactGetPlanSaid :=
  OpenClaim.holds_of_wide 6 Try.f6 rfl rfl rfl rfl rfl rfl rfl ⟨rfl,rfl,rfl,rfl,rfl⟩ rfl rfl rfl rfl rfl (by kernel_rfl) Try.func6 (by kernel_rfl)
    (of_decide_eq_true (by kernel_rfl)) (by unfold Func.isWrapper; rw [if_neg (by decide +kernel)]; exact ⟨rfl,rfl⟩)
    (fun os started H enc _=>aRr os started H enc)
end Go.Proofs.Ythlahiakloldbaa
