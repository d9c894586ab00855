/- The statement of FnExactPutPlan. -/
import Derived.Test.YtkdkhdefdfkagaaRows
import Derived.Test.YtkdkhdefdfkagaaCExactPutPlan1
import Derived.Test.YtkdkhdefdfkagaaLExactPutPlan0
import Derived.ProofKit
namespace Go.Proofs.Ytkdkhdefdfkagaa
open Go Go.ChangeShapes Go.WideShapes Go.ChangeAt Go.RowKit Go.Ab
theorem own_fnExactPutPlan : ownKnob Try.prog.godebug = none := by kernel_rfl
theorem plain_fnExactPutPlan : plainB Try.prog [3, 4, 9, 23, 24, 25, 27, 38, 39, 40, 41, 43, 97] = true := by kernel_rfl
theorem params_fnExactPutPlan : Try.f4.params.toList = [43] := by kernel_rfl
set_option maxRecDepth 100000 in
theorem fnExactPutPlan_lifted (os : Os) (started : os.Started) (H : Type) (enc : TypeId × Value → H) :
    ReturnsInHanded {} Try.checked os 4 .any (Rows.fnExactPutPlanSpec.pre6 enc Try.prog Try.f4 Rows.fnExactPutPlanRow.domain false) (Rows.fnExactPutPlanSpec.post enc Try.prog Try.f4 false true false false) := by
  refine returnsInHanded_of_change (C := Try.checked) own_fnExactPutPlan started (by kernel_rfl) Try.func4
    (ChangeSpec.witness6 (enc := enc) (C := Try.checked) false ⟨#[], #[.agg #[.slice none 0 0, .slice none 0 0, .slice none 0 0, .slice none 0 0, .slice none 0 0, .slice none 0 0, .bool false, .int .i64 0]], []⟩ 8 (by kernel_rfl) (by kernel_rfl) (by kernel_rfl) (by kernel_rfl)) ?_
  intro W base args ds gs before hval hW _ _
  refine law_contract plain_fnExactPutPlan (plain_pos plain_fnExactPutPlan) (all_in (by rw [params_fnExactPutPlan]; kernel_rfl)) (tb := 4) (by kernel_rfl) (by kernel_rfl) rfl ?_ ?_ W base args ds gs before hval hW
  · intro ds hl
    rw [params_fnExactPutPlan] at hl
    match ds, hl with
    | [d0], _ => exact ⟨rfl, rfl, rfl⟩
  · rw [params_fnExactPutPlan]
    exact fun ls h1 h2 => law_wFnExactPutPlan fnExactPutPlan_true ls h1 h2
theorem fnExactPutPlan_holds : Rows.FnExactPutPlanSaid :=
  OpenClaim.holds_of_wide 4 Try.f4 rfl rfl rfl rfl rfl rfl rfl ⟨rfl, rfl, rfl, rfl, rfl⟩ rfl rfl rfl rfl rfl (by kernel_rfl) Try.func4 (by kernel_rfl)
    (of_decide_eq_true (by kernel_rfl)) (by unfold Func.isWrapper; rw [if_neg (by decide +kernel)]; exact ⟨rfl, rfl⟩)
    (fun os started H enc _ => fnExactPutPlan_lifted os started H enc)
end Go.Proofs.Ytkdkhdefdfkagaa
