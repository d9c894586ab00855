/- The statement of FnExactPutPExpr. -/
import Derived.Test.YtkdkhdefdfkagaaRows
import Derived.Test.YtkdkhdefdfkagaaCExactPutPExpr1
import Derived.Test.YtkdkhdefdfkagaaLExactPutPExpr0
import Derived.ProofKit
namespace Go.Proofs.Ytkdkhdefdfkagaa
open Go Go.ChangeShapes Go.WideShapes Go.ChangeAt Go.RowKit Go.Ab
theorem own_fnExactPutPExpr : ownKnob Try.prog.godebug = none := by kernel_rfl
theorem plain_fnExactPutPExpr : plainB Try.prog [3, 4, 9, 23, 24, 25, 27, 38, 39, 40, 41, 43, 97] = true := by kernel_rfl
theorem params_fnExactPutPExpr : Try.f3.params.toList = [27] := by kernel_rfl
set_option maxRecDepth 100000 in
theorem fnExactPutPExpr_lifted (os : Os) (started : os.Started) (H : Type) (enc : TypeId × Value → H) :
    ReturnsInHanded {} Try.checked os 3 .any (Rows.fnExactPutPExprSpec.pre6 enc Try.prog Try.f3 Rows.fnExactPutPExprRow.domain false) (Rows.fnExactPutPExprSpec.post enc Try.prog Try.f3 false true false false) := by
  refine returnsInHanded_of_change (C := Try.checked) own_fnExactPutPExpr started (by kernel_rfl) Try.func3
    (ChangeSpec.witness6 (enc := enc) (C := Try.checked) false ⟨#[], #[.agg #[.int .i64 0, .int .i64 0, .bool false, .int .i64 0, .int .i64 0, .string ⟨#[]⟩, .int .i64 0, .int .i64 0, .slice none 0 0, .slice none 0 0]], []⟩ 8 (by kernel_rfl) (by kernel_rfl) (by kernel_rfl) (by kernel_rfl)) ?_
  intro W base args ds gs before hval hW _ _
  refine law_contract plain_fnExactPutPExpr (plain_pos plain_fnExactPutPExpr) (all_in (by rw [params_fnExactPutPExpr]; kernel_rfl)) (tb := 4) (by kernel_rfl) (by kernel_rfl) rfl ?_ ?_ W base args ds gs before hval hW
  · intro ds hl
    rw [params_fnExactPutPExpr] at hl
    match ds, hl with
    | [d0], _ => exact ⟨rfl, rfl, rfl⟩
  · rw [params_fnExactPutPExpr]
    exact fun ls h1 h2 => law_wFnExactPutPExpr fnExactPutPExpr_true ls h1 h2
theorem fnExactPutPExpr_holds : Rows.FnExactPutPExprSaid :=
  OpenClaim.holds_of_wide 3 Try.f3 rfl rfl rfl rfl rfl rfl rfl ⟨rfl, rfl, rfl, rfl, rfl⟩ rfl rfl rfl rfl rfl (by kernel_rfl) Try.func3 (by kernel_rfl)
    (of_decide_eq_true (by kernel_rfl)) (by unfold Func.isWrapper; rw [if_neg (by decide +kernel)]; exact ⟨rfl, rfl⟩)
    (fun os started H enc _ => fnExactPutPExpr_lifted os started H enc)
end Go.Proofs.Ytkdkhdefdfkagaa
