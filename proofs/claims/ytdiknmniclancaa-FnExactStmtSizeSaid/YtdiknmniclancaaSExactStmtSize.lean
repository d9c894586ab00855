/- The statement of FnExactStmtSize. -/
import Derived.Test.YtdiknmniclancaaRows
import Derived.Test.YtdiknmniclancaaCExactStmtSize1
import Derived.Test.YtdiknmniclancaaLExactStmtSize0
import Derived.ProofKit
namespace Go.Proofs.Ytdiknmniclancaa
open Go Go.ChangeShapes Go.WideShapes Go.ChangeAt Go.RowKit Go.Ab
theorem own_fnExactStmtSize : ownKnob Try.prog.godebug = none := by kernel_rfl
theorem plain_fnExactStmtSize : plainB Try.prog [3, 4, 9, 22, 23, 24, 25, 27, 40, 41, 43, 58, 59, 61, 129, 132, 135] = true := by kernel_rfl
theorem params_fnExactStmtSize : Try.f7.params.toList = [61] := by kernel_rfl
set_option maxRecDepth 100000 in
theorem fnExactStmtSize_lifted (os : Os) (started : os.Started) (H : Type) (enc : TypeId × Value → H) :
    ReturnsInHanded {} Try.checked os 7 .any (Rows.fnExactStmtSizeSpec.pre6 enc Try.prog Try.f7 Rows.fnExactStmtSizeRow.domain false) (Rows.fnExactStmtSizeSpec.post enc Try.prog Try.f7 false true false false) := by
  refine returnsInHanded_of_change (C := Try.checked) own_fnExactStmtSize started (by kernel_rfl) Try.func7
    (ChangeSpec.witness6 (enc := enc) (C := Try.checked) false ⟨#[], #[.agg #[.int .i64 0, .bool false, .slice none 0 0, .slice none 0 0, .slice none 0 0, .slice none 0 0, .int .i64 0, .string ⟨#[]⟩, .slice none 0 0, .slice none 0 0, .slice none 0 0, .slice none 0 0]], []⟩ 8 (by kernel_rfl) (by kernel_rfl) (by kernel_rfl) (by kernel_rfl)) ?_
  intro W base args ds gs before hval hW _ _
  refine law_contract plain_fnExactStmtSize (plain_pos plain_fnExactStmtSize) (all_in (by rw [params_fnExactStmtSize]; kernel_rfl)) (tb := 4) (by kernel_rfl) (by kernel_rfl) rfl ?_ ?_ W base args ds gs before hval hW
  · intro ds hl
    rw [params_fnExactStmtSize] at hl
    match ds, hl with
    | [d0], _ => exact ⟨rfl, rfl, rfl⟩
  · rw [params_fnExactStmtSize]
    exact fun ls h1 h2 => law_wFnExactStmtSize fnExactStmtSize_true ls h1 h2
theorem fnExactStmtSize_holds : Rows.FnExactStmtSizeSaid :=
  OpenClaim.holds_of_wide 7 Try.f7 rfl rfl rfl rfl rfl rfl rfl ⟨rfl, rfl, rfl, rfl, rfl⟩ rfl rfl rfl rfl rfl (by kernel_rfl) Try.func7 (by kernel_rfl)
    (of_decide_eq_true (by kernel_rfl)) (by unfold Func.isWrapper; rw [if_neg (by decide +kernel)]; exact ⟨rfl, rfl⟩)
    (fun os started H enc _ => fnExactStmtSize_lifted os started H enc)
end Go.Proofs.Ytdiknmniclancaa
