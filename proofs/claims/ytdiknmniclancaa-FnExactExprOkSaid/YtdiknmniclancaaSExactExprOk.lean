/- The statement of FnExactExprOk. -/
import Derived.Test.YtdiknmniclancaaRows
import Derived.Test.YtdiknmniclancaaCExactExprOk2
import Derived.Test.YtdiknmniclancaaLExactExprOk0
import Derived.ProofKit
namespace Go.Proofs.Ytdiknmniclancaa
open Go Go.ChangeShapes Go.WideShapes Go.ChangeAt Go.RowKit Go.Ab
theorem own_fnExactExprOk : ownKnob Try.prog.godebug = none := by kernel_rfl
theorem plain_fnExactExprOk : plainB Try.prog [3, 4, 9, 22, 23, 24, 25, 27, 40, 41, 43, 129, 132, 135] = true := by kernel_rfl
theorem params_fnExactExprOk : Try.f9.params.toList = [43] := by kernel_rfl
set_option maxRecDepth 100000 in
theorem fnExactExprOk_lifted (os : Os) (started : os.Started) (H : Type) (enc : TypeId × Value → H) :
    ReturnsInHanded {} Try.checked os 9 .any (Rows.fnExactExprOkSpec.pre6 enc Try.prog Try.f9 Rows.fnExactExprOkRow.domain false) (Rows.fnExactExprOkSpec.post enc Try.prog Try.f9 false true false false) := by
  refine returnsInHanded_of_change (C := Try.checked) own_fnExactExprOk started (by kernel_rfl) Try.func9
    (ChangeSpec.witness6 (enc := enc) (C := Try.checked) false ⟨#[], #[.agg #[.int .i64 0, .int .i64 0, .bool false, .int .i64 0, .int .i64 0, .string ⟨#[]⟩, .string ⟨#[]⟩, .string ⟨#[]⟩, .slice none 0 0, .slice none 0 0]], []⟩ 8 (by kernel_rfl) (by kernel_rfl) (by kernel_rfl) (by kernel_rfl)) ?_
  intro W base args ds gs before hval hW _ _
  refine law_contract plain_fnExactExprOk (plain_pos plain_fnExactExprOk) (all_in (by rw [params_fnExactExprOk]; kernel_rfl)) (tb := 4) (by kernel_rfl) (by kernel_rfl) rfl ?_ ?_ W base args ds gs before hval hW
  · intro ds hl
    rw [params_fnExactExprOk] at hl
    match ds, hl with
    | [d0], _ => exact ⟨rfl, rfl, rfl⟩
  · rw [params_fnExactExprOk]
    exact fun ls h1 h2 => law_wFnExactExprOk fnExactExprOk_true ls h1 h2
theorem fnExactExprOk_holds : Rows.FnExactExprOkSaid :=
  OpenClaim.holds_of_wide 9 Try.f9 rfl rfl rfl rfl rfl rfl rfl ⟨rfl, rfl, rfl, rfl, rfl⟩ rfl rfl rfl rfl rfl (by kernel_rfl) Try.func9 (by kernel_rfl)
    (of_decide_eq_true (by kernel_rfl)) (by unfold Func.isWrapper; rw [if_neg (by decide +kernel)]; exact ⟨rfl, rfl⟩)
    (fun os started H enc _ => fnExactExprOk_lifted os started H enc)
end Go.Proofs.Ytdiknmniclancaa
