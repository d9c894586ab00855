/- The statement of FnExactQueryOk. -/
import Derived.Test.YtdiknmniclancaaRows
import Derived.Test.YtdiknmniclancaaCExactQueryOk2
import Derived.Test.YtdiknmniclancaaLExactQueryOk0
import Derived.ProofKit
namespace Go.Proofs.Ytdiknmniclancaa
open Go Go.ChangeShapes Go.WideShapes Go.ChangeAt Go.RowKit Go.Ab
theorem own_fnExactQueryOk : ownKnob Try.prog.godebug = none := by kernel_rfl
theorem plain_fnExactQueryOk : plainB Try.prog [3, 4, 9, 22, 23, 24, 25, 27, 40, 41, 43, 129, 132, 135] = true := by kernel_rfl
theorem params_fnExactQueryOk : Try.f10.params.toList = [27] := by kernel_rfl
set_option maxRecDepth 100000 in
theorem fnExactQueryOk_lifted (os : Os) (started : os.Started) (H : Type) (enc : TypeId × Value → H) :
    ReturnsInHanded {} Try.checked os 10 .any (Rows.fnExactQueryOkSpec.pre6 enc Try.prog Try.f10 Rows.fnExactQueryOkRow.domain false) (Rows.fnExactQueryOkSpec.post enc Try.prog Try.f10 false true false false) := by
  refine returnsInHanded_of_change (C := Try.checked) own_fnExactQueryOk started (by kernel_rfl) Try.func10
    (ChangeSpec.witness6 (enc := enc) (C := Try.checked) false ⟨#[], #[.agg #[.bool false, .slice none 0 0, .slice none 0 0, .slice none 0 0, .slice none 0 0, .int .i64 0]], []⟩ 8 (by kernel_rfl) (by kernel_rfl) (by kernel_rfl) (by kernel_rfl)) ?_
  intro W base args ds gs before hval hW _ _
  refine law_contract plain_fnExactQueryOk (plain_pos plain_fnExactQueryOk) (all_in (by rw [params_fnExactQueryOk]; kernel_rfl)) (tb := 4) (by kernel_rfl) (by kernel_rfl) rfl ?_ ?_ W base args ds gs before hval hW
  · intro ds hl
    rw [params_fnExactQueryOk] at hl
    match ds, hl with
    | [d0], _ => exact ⟨rfl, rfl, rfl⟩
  · rw [params_fnExactQueryOk]
    exact fun ls h1 h2 => law_wFnExactQueryOk fnExactQueryOk_true ls h1 h2
theorem fnExactQueryOk_holds : Rows.FnExactQueryOkSaid :=
  OpenClaim.holds_of_wide 10 Try.f10 rfl rfl rfl rfl rfl rfl rfl ⟨rfl, rfl, rfl, rfl, rfl⟩ rfl rfl rfl rfl rfl (by kernel_rfl) Try.func10 (by kernel_rfl)
    (of_decide_eq_true (by kernel_rfl)) (by unfold Func.isWrapper; rw [if_neg (by decide +kernel)]; exact ⟨rfl, rfl⟩)
    (fun os started H enc _ => fnExactQueryOk_lifted os started H enc)
end Go.Proofs.Ytdiknmniclancaa
