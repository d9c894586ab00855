/- The statement of FnExactWraps. -/
import Derived.Test.YtdiknmniclancaaRows
import Derived.Test.YtdiknmniclancaaCExactWraps3
import Derived.Test.YtdiknmniclancaaLExactWraps0
import Derived.ProofKit
namespace Go.Proofs.Ytdiknmniclancaa
open Go Go.ChangeShapes Go.WideShapes Go.ChangeAt Go.RowKit Go.Ab
theorem own_fnExactWraps : ownKnob Try.prog.godebug = none := by kernel_rfl
theorem plain_fnExactWraps : plainB Try.prog [3, 4, 9, 22, 23, 24, 25, 27, 40, 41, 43, 129, 132, 135] = true := by kernel_rfl
theorem params_fnExactWraps : Try.f4.params.toList = [43] := by kernel_rfl
set_option maxRecDepth 100000 in
theorem fnExactWraps_lifted (os : Os) (started : os.Started) (H : Type) (enc : TypeId × Value → H) :
    ReturnsInHanded {} Try.checked os 4 .any (Rows.fnExactWrapsSpec.pre6 enc Try.prog Try.f4 Rows.fnExactWrapsRow.domain false) (Rows.fnExactWrapsSpec.post enc Try.prog Try.f4 false true false false) := by
  refine returnsInHanded_of_change (C := Try.checked) own_fnExactWraps started (by kernel_rfl) Try.func4
    (ChangeSpec.witness6 (enc := enc) (C := Try.checked) false ⟨#[], #[.agg #[.int .i64 0, .int .i64 0, .bool false, .int .i64 0, .int .i64 0, .string ⟨#[]⟩, .string ⟨#[]⟩, .string ⟨#[]⟩, .slice none 0 0, .slice none 0 0]], []⟩ 8 (by kernel_rfl) (by kernel_rfl) (by kernel_rfl) (by kernel_rfl)) ?_
  intro W base args ds gs before hval hW _ _
  refine law_contract plain_fnExactWraps (plain_pos plain_fnExactWraps) (all_in (by rw [params_fnExactWraps]; kernel_rfl)) (tb := 4) (by kernel_rfl) (by kernel_rfl) rfl ?_ ?_ W base args ds gs before hval hW
  · intro ds hl
    rw [params_fnExactWraps] at hl
    match ds, hl with
    | [d0], _ => exact ⟨rfl, rfl, rfl⟩
  · rw [params_fnExactWraps]
    exact fun ls h1 h2 => law_wFnExactWraps fnExactWraps_true ls h1 h2
theorem fnExactWraps_holds : Rows.FnExactWrapsSaid :=
  OpenClaim.holds_of_wide 4 Try.f4 rfl rfl rfl rfl rfl rfl rfl ⟨rfl, rfl, rfl, rfl, rfl⟩ rfl rfl rfl rfl rfl (by kernel_rfl) Try.func4 (by kernel_rfl)
    (of_decide_eq_true (by kernel_rfl)) (by unfold Func.isWrapper; rw [if_neg (by decide +kernel)]; exact ⟨rfl, rfl⟩)
    (fun os started H enc _ => fnExactWraps_lifted os started H enc)
end Go.Proofs.Ytdiknmniclancaa
