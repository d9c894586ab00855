/- The statement of FnExactWrapsIn. -/
import Derived.Test.YtdiknmniclancaaRows
import Derived.Test.YtdiknmniclancaaCExactWrapsIn3
import Derived.Test.YtdiknmniclancaaLExactWrapsIn0
import Derived.ProofKit
namespace Go.Proofs.Ytdiknmniclancaa
open Go Go.ChangeShapes Go.WideShapes Go.ChangeAt Go.RowKit Go.Ab
theorem own_fnExactWrapsIn : ownKnob Try.prog.godebug = none := by kernel_rfl
theorem plain_fnExactWrapsIn : plainB Try.prog [3, 4, 9, 22, 23, 24, 25, 27, 40, 41, 43, 129, 132, 135] = true := by kernel_rfl
theorem params_fnExactWrapsIn : Try.f5.params.toList = [27] := by kernel_rfl
set_option maxRecDepth 100000 in
theorem fnExactWrapsIn_lifted (os : Os) (started : os.Started) (H : Type) (enc : TypeId × Value → H) :
    ReturnsInHanded {} Try.checked os 5 .any (Rows.fnExactWrapsInSpec.pre6 enc Try.prog Try.f5 Rows.fnExactWrapsInRow.domain false) (Rows.fnExactWrapsInSpec.post enc Try.prog Try.f5 false true false false) := by
  refine returnsInHanded_of_change (C := Try.checked) own_fnExactWrapsIn started (by kernel_rfl) Try.func5
    (ChangeSpec.witness6 (enc := enc) (C := Try.checked) false ⟨#[], #[.agg #[.bool false, .slice none 0 0, .slice none 0 0, .slice none 0 0, .slice none 0 0, .int .i64 0]], []⟩ 8 (by kernel_rfl) (by kernel_rfl) (by kernel_rfl) (by kernel_rfl)) ?_
  intro W base args ds gs before hval hW _ _
  refine law_contract plain_fnExactWrapsIn (plain_pos plain_fnExactWrapsIn) (all_in (by rw [params_fnExactWrapsIn]; kernel_rfl)) (tb := 4) (by kernel_rfl) (by kernel_rfl) rfl ?_ ?_ W base args ds gs before hval hW
  · intro ds hl
    rw [params_fnExactWrapsIn] at hl
    match ds, hl with
    | [d0], _ => exact ⟨rfl, rfl, rfl⟩
  · rw [params_fnExactWrapsIn]
    exact fun ls h1 h2 => law_wFnExactWrapsIn fnExactWrapsIn_true ls h1 h2
theorem fnExactWrapsIn_holds : Rows.FnExactWrapsInSaid :=
  OpenClaim.holds_of_wide 5 Try.f5 rfl rfl rfl rfl rfl rfl rfl ⟨rfl, rfl, rfl, rfl, rfl⟩ rfl rfl rfl rfl rfl (by kernel_rfl) Try.func5 (by kernel_rfl)
    (of_decide_eq_true (by kernel_rfl)) (by unfold Func.isWrapper; rw [if_neg (by decide +kernel)]; exact ⟨rfl, rfl⟩)
    (fun os started H enc _ => fnExactWrapsIn_lifted os started H enc)
end Go.Proofs.Ytdiknmniclancaa
