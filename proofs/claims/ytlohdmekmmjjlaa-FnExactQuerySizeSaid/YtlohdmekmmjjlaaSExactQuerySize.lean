/- The statement of FnExactQuerySize. -/
import Derived.Test.YtlohdmekmmjjlaaRows
import Derived.Test.YtlohdmekmmjjlaaCExactQuerySize3
import Derived.Test.YtlohdmekmmjjlaaLExactQuerySize0
import Derived.ProofKit
namespace Go.Proofs.Ytlohdmekmmjjlaa
open Go Go.ChangeShapes Go.WideShapes Go.ChangeAt Go.RowKit Go.Ab
theorem own_fnExactQuerySize : ownKnob Try.prog.godebug = none := by kernel_rfl
theorem plain_fnExactQuerySize : plainB Try.prog [3, 4, 9, 39, 82, 83, 84, 85, 87, 92, 94, 204, 207, 210] = true := by kernel_rfl
theorem params_fnExactQuerySize : Try.f9.params.toList = [87] := by kernel_rfl
set_option maxRecDepth 100000 in
theorem fnExactQuerySize_lifted (os : Os) (started : os.Started) (H : Type) (enc : TypeId × Value → H) :
    ReturnsInHanded {} Try.checked os 9 .any (Rows.fnExactQuerySizeSpec.pre6 enc Try.prog Try.f9 Rows.fnExactQuerySizeRow.domain false) (Rows.fnExactQuerySizeSpec.post enc Try.prog Try.f9 false true false false) := by
  refine returnsInHanded_of_change (C := Try.checked) own_fnExactQuerySize started (by kernel_rfl) Try.func9
    (ChangeSpec.witness6 (enc := enc) (C := Try.checked) false ⟨#[], #[.agg #[.bool false, .slice none 0 0, .slice none 0 0, .slice none 0 0, .slice none 0 0, .int .i64 0]], []⟩ 8 (by kernel_rfl) (by kernel_rfl) (by kernel_rfl) (by kernel_rfl)) ?_
  intro W base args ds gs before hval hW _ _
  refine law_contract plain_fnExactQuerySize (plain_pos plain_fnExactQuerySize) (all_in (by rw [params_fnExactQuerySize]; kernel_rfl)) (tb := 4) (by kernel_rfl) (by kernel_rfl) rfl ?_ ?_ W base args ds gs before hval hW
  · intro ds hl
    rw [params_fnExactQuerySize] at hl
    match ds, hl with
    | [d0], _ => exact ⟨rfl, rfl, rfl⟩
  · rw [params_fnExactQuerySize]
    exact fun ls h1 h2 => law_wFnExactQuerySize fnExactQuerySize_true ls h1 h2
theorem fnExactQuerySize_holds : Rows.FnExactQuerySizeSaid :=
  OpenClaim.holds_of_wide 9 Try.f9 rfl rfl rfl rfl rfl rfl rfl ⟨rfl, rfl, rfl, rfl, rfl⟩ rfl rfl rfl rfl rfl (by kernel_rfl) Try.func9 (by kernel_rfl)
    (of_decide_eq_true (by kernel_rfl)) (by unfold Func.isWrapper; rw [if_neg (by decide +kernel)]; exact ⟨rfl, rfl⟩)
    (fun os started H enc _ => fnExactQuerySize_lifted os started H enc)
end Go.Proofs.Ytlohdmekmmjjlaa
