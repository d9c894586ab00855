/- The statement of FnExactDbOk. -/
import Derived.Test.YtlohdmekmmjjlaaRows
import Derived.Test.YtlohdmekmmjjlaaCExactDbOk2
import Derived.Test.YtlohdmekmmjjlaaLExactDbOk0
import Derived.ProofKit
namespace Go.Proofs.Ytlohdmekmmjjlaa
open Go Go.ChangeShapes Go.WideShapes Go.ChangeAt Go.RowKit Go.Ab
theorem own_fnExactDbOk : ownKnob Try.prog.godebug = none := by kernel_rfl
theorem plain_fnExactDbOk : plainB Try.prog [3, 9, 39, 51, 62, 64, 65, 67, 183, 185, 187, 189, 240] = true := by kernel_rfl
theorem params_fnExactDbOk : Try.f8.params.toList = [64, 67] := by kernel_rfl
set_option maxRecDepth 100000 in
theorem fnExactDbOk_lifted (os : Os) (started : os.Started) (H : Type) (enc : TypeId × Value → H) :
    ReturnsInHanded {} Try.checked os 8 .any (Rows.fnExactDbOkSpec.pre6 enc Try.prog Try.f8 Rows.fnExactDbOkRow.domain false) (Rows.fnExactDbOkSpec.post enc Try.prog Try.f8 false true false false) := by
  refine returnsInHanded_of_change (C := Try.checked) own_fnExactDbOk started (by kernel_rfl) Try.func8
    (ChangeSpec.witness6 (enc := enc) (C := Try.checked) false ⟨#[], #[.agg #[.slice none 0 0], .agg #[.slice none 0 0]], []⟩ 8 (by kernel_rfl) (by kernel_rfl) (by kernel_rfl) (by kernel_rfl)) ?_
  intro W base args ds gs before hval hW _ _
  refine law_contract plain_fnExactDbOk (plain_pos plain_fnExactDbOk) (all_in (by rw [params_fnExactDbOk]; kernel_rfl)) (tb := 4) (by kernel_rfl) (by kernel_rfl) rfl ?_ ?_ W base args ds gs before hval hW
  · intro ds hl
    rw [params_fnExactDbOk] at hl
    match ds, hl with
    | [d0, d1], _ => exact ⟨rfl, rfl, rfl⟩
  · rw [params_fnExactDbOk]
    exact fun ls h1 h2 => law_wFnExactDbOk fnExactDbOk_true ls h1 h2
theorem fnExactDbOk_holds : Rows.FnExactDbOkSaid :=
  OpenClaim.holds_of_wide 8 Try.f8 rfl rfl rfl rfl rfl rfl rfl ⟨rfl, rfl, rfl, rfl, rfl⟩ rfl rfl rfl rfl rfl (by kernel_rfl) Try.func8 (by kernel_rfl)
    (of_decide_eq_true (by kernel_rfl)) (by unfold Func.isWrapper; rw [if_neg (by decide +kernel)]; exact ⟨rfl, rfl⟩)
    (fun os started H enc _ => fnExactDbOk_lifted os started H enc)
end Go.Proofs.Ytlohdmekmmjjlaa
