/- The statement of FnExactDepthOf. -/
import Derived.Test.YtlohdmekmmjjlaaRows
import Derived.Test.YtlohdmekmmjjlaaCExactDepthOf3
import Derived.Test.YtlohdmekmmjjlaaLExactDepthOf0
import Derived.ProofKit
namespace Go.Proofs.Ytlohdmekmmjjlaa
open Go Go.ChangeShapes Go.WideShapes Go.ChangeAt Go.RowKit Go.Ab
theorem own_fnExactDepthOf : ownKnob Try.prog.godebug = none := by kernel_rfl
theorem plain_fnExactDepthOf : plainB Try.prog [3, 4, 9, 39, 82, 83, 84, 85, 87, 92, 94, 204, 207, 210] = true := by kernel_rfl
theorem params_fnExactDepthOf : Try.f13.params.toList = [94] := by kernel_rfl
set_option maxRecDepth 100000 in
theorem fnExactDepthOf_lifted (os : Os) (started : os.Started) (H : Type) (enc : TypeId × Value → H) :
    ReturnsInHanded {} Try.checked os 13 .any (Rows.fnExactDepthOfSpec.pre6 enc Try.prog Try.f13 Rows.fnExactDepthOfRow.domain false) (Rows.fnExactDepthOfSpec.post enc Try.prog Try.f13 false true false false) := by
  refine returnsInHanded_of_change (C := Try.checked) own_fnExactDepthOf started (by kernel_rfl) Try.func13
    (ChangeSpec.witness6 (enc := enc) (C := Try.checked) false ⟨#[], #[.agg #[.int .i64 0, .int .i64 0, .bool false, .int .i64 0, .int .i64 0, .string ⟨#[]⟩, .string ⟨#[]⟩, .string ⟨#[]⟩, .slice none 0 0, .slice none 0 0]], []⟩ 8 (by kernel_rfl) (by kernel_rfl) (by kernel_rfl) (by kernel_rfl)) ?_
  intro W base args ds gs before hval hW _ _
  refine law_contract plain_fnExactDepthOf (plain_pos plain_fnExactDepthOf) (all_in (by rw [params_fnExactDepthOf]; kernel_rfl)) (tb := 4) (by kernel_rfl) (by kernel_rfl) rfl ?_ ?_ W base args ds gs before hval hW
  · intro ds hl
    rw [params_fnExactDepthOf] at hl
    match ds, hl with
    | [d0], _ => exact ⟨rfl, rfl, rfl⟩
  · rw [params_fnExactDepthOf]
    exact fun ls h1 h2 => law_wFnExactDepthOf fnExactDepthOf_true ls h1 h2
theorem fnExactDepthOf_holds : Rows.FnExactDepthOfSaid :=
  OpenClaim.holds_of_wide 13 Try.f13 rfl rfl rfl rfl rfl rfl rfl ⟨rfl, rfl, rfl, rfl, rfl⟩ rfl rfl rfl rfl rfl (by kernel_rfl) Try.func13 (by kernel_rfl)
    (of_decide_eq_true (by kernel_rfl)) (by unfold Func.isWrapper; rw [if_neg (by decide +kernel)]; exact ⟨rfl, rfl⟩)
    (fun os started H enc _ => fnExactDepthOf_lifted os started H enc)
end Go.Proofs.Ytlohdmekmmjjlaa
