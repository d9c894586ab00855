/- The statement of FnExactSizeOf. -/
import Derived.Test.YtlohdmekmmjjlaaRows
import Derived.Test.YtlohdmekmmjjlaaCExactSizeOf3
import Derived.Test.YtlohdmekmmjjlaaLExactSizeOf0
import Derived.ProofKit
namespace Go.Proofs.Ytlohdmekmmjjlaa
open Go Go.ChangeShapes Go.WideShapes Go.ChangeAt Go.RowKit Go.Ab
theorem own_fnExactSizeOf : ownKnob Try.prog.godebug = none := by kernel_rfl
theorem plain_fnExactSizeOf : plainB Try.prog [3, 4, 9, 39, 82, 83, 84, 85, 87, 92, 94, 204, 207, 210] = true := by kernel_rfl
theorem params_fnExactSizeOf : Try.f10.params.toList = [94] := by kernel_rfl
set_option maxRecDepth 100000 in
theorem fnExactSizeOf_lifted (os : Os) (started : os.Started) (H : Type) (enc : TypeId × Value → H) :
    ReturnsInHanded {} Try.checked os 10 .any (Rows.fnExactSizeOfSpec.pre6 enc Try.prog Try.f10 Rows.fnExactSizeOfRow.domain false) (Rows.fnExactSizeOfSpec.post enc Try.prog Try.f10 false true false false) := by
  refine returnsInHanded_of_change (C := Try.checked) own_fnExactSizeOf started (by kernel_rfl) Try.func10
    (ChangeSpec.witness6 (enc := enc) (C := Try.checked) false ⟨#[], #[.agg #[.int .i64 0, .int .i64 0, .bool false, .int .i64 0, .int .i64 0, .string ⟨#[]⟩, .string ⟨#[]⟩, .string ⟨#[]⟩, .slice none 0 0, .slice none 0 0]], []⟩ 8 (by kernel_rfl) (by kernel_rfl) (by kernel_rfl) (by kernel_rfl)) ?_
  intro W base args ds gs before hval hW _ _
  refine law_contract plain_fnExactSizeOf (plain_pos plain_fnExactSizeOf) (all_in (by rw [params_fnExactSizeOf]; kernel_rfl)) (tb := 4) (by kernel_rfl) (by kernel_rfl) rfl ?_ ?_ W base args ds gs before hval hW
  · intro ds hl
    rw [params_fnExactSizeOf] at hl
    match ds, hl with
    | [d0], _ => exact ⟨rfl, rfl, rfl⟩
  · rw [params_fnExactSizeOf]
    exact fun ls h1 h2 => law_wFnExactSizeOf fnExactSizeOf_true ls h1 h2
theorem fnExactSizeOf_holds : Rows.FnExactSizeOfSaid :=
  OpenClaim.holds_of_wide 10 Try.f10 rfl rfl rfl rfl rfl rfl rfl ⟨rfl, rfl, rfl, rfl, rfl⟩ rfl rfl rfl rfl rfl (by kernel_rfl) Try.func10 (by kernel_rfl)
    (of_decide_eq_true (by kernel_rfl)) (by unfold Func.isWrapper; rw [if_neg (by decide +kernel)]; exact ⟨rfl, rfl⟩)
    (fun os started H enc _ => fnExactSizeOf_lifted os started H enc)
end Go.Proofs.Ytlohdmekmmjjlaa
