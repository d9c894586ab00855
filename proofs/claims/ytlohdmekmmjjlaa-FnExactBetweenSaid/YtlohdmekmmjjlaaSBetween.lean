/- The statement of FnExactBetween. -/
import Derived.Test.YtlohdmekmmjjlaaRows
import Derived.Test.YtlohdmekmmjjlaaCeB2
import Derived.Test.YtlohdmekmmjjlaaLBetween
import Derived.ProofKit
namespace Go.Proofs.Ytlohdmekmmjjlaa
open Go Go.ChangeShapes Go.WideShapes Go.ChangeAt Go.RowKit Go.Ab
theorem own_fnExactBetween : ownKnob Try.prog.godebug = none := by kernel_rfl
theorem plain_fnExactBetween : plainB Try.prog [3, 9, 39] = true := by kernel_rfl
theorem params_fnExactBetween : Try.f4.params.toList = [39, 39, 39] := by kernel_rfl
set_option maxRecDepth 100000 in
theorem fnExactBetween_lifted (os : Os) (started : os.Started) (H : Type) (enc : TypeId × Value → H) :
    ReturnsInHanded {} Try.checked os 4 .any (Rows.fnExactBetweenSpec.pre6 enc Try.prog Try.f4 Rows.fnExactBetweenRow.domain false) (Rows.fnExactBetweenSpec.post enc Try.prog Try.f4 false true false false) := by
  refine returnsInHanded_of_change (C := Try.checked) own_fnExactBetween started (by kernel_rfl) Try.func4
    (ChangeSpec.witness6 (enc := enc) (C := Try.checked) false ⟨#[], #[.agg #[.int .i64 0, .int .i64 0, .string ⟨#[]⟩], .agg #[.int .i64 0, .int .i64 0, .string ⟨#[]⟩], .agg #[.int .i64 0, .int .i64 0, .string ⟨#[]⟩]], []⟩ 8 (by kernel_rfl) (by kernel_rfl) (by kernel_rfl) (by kernel_rfl)) ?_
  intro W base args ds gs before hval hW _ _
  refine law_contract plain_fnExactBetween (plain_pos plain_fnExactBetween) (all_in (by rw [params_fnExactBetween]; kernel_rfl)) (tb := 4) (by kernel_rfl) (by kernel_rfl) rfl ?_ ?_ W base args ds gs before hval hW
  · intro ds hl
    rw [params_fnExactBetween] at hl
    match ds, hl with
    | [d0, d1, d2], _ => exact ⟨rfl, rfl, rfl⟩
  · rw [params_fnExactBetween]
    exact fun ls h1 h2 => law_wFnExactBetween (fun x0 _ x1 _ x2 _ => fnExactBetween_true x0 x1 x2) ls h1 h2
theorem fnExactBetween_holds : Rows.FnExactBetweenSaid :=
  OpenClaim.holds_of_wide 4 Try.f4 rfl rfl rfl rfl rfl rfl rfl ⟨rfl, rfl, rfl, rfl, rfl⟩ rfl rfl rfl rfl rfl (by kernel_rfl) Try.func4 (by kernel_rfl)
    (of_decide_eq_true (by kernel_rfl)) (by unfold Func.isWrapper; rw [if_neg (by decide +kernel)]; exact ⟨rfl, rfl⟩)
    (fun os started H enc _ => fnExactBetween_lifted os started H enc)
end Go.Proofs.Ytlohdmekmmjjlaa
