/- The statement of FnBetween. -/
import Derived.Test.YtlohdmekmmjjlaaRows
import Derived.Test.YtlohdmekmmjjlaaCBetween3
import Derived.Test.YtlohdmekmmjjlaaLBetween0
import Derived.ProofKit
namespace Go.Proofs.Ytlohdmekmmjjlaa
open Go Go.ChangeShapes Go.WideShapes Go.ChangeAt Go.RowKit Go.Ab
theorem own_fnBetween : ownKnob Try.prog.godebug = none := by kernel_rfl
theorem plain_fnBetween : plainB Try.prog [5, 22] = true := by kernel_rfl
theorem params_fnBetween : Try.f7.params.toList = [22] := by kernel_rfl
set_option maxRecDepth 100000 in
theorem fnBetween_lifted (os : Os) (started : os.Started) (H : Type) (enc : TypeId × Value → H) :
    ReturnsInHanded {} Try.checked os 7 .any (Rows.fnBetweenSpec.pre6 enc Try.prog Try.f7 Rows.fnBetweenRow.domain false) (Rows.fnBetweenSpec.post enc Try.prog Try.f7 false true false false) := by
  refine returnsInHanded_of_change (C := Try.checked) own_fnBetween started (by kernel_rfl) Try.func7
    (ChangeSpec.witness6 (enc := enc) (C := Try.checked) false ⟨#[], #[.slice none 0 0], []⟩ 8 (by kernel_rfl) (by kernel_rfl) (by kernel_rfl) (by kernel_rfl)) ?_
  intro W base args ds gs before hval hW _ _
  refine law_contract plain_fnBetween (plain_pos plain_fnBetween) (all_in (by rw [params_fnBetween]; kernel_rfl)) (tb := 4) (by kernel_rfl) (by kernel_rfl) rfl ?_ ?_ W base args ds gs before hval hW
  · intro ds hl
    rw [params_fnBetween] at hl
    match ds, hl with
    | [d0], _ => exact ⟨rfl, rfl, rfl⟩
  · rw [params_fnBetween]
    exact fun ls h1 h2 => law_wFnBetween fnBetween_true ls h1 h2
theorem fnBetween_holds : Rows.FnBetweenSaid :=
  OpenClaim.holds_of_wide 7 Try.f7 rfl rfl rfl rfl rfl rfl rfl ⟨rfl, rfl, rfl, rfl, rfl⟩ rfl rfl rfl rfl rfl (by kernel_rfl) Try.func7 (by kernel_rfl)
    (of_decide_eq_true (by kernel_rfl)) (by unfold Func.isWrapper; rw [if_neg (by decide +kernel)]; exact ⟨rfl, rfl⟩)
    (fun os started H enc _ => fnBetween_lifted os started H enc)
end Go.Proofs.Ytlohdmekmmjjlaa
