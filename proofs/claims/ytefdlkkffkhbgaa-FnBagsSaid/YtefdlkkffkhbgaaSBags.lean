/- The statement of FnBags. -/
import Derived.Test.YtefdlkkffkhbgaaRows
import Derived.Test.YtefdlkkffkhbgaaCBags0
import Derived.Test.YtefdlkkffkhbgaaLBags0
import Derived.ProofKit
namespace Go.Proofs.Ytefdlkkffkhbgaa
open Go Go.ChangeShapes Go.WideShapes Go.ChangeAt Go.RowKit Go.Ab
theorem own_fnBags : ownKnob Try.prog.godebug = none := by kernel_rfl
theorem plain_fnBags : plainB Try.prog [5, 22] = true := by kernel_rfl
theorem params_fnBags : Try.f3.params.toList = [22] := by kernel_rfl
set_option maxRecDepth 100000 in
theorem fnBags_lifted (os : Os) (started : os.Started) (H : Type) (enc : TypeId × Value → H) :
    ReturnsInHanded {} Try.checked os 3 .any (Rows.fnBagsSpec.pre6 enc Try.prog Try.f3 Rows.fnBagsRow.domain false) (Rows.fnBagsSpec.post enc Try.prog Try.f3 false true false false) := by
  refine returnsInHanded_of_change (C := Try.checked) own_fnBags started (by kernel_rfl) Try.func3
    (ChangeSpec.witness6 (enc := enc) (C := Try.checked) false ⟨#[], #[.slice none 0 0], []⟩ 8 (by kernel_rfl) (by kernel_rfl) (by kernel_rfl) (by kernel_rfl)) ?_
  intro W base args ds gs before hval hW _ _
  refine law_contract plain_fnBags (plain_pos plain_fnBags) (all_in (by rw [params_fnBags]; kernel_rfl)) (tb := 4) (by kernel_rfl) (by kernel_rfl) rfl ?_ ?_ W base args ds gs before hval hW
  · intro ds hl
    rw [params_fnBags] at hl
    match ds, hl with
    | [d0], _ => exact ⟨rfl, rfl, rfl⟩
  · rw [params_fnBags]
    exact fun ls h1 h2 => law_wFnBags fnBags_true ls h1 h2
theorem fnBags_holds : Rows.FnBagsSaid :=
  OpenClaim.holds_of_wide 3 Try.f3 rfl rfl rfl rfl rfl rfl rfl ⟨rfl, rfl, rfl, rfl, rfl⟩ rfl rfl rfl rfl rfl (by kernel_rfl) Try.func3 (by kernel_rfl)
    (of_decide_eq_true (by kernel_rfl)) (by unfold Func.isWrapper; rw [if_neg (by decide +kernel)]; exact ⟨rfl, rfl⟩)
    (fun os started H enc _ => fnBags_lifted os started H enc)
end Go.Proofs.Ytefdlkkffkhbgaa
