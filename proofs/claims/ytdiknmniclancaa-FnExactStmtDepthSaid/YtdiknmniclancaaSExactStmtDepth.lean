/- The statement of FnExactStmtDepth. -/
import Derived.Test.YtdiknmniclancaaRows
import Derived.Test.YtdiknmniclancaaCExactStmtDepth1
import Derived.Test.YtdiknmniclancaaLExactStmtDepth0
import Derived.ProofKit
namespace Go.Proofs.Ytdiknmniclancaa
open Go Go.ChangeShapes Go.WideShapes Go.ChangeAt Go.RowKit Go.Ab
theorem own_fnExactStmtDepth : ownKnob Try.prog.godebug = none := by kernel_rfl
theorem plain_fnExactStmtDepth : plainB Try.prog [3, 4, 9, 22, 23, 24, 25, 27, 40, 41, 43, 58, 59, 61, 129, 132, 135] = true := by kernel_rfl
theorem params_fnExactStmtDepth : Try.f8.params.toList = [61] := by kernel_rfl
set_option maxRecDepth 100000 in
theorem fnExactStmtDepth_lifted (os : Os) (started : os.Started) (H : Type) (enc : TypeId × Value → H) :
    ReturnsInHanded {} Try.checked os 8 .any (Rows.fnExactStmtDepthSpec.pre6 enc Try.prog Try.f8 Rows.fnExactStmtDepthRow.domain false) (Rows.fnExactStmtDepthSpec.post enc Try.prog Try.f8 false true false false) := by
  refine returnsInHanded_of_change (C := Try.checked) own_fnExactStmtDepth started (by kernel_rfl) Try.func8
    (ChangeSpec.witness6 (enc := enc) (C := Try.checked) false ⟨#[], #[.agg #[.int .i64 0, .bool false, .slice none 0 0, .slice none 0 0, .slice none 0 0, .slice none 0 0, .int .i64 0, .string ⟨#[]⟩, .slice none 0 0, .slice none 0 0, .slice none 0 0, .slice none 0 0]], []⟩ 8 (by kernel_rfl) (by kernel_rfl) (by kernel_rfl) (by kernel_rfl)) ?_
  intro W base args ds gs before hval hW _ _
  refine law_contract plain_fnExactStmtDepth (plain_pos plain_fnExactStmtDepth) (all_in (by rw [params_fnExactStmtDepth]; kernel_rfl)) (tb := 4) (by kernel_rfl) (by kernel_rfl) rfl ?_ ?_ W base args ds gs before hval hW
  · intro ds hl
    rw [params_fnExactStmtDepth] at hl
    match ds, hl with
    | [d0], _ => exact ⟨rfl, rfl, rfl⟩
  · rw [params_fnExactStmtDepth]
    exact fun ls h1 h2 => law_wFnExactStmtDepth fnExactStmtDepth_true ls h1 h2
theorem fnExactStmtDepth_holds : Rows.FnExactStmtDepthSaid :=
  OpenClaim.holds_of_wide 8 Try.f8 rfl rfl rfl rfl rfl rfl rfl ⟨rfl, rfl, rfl, rfl, rfl⟩ rfl rfl rfl rfl rfl (by kernel_rfl) Try.func8 (by kernel_rfl)
    (of_decide_eq_true (by kernel_rfl)) (by unfold Func.isWrapper; rw [if_neg (by decide +kernel)]; exact ⟨rfl, rfl⟩)
    (fun os started H enc _ => fnExactStmtDepth_lifted os started H enc)
end Go.Proofs.Ytdiknmniclancaa
