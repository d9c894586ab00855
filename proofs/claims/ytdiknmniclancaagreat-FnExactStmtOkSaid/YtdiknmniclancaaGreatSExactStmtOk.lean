/- The statement of FnExactStmtOk. -/
import Derived.Test.YtdiknmniclancaaGreatRows
import Derived.Test.YtdiknmniclancaaGreatCExactStmtOk3
import Derived.Test.YtdiknmniclancaaGreatLExactStmtOk0
import Derived.ProofKit
namespace Go.Proofs.YtdiknmniclancaaGreat
open Go Go.ChangeShapes Go.WideShapes Go.ChangeAt Go.RowKit Go.Ab
theorem own_fnExactStmtOk : ownKnob Tryz.prog.godebug = none := by kernel_rfl
theorem plain_fnExactStmtOk : plainB Tryz.prog [3, 4, 9, 22, 23, 24, 25, 27, 28, 29, 31, 71, 72, 74, 110, 113, 116] = true := by kernel_rfl
theorem params_fnExactStmtOk : Tryz.f3.params.toList = [31] := by kernel_rfl
set_option maxRecDepth 100000 in
theorem fnExactStmtOk_lifted (os : Os) (started : os.Started) (H : Type) (enc : TypeId × Value → H) :
    ReturnsInHanded {} Tryz.checked os 3 .any (Rows.fnExactStmtOkSpec.pre6 enc Tryz.prog Tryz.f3 Rows.fnExactStmtOkRow.domain false) (Rows.fnExactStmtOkSpec.post enc Tryz.prog Tryz.f3 false true false false) := by
  refine returnsInHanded_of_change (C := Tryz.checked) own_fnExactStmtOk started (by kernel_rfl) Tryz.func3
    (ChangeSpec.witness6 (enc := enc) (C := Tryz.checked) false ⟨#[], #[.agg #[.int .i64 0, .bool false, .slice none 0 0, .slice none 0 0, .slice none 0 0, .slice none 0 0, .int .i64 0, .string ⟨#[]⟩, .slice none 0 0, .slice none 0 0, .slice none 0 0, .slice none 0 0]], []⟩ 8 (by kernel_rfl) (by kernel_rfl) (by kernel_rfl) (by kernel_rfl)) ?_
  intro W base args ds gs before hval hW _ _
  refine law_contract plain_fnExactStmtOk (plain_pos plain_fnExactStmtOk) (all_in (by rw [params_fnExactStmtOk]; kernel_rfl)) (tb := 4) (by kernel_rfl) (by kernel_rfl) rfl ?_ ?_ W base args ds gs before hval hW
  · intro ds hl
    rw [params_fnExactStmtOk] at hl
    match ds, hl with
    | [d0], _ => exact ⟨rfl, rfl, rfl⟩
  · rw [params_fnExactStmtOk]
    exact fun ls h1 h2 => law_wFnExactStmtOk fnExactStmtOk_true ls h1 h2
theorem fnExactStmtOk_holds : Rows.FnExactStmtOkSaid :=
  OpenClaim.holds_of_wide 3 Tryz.f3 rfl rfl rfl rfl rfl rfl rfl ⟨rfl, rfl, rfl, rfl, rfl⟩ rfl rfl rfl rfl rfl (by kernel_rfl) Tryz.func3 (by kernel_rfl)
    (of_decide_eq_true (by kernel_rfl)) (by unfold Func.isWrapper; rw [if_neg (by decide +kernel)]; exact ⟨rfl, rfl⟩)
    (fun os started H enc _ => fnExactStmtOk_lifted os started H enc)
end Go.Proofs.YtdiknmniclancaaGreat
