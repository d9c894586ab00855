/- The statement of FnStmtParts. -/
import Derived.Test.YtcfkipkafnlliaaRows
import Derived.Test.YtcfkipkafnlliaaCStmtParts2
import Derived.Test.YtcfkipkafnlliaaLStmtParts0
import Derived.ProofKit
namespace Go.Proofs.Ytcfkipkafnlliaa
open Go Go.ChangeShapes Go.WideShapes Go.ChangeAt Go.RowKit Go.Ab
theorem own_fnStmtParts : ownKnob Try.prog.godebug = none := by kernel_rfl
theorem plain_fnStmtParts : plainB Try.prog [5, 22] = true := by kernel_rfl
theorem params_fnStmtParts : Try.f4.params.toList = [22] := by kernel_rfl
set_option maxRecDepth 100000 in
theorem fnStmtParts_lifted (os : Os) (started : os.Started) (H : Type) (enc : TypeId × Value → H) :
    ReturnsInHanded {} Try.checked os 4 .any (Rows.fnStmtPartsSpec.pre6 enc Try.prog Try.f4 Rows.fnStmtPartsRow.domain false) (Rows.fnStmtPartsSpec.post enc Try.prog Try.f4 false true false false) := by
  refine returnsInHanded_of_change (C := Try.checked) own_fnStmtParts started (by kernel_rfl) Try.func4
    (ChangeSpec.witness6 (enc := enc) (C := Try.checked) false ⟨#[], #[.slice none 0 0], []⟩ 8 (by kernel_rfl) (by kernel_rfl) (by kernel_rfl) (by kernel_rfl)) ?_
  intro W base args ds gs before hval hW _ _
  refine law_contract plain_fnStmtParts (plain_pos plain_fnStmtParts) (all_in (by rw [params_fnStmtParts]; kernel_rfl)) (tb := 4) (by kernel_rfl) (by kernel_rfl) rfl ?_ ?_ W base args ds gs before hval hW
  · intro ds hl
    rw [params_fnStmtParts] at hl
    match ds, hl with
    | [d0], _ => exact ⟨rfl, rfl, rfl⟩
  · rw [params_fnStmtParts]
    exact fun ls h1 h2 => law_wFnStmtParts fnStmtParts_true ls h1 h2
theorem fnStmtParts_holds : Rows.FnStmtPartsSaid :=
  OpenClaim.holds_of_wide 4 Try.f4 rfl rfl rfl rfl rfl rfl rfl ⟨rfl, rfl, rfl, rfl, rfl⟩ rfl rfl rfl rfl rfl (by kernel_rfl) Try.func4 (by kernel_rfl)
    (of_decide_eq_true (by kernel_rfl)) (by unfold Func.isWrapper; rw [if_neg (by decide +kernel)]; exact ⟨rfl, rfl⟩)
    (fun os started H enc _ => fnStmtParts_lifted os started H enc)
end Go.Proofs.Ytcfkipkafnlliaa
