/- The statement of FnExactWithin. -/
import Derived.Test.YtlohdmekmmjjlaaRows
import Derived.Test.YtlohdmekmmjjlaaCExactWithin2
import Derived.Test.YtlohdmekmmjjlaaLExactWithin0
import Derived.ProofKit
namespace Go.Proofs.Ytlohdmekmmjjlaa
open Go Go.ChangeShapes Go.WideShapes Go.ChangeAt Go.RowKit Go.Ab
theorem own_fnExactWithin : ownKnob Try.prog.godebug = none := by kernel_rfl
theorem plain_fnExactWithin : plainB Try.prog [3, 9, 39, 51] = true := by kernel_rfl
theorem params_fnExactWithin : Try.f6.params.toList = [39, 51] := by kernel_rfl
set_option maxRecDepth 100000 in
theorem fnExactWithin_lifted (os : Os) (started : os.Started) (H : Type) (enc : TypeId × Value → H) :
    ReturnsInHanded {} Try.checked os 6 .any (Rows.fnExactWithinSpec.pre6 enc Try.prog Try.f6 Rows.fnExactWithinRow.domain false) (Rows.fnExactWithinSpec.post enc Try.prog Try.f6 false true false false) := by
  refine returnsInHanded_of_change (C := Try.checked) own_fnExactWithin started (by kernel_rfl) Try.func6
    (ChangeSpec.witness6 (enc := enc) (C := Try.checked) false ⟨#[], #[.agg #[.int .i64 0, .int .i64 0, .string ⟨#[]⟩], .slice none 0 0], []⟩ 8 (by kernel_rfl) (by kernel_rfl) (by kernel_rfl) (by kernel_rfl)) ?_
  intro W base args ds gs before hval hW _ _
  refine law_contract plain_fnExactWithin (plain_pos plain_fnExactWithin) (all_in (by rw [params_fnExactWithin]; kernel_rfl)) (tb := 4) (by kernel_rfl) (by kernel_rfl) rfl ?_ ?_ W base args ds gs before hval hW
  · intro ds hl
    rw [params_fnExactWithin] at hl
    match ds, hl with
    | [d0, d1], _ => exact ⟨rfl, rfl, rfl⟩
  · rw [params_fnExactWithin]
    exact fun ls h1 h2 => law_wFnExactWithin fnExactWithin_true ls h1 h2
theorem fnExactWithin_holds : Rows.FnExactWithinSaid :=
  OpenClaim.holds_of_wide 6 Try.f6 rfl rfl rfl rfl rfl rfl rfl ⟨rfl, rfl, rfl, rfl, rfl⟩ rfl rfl rfl rfl rfl (by kernel_rfl) Try.func6 (by kernel_rfl)
    (of_decide_eq_true (by kernel_rfl)) (by unfold Func.isWrapper; rw [if_neg (by decide +kernel)]; exact ⟨rfl, rfl⟩)
    (fun os started H enc _ => fnExactWithin_lifted os started H enc)
end Go.Proofs.Ytlohdmekmmjjlaa
