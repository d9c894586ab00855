/- The statement of FnWithin. -/
import Derived.Test.YtlohdmekmmjjlaaRows
import Derived.Test.YtlohdmekmmjjlaaCWithin3
import Derived.Test.YtlohdmekmmjjlaaLWithin0
import Derived.ProofKit
namespace Go.Proofs.Ytlohdmekmmjjlaa
open Go Go.ChangeShapes Go.WideShapes Go.ChangeAt Go.RowKit Go.Ab
theorem own_fnWithin : ownKnob Try.prog.godebug = none := by kernel_rfl
theorem plain_fnWithin : plainB Try.prog [5, 22] = true := by kernel_rfl
theorem params_fnWithin : Try.f11.params.toList = [22] := by kernel_rfl
set_option maxRecDepth 100000 in
theorem fnWithin_lifted (os : Os) (started : os.Started) (H : Type) (enc : TypeId × Value → H) :
    ReturnsInHanded {} Try.checked os 11 .any (Rows.fnWithinSpec.pre6 enc Try.prog Try.f11 Rows.fnWithinRow.domain false) (Rows.fnWithinSpec.post enc Try.prog Try.f11 false true false false) := by
  refine returnsInHanded_of_change (C := Try.checked) own_fnWithin started (by kernel_rfl) Try.func11
    (ChangeSpec.witness6 (enc := enc) (C := Try.checked) false ⟨#[], #[.slice none 0 0], []⟩ 8 (by kernel_rfl) (by kernel_rfl) (by kernel_rfl) (by kernel_rfl)) ?_
  intro W base args ds gs before hval hW _ _
  refine law_contract plain_fnWithin (plain_pos plain_fnWithin) (all_in (by rw [params_fnWithin]; kernel_rfl)) (tb := 4) (by kernel_rfl) (by kernel_rfl) rfl ?_ ?_ W base args ds gs before hval hW
  · intro ds hl
    rw [params_fnWithin] at hl
    match ds, hl with
    | [d0], _ => exact ⟨rfl, rfl, rfl⟩
  · rw [params_fnWithin]
    exact fun ls h1 h2 => law_wFnWithin fnWithin_true ls h1 h2
theorem fnWithin_holds : Rows.FnWithinSaid :=
  OpenClaim.holds_of_wide 11 Try.f11 rfl rfl rfl rfl rfl rfl rfl ⟨rfl, rfl, rfl, rfl, rfl⟩ rfl rfl rfl rfl rfl (by kernel_rfl) Try.func11 (by kernel_rfl)
    (of_decide_eq_true (by kernel_rfl)) (by unfold Func.isWrapper; rw [if_neg (by decide +kernel)]; exact ⟨rfl, rfl⟩)
    (fun os started H enc _ => fnWithin_lifted os started H enc)
end Go.Proofs.Ytlohdmekmmjjlaa
