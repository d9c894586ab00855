/- The statement of FnCodeBack. -/
import Derived.Test.YtphefknfgclofaaRows
import Derived.Test.YtphefknfgclofaaCCodeBack3
import Derived.Test.YtphefknfgclofaaLCodeBack0
import Derived.ProofKit
namespace Go.Proofs.Ytphefknfgclofaa
open Go Go.ChangeShapes Go.WideShapes Go.ChangeAt Go.RowKit Go.Ab
theorem aUo:ownKnob Try.prog.godebug=none:=by kernel_rfl
theorem aMg:xU Try.prog [5,22]=true:=by kernel_rfl
theorem aJ2:Try.f4.params.toList=[22]:=by kernel_rfl
set_option maxRecDepth 100000 in
theorem aVk (os : Os) (started : os.Started) (H : Type) (enc : TypeId × Value → H) :
    ReturnsInHanded {} Try.checked os 4 .any (Rows.fnCodeBackSpec.pre6 enc Try.prog Try.f4 Rows.fnCodeBackRow.domain false) (Rows.fnCodeBackSpec.post enc Try.prog Try.f4 false true false false):=by
  refine returnsInHanded_of_change (C:=Try.checked) aUo started (by kernel_rfl) Try.func4
    (ChangeSpec.witness6 (enc:=enc) (C:=Try.checked) false ⟨#[],#[.slice none 0 0],[]⟩ 8 (by kernel_rfl) (by kernel_rfl) (by kernel_rfl) (by kernel_rfl)) ?_
  intro W base args ds gs before hval hW _ _
  refine aSi aMg (aZ6 aMg) (all_in (by rw [aJ2]; kernel_rfl)) (tb:=4) (by kernel_rfl) (by kernel_rfl) rfl ?_ ?_ W base args ds gs before hval hW
  · intro ds hl
    rw [aJ2] at hl
    match ds,hl with
    | [d0],_=>exact ⟨rfl,rfl,rfl⟩
  · rw [aJ2]
    exact fun ls h1 h2=>aXk aUu ls h1 h2
theorem fnCodeBack_holds:Rows.FnCodeBackSaid :=
  OpenClaim.holds_of_wide 4 Try.f4 rfl rfl rfl rfl rfl rfl rfl ⟨rfl,rfl,rfl,rfl,rfl⟩ rfl rfl rfl rfl rfl (by kernel_rfl) Try.func4 (by kernel_rfl)
    (of_decide_eq_true (by kernel_rfl)) (by unfold Func.isWrapper; rw [if_neg (by decide +kernel)]; exact ⟨rfl,rfl⟩)
    (fun os started H enc _=>aVk os started H enc)
end Go.Proofs.Ytphefknfgclofaa
