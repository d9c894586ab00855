/- The statement of FnRunTypes. -/
import Derived.Test.YthcemdafchcehaaGreatRows
import Derived.Test.YthcemdafchcehaaGreatCRunTypes1
import Derived.Test.YthcemdafchcehaaGreatLRunTypes1
import Derived.ProofKit
namespace Go.Proofs.YthcemdafchcehaaGreat
open Go Go.ChangeShapes Go.WideShapes Go.ChangeAt Go.RowKit Go.Ab
theorem bK5:ownKnob Tryz.prog.godebug=none:=by kernel_rfl
theorem bJn:aD3 Tryz.prog [5,22]=true:=by kernel_rfl
theorem aRe:Tryz.f3.params.toList=[22]:=by kernel_rfl
set_option maxRecDepth 100000 in
theorem bQ1 (os : Os) (started : os.Started) (H : Type) (enc : TypeId × Value → H) :
    ReturnsInHanded {} Tryz.checked os 3 .any (Rows.fnRunTypesSpec.pre6 enc Tryz.prog Tryz.f3 Rows.fnRunTypesRow.domain false) (Rows.fnRunTypesSpec.post enc Tryz.prog Tryz.f3 false true false false):=by
  refine returnsInHanded_of_change (C:=Tryz.checked) bK5 started (by kernel_rfl) Tryz.func3
    (ChangeSpec.witness6 (enc:=enc) (C:=Tryz.checked) false ⟨#[],#[.slice none 0 0],[]⟩ 8 (by kernel_rfl) (by kernel_rfl) (by kernel_rfl) (by kernel_rfl)) ?_
  intro W base args ds gs before hval hW _ _
  refine cA8 bJn (cEl bJn) (all_in (by rw [aRe]; kernel_rfl)) (tb:=4) (by kernel_rfl) (by kernel_rfl) rfl ?_ ?_ W base args ds gs before hval hW
  · intro ds hl
    rw [aRe] at hl
    match ds,hl with
    | [d0],_=>exact ⟨rfl,rfl,rfl⟩
  · rw [aRe]
    exact fun ls h1 h2=>cEa bLj ls h1 h2
theorem fnRunTypes_holds:Rows.FnRunTypesSaid :=
  OpenClaim.holds_of_wide 3 Tryz.f3 rfl rfl rfl rfl rfl rfl rfl ⟨rfl,rfl,rfl,rfl,rfl⟩ rfl rfl rfl rfl rfl (by kernel_rfl) Tryz.func3 (by kernel_rfl)
    (of_decide_eq_true (by kernel_rfl)) (by unfold Func.isWrapper; rw [if_neg (by decide +kernel)]; exact ⟨rfl,rfl⟩)
    (fun os started H enc _=>bQ1 os started H enc)
end Go.Proofs.YthcemdafchcehaaGreat
