/- The statement of FnRunLimit. -/
import Derived.Test.YthcemdafchcehacGreatRows
import Derived.Test.YthcemdafchcehacGreatCRunLimit1
import Derived.Test.YthcemdafchcehacGreatLRunLimit1
import Derived.ProofKit
namespace Go.Proofs.YthcemdafchcehacGreat
open Go Go.ChangeShapes Go.WideShapes Go.ChangeAt Go.RowKit Go.Ab
theorem bVg:ownKnob Tryz.prog.godebug=none:=by kernel_rfl
theorem bAy:aCw Tryz.prog [5,22]=true:=by kernel_rfl
theorem aXm:Tryz.f3.params.toList=[22]:=by kernel_rfl
set_option maxRecDepth 100000 in
theorem bZi (os : Os) (started : os.Started) (H : Type) (enc : TypeId × Value → H) :
    ReturnsInHanded {} Tryz.checked os 3 .any (Rows.fnRunLimitSpec.pre6 enc Tryz.prog Tryz.f3 Rows.fnRunLimitRow.domain false) (Rows.fnRunLimitSpec.post enc Tryz.prog Tryz.f3 false true false false):=by
  refine returnsInHanded_of_change (C:=Tryz.checked) bVg started (by kernel_rfl) Tryz.func3
    (ChangeSpec.witness6 (enc:=enc) (C:=Tryz.checked) false ⟨#[],#[.slice none 0 0],[]⟩ 8 (by kernel_rfl) (by kernel_rfl) (by kernel_rfl) (by kernel_rfl)) ?_
  intro W base args ds gs before hval hW _ _
  refine bZ7 bAy (bMi bAy) (all_in (by rw [aXm]; kernel_rfl)) (tb:=4) (by kernel_rfl) (by kernel_rfl) rfl ?_ ?_ W base args ds gs before hval hW
  · intro ds hl
    rw [aXm] at hl
    match ds,hl with
    | [d0],_=>exact ⟨rfl,rfl,rfl⟩
  · rw [aXm]
    exact fun ls h1 h2=>bTb bO6 ls h1 h2
theorem fnRunLimit_holds:Rows.FnRunLimitSaid :=
  OpenClaim.holds_of_wide 3 Tryz.f3 rfl rfl rfl rfl rfl rfl rfl ⟨rfl,rfl,rfl,rfl,rfl⟩ rfl rfl rfl rfl rfl (by kernel_rfl) Tryz.func3 (by kernel_rfl)
    (of_decide_eq_true (by kernel_rfl)) (by unfold Func.isWrapper; rw [if_neg (by decide +kernel)]; exact ⟨rfl,rfl⟩)
    (fun os started H enc _=>bZi os started H enc)
end Go.Proofs.YthcemdafchcehacGreat
