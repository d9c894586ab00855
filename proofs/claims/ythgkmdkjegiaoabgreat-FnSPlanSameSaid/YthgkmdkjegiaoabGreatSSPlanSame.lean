/- The statement of FnSPlanSame. -/
import Derived.Test.YthgkmdkjegiaoabGreatRows
import Derived.Test.YthgkmdkjegiaoabGreatCSPlanSame2
import Derived.Test.YthgkmdkjegiaoabGreatLSPlanSame0
import Derived.ProofKit
namespace Go.Proofs.YthgkmdkjegiaoabGreat
open Go Go.ChangeShapes Go.WideShapes Go.ChangeAt Go.RowKit Go.Ab
theorem bYo:ownKnob Tryz.prog.godebug=none:=by kernel_rfl
theorem aXe:M0 Tryz.prog [5,22]=true:=by kernel_rfl
theorem aOz:Tryz.f3.params.toList=[22]:=by kernel_rfl
set_option maxRecDepth 100000 in
theorem bNj (os : Os) (started : os.Started) (H : Type) (enc : TypeId × Value → H) :
    ReturnsInHanded {} Tryz.checked os 3 .any (Rows.fnSPlanSameSpec.pre6 enc Tryz.prog Tryz.f3 Rows.fnSPlanSameRow.domain false) (Rows.fnSPlanSameSpec.post enc Tryz.prog Tryz.f3 false true false false):=by
  refine returnsInHanded_of_change (C:=Tryz.checked) bYo started (by kernel_rfl) Tryz.func3
    (ChangeSpec.witness6 (enc:=enc) (C:=Tryz.checked) false ⟨#[],#[.slice none 0 0],[]⟩ 8 (by kernel_rfl) (by kernel_rfl) (by kernel_rfl) (by kernel_rfl)) ?_
  intro W base args ds gs before hval hW _ _
  refine bQy aXe (bQ3 aXe) (all_in (by rw [aOz]; kernel_rfl)) (tb:=4) (by kernel_rfl) (by kernel_rfl) rfl ?_ ?_ W base args ds gs before hval hW
  · intro ds hl
    rw [aOz] at hl
    match ds,hl with
    | [d0],_=>exact ⟨rfl,rfl,rfl⟩
  · rw [aOz]
    exact fun ls h1 h2=>cBw cFd ls h1 h2
theorem fnSPlanSame_holds:Rows.FnSPlanSameSaid :=
  OpenClaim.holds_of_wide 3 Tryz.f3 rfl rfl rfl rfl rfl rfl rfl ⟨rfl,rfl,rfl,rfl,rfl⟩ rfl rfl rfl rfl rfl (by kernel_rfl) Tryz.func3 (by kernel_rfl)
    (of_decide_eq_true (by kernel_rfl)) (by unfold Func.isWrapper; rw [if_neg (by decide +kernel)]; exact ⟨rfl,rfl⟩)
    (fun os started H enc _=>bNj os started H enc)
end Go.Proofs.YthgkmdkjegiaoabGreat
