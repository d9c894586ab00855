/- The statement of FnRunTrue. -/
import Derived.Test.YthcemdafchcehabGreatRows
import Derived.Test.YthcemdafchcehabGreatCRunTrue1
import Derived.Test.YthcemdafchcehabGreatLRunTrue1
import Derived.ProofKit
namespace Go.Proofs.YthcemdafchcehabGreat
open Go Go.ChangeShapes Go.WideShapes Go.ChangeAt Go.RowKit Go.Ab
theorem bK4:ownKnob Tryz.prog.godebug=none:=by kernel_rfl
theorem bE1:aCf Tryz.prog [5,22]=true:=by kernel_rfl
theorem aV2:Tryz.f3.params.toList=[22]:=by kernel_rfl
set_option maxRecDepth 100000 in
theorem cCw (os : Os) (started : os.Started) (H : Type) (enc : TypeId × Value → H) :
    ReturnsInHanded {} Tryz.checked os 3 .any (Rows.fnRunTrueSpec.pre6 enc Tryz.prog Tryz.f3 Rows.fnRunTrueRow.domain false) (Rows.fnRunTrueSpec.post enc Tryz.prog Tryz.f3 false true false false):=by
  refine returnsInHanded_of_change (C:=Tryz.checked) bK4 started (by kernel_rfl) Tryz.func3
    (ChangeSpec.witness6 (enc:=enc) (C:=Tryz.checked) false ⟨#[],#[.slice none 0 0],[]⟩ 8 (by kernel_rfl) (by kernel_rfl) (by kernel_rfl) (by kernel_rfl)) ?_
  intro W base args ds gs before hval hW _ _
  refine bJr bE1 (bWc bE1) (all_in (by rw [aV2]; kernel_rfl)) (tb:=4) (by kernel_rfl) (by kernel_rfl) rfl ?_ ?_ W base args ds gs before hval hW
  · intro ds hl
    rw [aV2] at hl
    match ds,hl with
    | [d0],_=>exact ⟨rfl,rfl,rfl⟩
  · rw [aV2]
    exact fun ls h1 h2=>bY6 bJ9 ls h1 h2
theorem fnRunTrue_holds:Rows.FnRunTrueSaid :=
  OpenClaim.holds_of_wide 3 Tryz.f3 rfl rfl rfl rfl rfl rfl rfl ⟨rfl,rfl,rfl,rfl,rfl⟩ rfl rfl rfl rfl rfl (by kernel_rfl) Tryz.func3 (by kernel_rfl)
    (of_decide_eq_true (by kernel_rfl)) (by unfold Func.isWrapper; rw [if_neg (by decide +kernel)]; exact ⟨rfl,rfl⟩)
    (fun os started H enc _=>cCw os started H enc)
end Go.Proofs.YthcemdafchcehabGreat
