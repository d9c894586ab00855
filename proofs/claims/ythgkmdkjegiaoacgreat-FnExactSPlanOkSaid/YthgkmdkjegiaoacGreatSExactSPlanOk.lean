/- The statement of FnExactSPlanOk. -/
import Derived.Test.YthgkmdkjegiaoacGreatRows
import Derived.Test.YthgkmdkjegiaoacGreatCExactSPlanOk2
import Derived.Test.YthgkmdkjegiaoacGreatLExactSPlanOk0
import Derived.ProofKit
namespace Go.Proofs.YthgkmdkjegiaoacGreat
open Go Go.ChangeShapes Go.WideShapes Go.ChangeAt Go.RowKit Go.Ab
theorem cAz:ownKnob Tryz.prog.godebug=none:=by kernel_rfl
theorem aTt:vY Tryz.prog [3,4,9,22,24,25,26,27,28,29,31,33,85,87,92,93,95,131,156]=true:=by kernel_rfl
theorem aJd:Tryz.f3.params.toList=[24,33]:=by kernel_rfl
set_option maxRecDepth 100000 in
theorem bZh (os : Os) (started : os.Started) (H : Type) (enc : TypeId × Value → H) :
    ReturnsInHanded {} Tryz.checked os 3 .any (Rows.fnExactSPlanOkSpec.pre6 enc Tryz.prog Tryz.f3 Rows.fnExactSPlanOkRow.domain false) (Rows.fnExactSPlanOkSpec.post enc Tryz.prog Tryz.f3 false true false false):=by
  refine returnsInHanded_of_change (C:=Tryz.checked) cAz started (by kernel_rfl) Tryz.func3
    (ChangeSpec.witness6 (enc:=enc) (C:=Tryz.checked) false ⟨#[],#[.agg #[.slice none 0 0],.agg #[.int .i64 0,.slice none 0 0,.slice none 0 0,.slice none 0 0,.slice none 0 0,.slice none 0 0,.slice none 0 0,.bool false,.int .i64 0,.int .i64 0,.slice none 0 0,.slice none 0 0,.slice none 0 0,.slice none 0 0]],[]⟩ 8 (by kernel_rfl) (by kernel_rfl) (by kernel_rfl) (by kernel_rfl)) ?_
  intro W base args ds gs before hval hW _ _
  refine bEn aTt (bEc aTt) (all_in (by rw [aJd]; kernel_rfl)) (tb:=4) (by kernel_rfl) (by kernel_rfl) rfl ?_ ?_ W base args ds gs before hval hW
  · intro ds hl
    rw [aJd] at hl
    match ds,hl with
    | [d0,d1],_=>exact ⟨rfl,rfl,rfl⟩
  · rw [aJd]
    exact fun ls h1 h2=>bMs bCc ls h1 h2
theorem fnExactSPlanOk_holds:Rows.FnExactSPlanOkSaid :=
  OpenClaim.holds_of_wide 3 Tryz.f3 rfl rfl rfl rfl rfl rfl rfl ⟨rfl,rfl,rfl,rfl,rfl⟩ rfl rfl rfl rfl rfl (by kernel_rfl) Tryz.func3 (by kernel_rfl)
    (of_decide_eq_true (by kernel_rfl)) (by unfold Func.isWrapper; rw [if_neg (by decide +kernel)]; exact ⟨rfl,rfl⟩)
    (fun os started H enc _=>bZh os started H enc)
end Go.Proofs.YthgkmdkjegiaoacGreat
