/- The statement of FnExactRun. -/
import Derived.Test.YtcbkkemcgcdhdabGreatRows
import Derived.Test.YtcbkkemcgcdhdabGreatCExactRun2
import Derived.Test.YtcbkkemcgcdhdabGreatLExactRun1
import Derived.ProofKit
namespace Go.Proofs.YtcbkkemcgcdhdabGreat
open Go Go.ChangeShapes Go.WideShapes Go.ChangeAt Go.RowKit Go.Ab
theorem bZ7:ownKnob Tryz.prog.godebug=none:=by kernel_rfl
theorem bI6:aCo Tryz.prog [3,4,9,22,24,25,27,28,29,30,31,32,34,97,99,101,103,106,107,109,112,207,209]=true:=by kernel_rfl
theorem aV1:Tryz.f3.params.toList=[24,27,34]:=by kernel_rfl
set_option maxRecDepth 100000 in
theorem bT8 (os : Os) (started : os.Started) (H : Type) (enc : TypeId × Value → H) :
    ReturnsInHanded {} Tryz.checked os 3 .any (Rows.fnExactRunSpec.pre6 enc Tryz.prog Tryz.f3 Rows.fnExactRunRow.domain false) (Rows.fnExactRunSpec.post enc Tryz.prog Tryz.f3 false true false false):=by
  refine returnsInHanded_of_change (C:=Tryz.checked) bZ7 started (by kernel_rfl) Tryz.func3
    (ChangeSpec.witness6 (enc:=enc) (C:=Tryz.checked) false ⟨#[],#[.agg #[.slice none 0 0],.agg #[.slice none 0 0],.agg #[.slice none 0 0,.slice none 0 0,.slice none 0 0,.slice none 0 0,.slice none 0 0,.slice none 0 0,.bool false,.int .i64 0]],[]⟩ 8 (by kernel_rfl) (by kernel_rfl) (by kernel_rfl) (by kernel_rfl)) ?_
  intro W base args ds gs before hval hW _ _
  refine cM1 bI6 (bZd bI6) (all_in (by rw [aV1]; kernel_rfl)) (tb:=4) (by kernel_rfl) (by kernel_rfl) rfl ?_ ?_ W base args ds gs before hval hW
  · intro ds hl
    rw [aV1] at hl
    match ds,hl with
    | [d0,d1,d2],_=>exact ⟨rfl,rfl,rfl⟩
  · rw [aV1]
    exact fun ls h1 h2=>cA5 cHj ls h1 h2
theorem fnExactRun_holds:Rows.FnExactRunSaid :=
  OpenClaim.holds_of_wide 3 Tryz.f3 rfl rfl rfl rfl rfl rfl rfl ⟨rfl,rfl,rfl,rfl,rfl⟩ rfl rfl rfl rfl rfl (by kernel_rfl) Tryz.func3 (by kernel_rfl)
    (of_decide_eq_true (by kernel_rfl)) (by unfold Func.isWrapper; rw [if_neg (by decide +kernel)]; exact ⟨rfl,rfl⟩)
    (fun os started H enc _=>bT8 os started H enc)
end Go.Proofs.YtcbkkemcgcdhdabGreat
