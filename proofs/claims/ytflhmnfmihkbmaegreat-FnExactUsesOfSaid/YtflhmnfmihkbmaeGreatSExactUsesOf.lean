/- The statement of FnExactUsesOf. -/
import Derived.Test.YtflhmnfmihkbmaeGreatRows
import Derived.Test.YtflhmnfmihkbmaeGreatCExactUsesOf2
import Derived.Test.YtflhmnfmihkbmaeGreatLExactUsesOf0
import Derived.ProofKit
namespace Go.Proofs.YtflhmnfmihkbmaeGreat
open Go Go.ChangeShapes Go.WideShapes Go.ChangeAt Go.RowKit Go.Ab
theorem cAy:ownKnob Tryz.prog.godebug=none:=by kernel_rfl
theorem bJs:J4 Tryz.prog [3,4,9,22,24,25,26,27,28,30,86,88,91,92,94,96,99,103,177]=true:=by kernel_rfl
theorem aTd:Tryz.f3.params.toList=[24,30]:=by kernel_rfl
set_option maxRecDepth 100000 in
theorem bTc (os : Os) (started : os.Started) (H : Type) (enc : TypeId × Value → H) :
    ReturnsInHanded {} Tryz.checked os 3 .any (Rows.fnExactUsesOfSpec.pre6 enc Tryz.prog Tryz.f3 Rows.fnExactUsesOfRow.domain false) (Rows.fnExactUsesOfSpec.post enc Tryz.prog Tryz.f3 false true false false):=by
  refine returnsInHanded_of_change (C:=Tryz.checked) cAy started (by kernel_rfl) Tryz.func3
    (ChangeSpec.witness6 (enc:=enc) (C:=Tryz.checked) false ⟨#[],#[.agg #[.slice none 0 0],.agg #[.bool false,.slice none 0 0,.slice none 0 0,.slice none 0 0,.slice none 0 0,.int .i64 0]],[]⟩ 8 (by kernel_rfl) (by kernel_rfl) (by kernel_rfl) (by kernel_rfl)) ?_
  intro W base args ds gs before hval hW _ _
  refine bU4 bJs (cN7 bJs) (all_in (by rw [aTd]; kernel_rfl)) (tb:=4) (by kernel_rfl) (by kernel_rfl) rfl ?_ ?_ W base args ds gs before hval hW
  · intro ds hl
    rw [aTd] at hl
    match ds,hl with
    | [d0,d1],_=>exact ⟨rfl,rfl,rfl⟩
  · rw [aTd]
    exact fun ls h1 h2=>bP8 cLi ls h1 h2
theorem fnExactUsesOf_holds:Rows.FnExactUsesOfSaid :=
  OpenClaim.holds_of_wide 3 Tryz.f3 rfl rfl rfl rfl rfl rfl rfl ⟨rfl,rfl,rfl,rfl,rfl⟩ rfl rfl rfl rfl rfl (by kernel_rfl) Tryz.func3 (by kernel_rfl)
    (of_decide_eq_true (by kernel_rfl)) (by unfold Func.isWrapper; rw [if_neg (by decide +kernel)]; exact ⟨rfl,rfl⟩)
    (fun os started H enc _=>bTc os started H enc)
end Go.Proofs.YtflhmnfmihkbmaeGreat
