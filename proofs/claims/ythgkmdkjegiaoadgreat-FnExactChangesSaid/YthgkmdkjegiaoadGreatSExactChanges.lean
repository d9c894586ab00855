/- The statement of FnExactChanges. -/
import Derived.Test.YthgkmdkjegiaoadGreatRows
import Derived.Test.YthgkmdkjegiaoadGreatCExactChanges2
import Derived.Test.YthgkmdkjegiaoadGreatLExactChanges0
import Derived.ProofKit
namespace Go.Proofs.YthgkmdkjegiaoadGreat
open Go Go.ChangeShapes Go.WideShapes Go.ChangeAt Go.RowKit Go.Ab
theorem bSw:ownKnob Tryz.prog.godebug=none:=by kernel_rfl
theorem aQp:xY Tryz.prog [3,4,9,22,24,25,26,27,28,29,31,33,69,71,76,77,79,112,144]=true:=by kernel_rfl
theorem aI1:Tryz.f3.params.toList=[24,33]:=by kernel_rfl
set_option maxRecDepth 100000 in
theorem bF1 (os : Os) (started : os.Started) (H : Type) (enc : TypeId × Value → H) :
    ReturnsInHanded {} Tryz.checked os 3 .any (Rows.fnExactChangesSpec.pre6 enc Tryz.prog Tryz.f3 Rows.fnExactChangesRow.domain false) (Rows.fnExactChangesSpec.post enc Tryz.prog Tryz.f3 false true false false):=by
  refine returnsInHanded_of_change (C:=Tryz.checked) bSw started (by kernel_rfl) Tryz.func3
    (ChangeSpec.witness6 (enc:=enc) (C:=Tryz.checked) false ⟨#[],#[.agg #[.slice none 0 0],.agg #[.int .i64 0,.slice none 0 0,.slice none 0 0,.slice none 0 0,.slice none 0 0,.slice none 0 0,.slice none 0 0,.bool false,.int .i64 0,.int .i64 0,.slice none 0 0,.slice none 0 0,.slice none 0 0,.slice none 0 0]],[]⟩ 8 (by kernel_rfl) (by kernel_rfl) (by kernel_rfl) (by kernel_rfl)) ?_
  intro W base args ds gs before hval hW _ _
  refine bW0 aQp (bUo aQp) (all_in (by rw [aI1]; kernel_rfl)) (tb:=4) (by kernel_rfl) (by kernel_rfl) rfl ?_ ?_ W base args ds gs before hval hW
  · intro ds hl
    rw [aI1] at hl
    match ds,hl with
    | [d0,d1],_=>exact ⟨rfl,rfl,rfl⟩
  · rw [aI1]
    exact fun ls h1 h2=>bEj bD1 ls h1 h2
theorem fnExactChanges_holds:Rows.FnExactChangesSaid :=
  OpenClaim.holds_of_wide 3 Tryz.f3 rfl rfl rfl rfl rfl rfl rfl ⟨rfl,rfl,rfl,rfl,rfl⟩ rfl rfl rfl rfl rfl (by kernel_rfl) Tryz.func3 (by kernel_rfl)
    (of_decide_eq_true (by kernel_rfl)) (by unfold Func.isWrapper; rw [if_neg (by decide +kernel)]; exact ⟨rfl,rfl⟩)
    (fun os started H enc _=>bF1 os started H enc)
end Go.Proofs.YthgkmdkjegiaoadGreat
