/- The statement of FnEvalOut. -/
import Derived.Test.YtpedjchcopnlmaaGreatRows
import Derived.Test.YtpedjchcopnlmaaGreatCEvalOut1
import Derived.Test.YtpedjchcopnlmaaGreatLEvalOut1
import Derived.ProofKit
namespace Go.Proofs.YtpedjchcopnlmaaGreat
open Go Go.ChangeShapes Go.WideShapes Go.ChangeAt Go.RowKit Go.Ab
theorem bK5:ownKnob Tryz.prog.godebug=none:=by kernel_rfl
theorem bGw:aC4 Tryz.prog [5,22]=true:=by kernel_rfl
theorem aRq:Tryz.f3.params.toList=[22]:=by kernel_rfl
set_option maxRecDepth 100000 in
theorem cBh (os : Os) (started : os.Started) (H : Type) (enc : TypeId × Value → H) :
    ReturnsInHanded {} Tryz.checked os 3 .any (Rows.fnEvalOutSpec.pre6 enc Tryz.prog Tryz.f3 Rows.fnEvalOutRow.domain false) (Rows.fnEvalOutSpec.post enc Tryz.prog Tryz.f3 false true false false):=by
  refine returnsInHanded_of_change (C:=Tryz.checked) bK5 started (by kernel_rfl) Tryz.func3
    (ChangeSpec.witness6 (enc:=enc) (C:=Tryz.checked) false ⟨#[],#[.slice none 0 0],[]⟩ 8 (by kernel_rfl) (by kernel_rfl) (by kernel_rfl) (by kernel_rfl)) ?_
  intro W base args ds gs before hval hW _ _
  refine cA0 bGw (bYs bGw) (all_in (by rw [aRq]; kernel_rfl)) (tb:=4) (by kernel_rfl) (by kernel_rfl) rfl ?_ ?_ W base args ds gs before hval hW
  · intro ds hl
    rw [aRq] at hl
    match ds,hl with
    | [d0],_=>exact ⟨rfl,rfl,rfl⟩
  · rw [aRq]
    exact fun ls h1 h2=>bJu bWz ls h1 h2
theorem fnEvalOut_holds:Rows.FnEvalOutSaid :=
  OpenClaim.holds_of_wide 3 Tryz.f3 rfl rfl rfl rfl rfl rfl rfl ⟨rfl,rfl,rfl,rfl,rfl⟩ rfl rfl rfl rfl rfl (by kernel_rfl) Tryz.func3 (by kernel_rfl)
    (of_decide_eq_true (by kernel_rfl)) (by unfold Func.isWrapper; rw [if_neg (by decide +kernel)]; exact ⟨rfl,rfl⟩)
    (fun os started H enc _=>cBh os started H enc)
end Go.Proofs.YtpedjchcopnlmaaGreat
