/- The statement of FnParts. -/
import Derived.Test.YtcfkipkafnlliaaRows
import Derived.Test.YtcfkipkafnlliaaCParts3
import Derived.Test.YtcfkipkafnlliaaLParts0
import Derived.ProofKit
namespace Go.Proofs.Ytcfkipkafnlliaa
open Go Go.ChangeShapes Go.WideShapes Go.ChangeAt Go.RowKit Go.Ab
theorem aYx:ownKnob Try.prog.godebug=none:=by kernel_rfl
theorem aQc:yB Try.prog [5,22]=true:=by kernel_rfl
theorem aK2:Try.f5.params.toList=[22]:=by kernel_rfl
set_option maxRecDepth 100000 in
theorem bBd (os : Os) (started : os.Started) (H : Type) (enc : TypeId × Value → H) :
    ReturnsInHanded {} Try.checked os 5 .any (Rows.fnPartsSpec.pre6 enc Try.prog Try.f5 Rows.fnPartsRow.domain false) (Rows.fnPartsSpec.post enc Try.prog Try.f5 false true false false):=by
  refine returnsInHanded_of_change (C:=Try.checked) aYx started (by kernel_rfl) Try.func5
    (ChangeSpec.witness6 (enc:=enc) (C:=Try.checked) false ⟨#[],#[.slice none 0 0],[]⟩ 8 (by kernel_rfl) (by kernel_rfl) (by kernel_rfl) (by kernel_rfl)) ?_
  intro W base args ds gs before hval hW _ _
  refine bAt aQc (aTi aQc) (all_in (by rw [aK2]; kernel_rfl)) (tb:=4) (by kernel_rfl) (by kernel_rfl) rfl ?_ ?_ W base args ds gs before hval hW
  · intro ds hl
    rw [aK2] at hl
    match ds,hl with
    | [d0],_=>exact ⟨rfl,rfl,rfl⟩
  · rw [aK2]
    exact fun ls h1 h2=>bAy bDf ls h1 h2
theorem fnParts_holds:Rows.FnPartsSaid :=
  OpenClaim.holds_of_wide 5 Try.f5 rfl rfl rfl rfl rfl rfl rfl ⟨rfl,rfl,rfl,rfl,rfl⟩ rfl rfl rfl rfl rfl (by kernel_rfl) Try.func5 (by kernel_rfl)
    (of_decide_eq_true (by kernel_rfl)) (by unfold Func.isWrapper; rw [if_neg (by decide +kernel)]; exact ⟨rfl,rfl⟩)
    (fun os started H enc _=>bBd os started H enc)
end Go.Proofs.Ytcfkipkafnlliaa
