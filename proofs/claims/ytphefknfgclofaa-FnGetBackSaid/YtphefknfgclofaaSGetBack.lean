/- The statement of FnGetBack. -/
import Derived.Test.YtphefknfgclofaaRows
import Derived.Test.YtphefknfgclofaaCGetBack3
import Derived.Test.YtphefknfgclofaaLGetBack0
import Derived.ProofKit
namespace Go.Proofs.Ytphefknfgclofaa
open Go Go.ChangeShapes Go.WideShapes Go.ChangeAt Go.RowKit Go.Ab
theorem bBe:ownKnob Try.prog.godebug=none:=by kernel_rfl
theorem aM2:zJ Try.prog [5,22]=true:=by kernel_rfl
theorem aKf:Try.f5.params.toList=[22]:=by kernel_rfl
set_option maxRecDepth 100000 in
theorem bCi (os : Os) (started : os.Started) (H : Type) (enc : TypeId × Value → H) :
    ReturnsInHanded {} Try.checked os 5 .any (Rows.fnGetBackSpec.pre6 enc Try.prog Try.f5 Rows.fnGetBackRow.domain false) (Rows.fnGetBackSpec.post enc Try.prog Try.f5 false true false false):=by
  refine returnsInHanded_of_change (C:=Try.checked) bBe started (by kernel_rfl) Try.func5
    (ChangeSpec.witness6 (enc:=enc) (C:=Try.checked) false ⟨#[],#[.slice none 0 0],[]⟩ 8 (by kernel_rfl) (by kernel_rfl) (by kernel_rfl) (by kernel_rfl)) ?_
  intro W base args ds gs before hval hW _ _
  refine aWs aM2 (bBk aM2) (all_in (by rw [aKf]; kernel_rfl)) (tb:=4) (by kernel_rfl) (by kernel_rfl) rfl ?_ ?_ W base args ds gs before hval hW
  · intro ds hl
    rw [aKf] at hl
    match ds,hl with
    | [d0],_=>exact ⟨rfl,rfl,rfl⟩
  · rw [aKf]
    exact fun ls h1 h2=>aV2 bA1 ls h1 h2
theorem fnGetBack_holds:Rows.FnGetBackSaid :=
  OpenClaim.holds_of_wide 5 Try.f5 rfl rfl rfl rfl rfl rfl rfl ⟨rfl,rfl,rfl,rfl,rfl⟩ rfl rfl rfl rfl rfl (by kernel_rfl) Try.func5 (by kernel_rfl)
    (of_decide_eq_true (by kernel_rfl)) (by unfold Func.isWrapper; rw [if_neg (by decide +kernel)]; exact ⟨rfl,rfl⟩)
    (fun os started H enc _=>bCi os started H enc)
end Go.Proofs.Ytphefknfgclofaa
