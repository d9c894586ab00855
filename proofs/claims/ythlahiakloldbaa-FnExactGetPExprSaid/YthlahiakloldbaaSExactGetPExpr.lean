/- The statement of FnExactGetPExpr. -/
import Derived.Test.YthlahiakloldbaaRows
import Derived.Test.YthlahiakloldbaaCExactGetPExpr2
import Derived.Test.YthlahiakloldbaaLExactGetPExpr0
import Derived.ProofKit
namespace Go.Proofs.Ythlahiakloldbaa
open Go Go.ChangeShapes Go.WideShapes Go.ChangeAt Go.RowKit Go.Ab
theorem aVb:ownKnob Try.prog.godebug=none:=by kernel_rfl
theorem aIl:uC Try.prog [3,9]=true:=by kernel_rfl
theorem aFu:Try.f5.params.toList=[9,3]:=by kernel_rfl
set_option maxRecDepth 100000 in
theorem aLx (os : Os) (started : os.Started) (H : Type) (enc : TypeId × Value → H) :
    ReturnsInHanded {} Try.checked os 5 .any (Rows.fnExactGetPExprSpec.pre6 enc Try.prog Try.f5 Rows.fnExactGetPExprRow.domain false) (Rows.fnExactGetPExprSpec.post enc Try.prog Try.f5 false true false false):=by
  refine returnsInHanded_of_change (C:=Try.checked) aVb started (by kernel_rfl) Try.func5
    (ChangeSpec.witness6 (enc:=enc) (C:=Try.checked) false ⟨#[],#[.string ⟨#[]⟩,.int .i64 0],[]⟩ 8 (by kernel_rfl) (by kernel_rfl) (by kernel_rfl) (by kernel_rfl)) ?_
  intro W base args ds gs before hval hW _ _
  refine aNo aIl (aVn aIl) (all_in (by rw [aFu]; kernel_rfl)) (tb:=4) (by kernel_rfl) (by kernel_rfl) rfl ?_ ?_ W base args ds gs before hval hW
  · intro ds hl
    rw [aFu] at hl
    match ds,hl with
    | [d0,d1],_=>exact ⟨rfl,rfl,rfl⟩
  · rw [aFu]
    exact fun ls h1 h2=>aNa aSu ls h1 h2
theorem fnExactGetPExpr_holds:Rows.FnExactGetPExprSaid :=
  OpenClaim.holds_of_wide 5 Try.f5 rfl rfl rfl rfl rfl rfl rfl ⟨rfl,rfl,rfl,rfl,rfl⟩ rfl rfl rfl rfl rfl (by kernel_rfl) Try.func5 (by kernel_rfl)
    (of_decide_eq_true (by kernel_rfl)) (by unfold Func.isWrapper; rw [if_neg (by decide +kernel)]; exact ⟨rfl,rfl⟩)
    (fun os started H enc _=>aLx os started H enc)
end Go.Proofs.Ythlahiakloldbaa
