/- The statement of FnTables. -/
import Derived.Test.YtflhmnfmihkbmacRows
import Derived.Test.YtflhmnfmihkbmacCTables1
import Derived.Test.YtflhmnfmihkbmacLTables1
import Derived.ProofKit
namespace Go.Proofs.Ytflhmnfmihkbmac
open Go Go.ChangeShapes Go.WideShapes Go.ChangeAt Go.RowKit Go.Ab
theorem bHx:ownKnob Try.prog.godebug=none:=by kernel_rfl
theorem bAz:K8 Try.prog [5,22]=true:=by kernel_rfl
theorem aLe:Try.f3.params.toList=[22]:=by kernel_rfl
set_option maxRecDepth 100000 in
theorem bE9 (os : Os) (started : os.Started) (H : Type) (enc : TypeId × Value → H) :
    ReturnsInHanded {} Try.checked os 3 .any (Rows.fnTablesSpec.pre6 enc Try.prog Try.f3 Rows.fnTablesRow.domain false) (Rows.fnTablesSpec.post enc Try.prog Try.f3 false true false false):=by
  refine returnsInHanded_of_change (C:=Try.checked) bHx started (by kernel_rfl) Try.func3
    (ChangeSpec.witness6 (enc:=enc) (C:=Try.checked) false ⟨#[],#[.slice none 0 0],[]⟩ 8 (by kernel_rfl) (by kernel_rfl) (by kernel_rfl) (by kernel_rfl)) ?_
  intro W base args ds gs before hval hW _ _
  refine bTp bAz (bGn bAz) (all_in (by rw [aLe]; kernel_rfl)) (tb:=4) (by kernel_rfl) (by kernel_rfl) rfl ?_ ?_ W base args ds gs before hval hW
  · intro ds hl
    rw [aLe] at hl
    match ds,hl with
    | [d0],_=>exact ⟨rfl,rfl,rfl⟩
  · rw [aLe]
    exact fun ls h1 h2=>bSr bQr ls h1 h2
theorem fnTables_holds:Rows.FnTablesSaid :=
  OpenClaim.holds_of_wide 3 Try.f3 rfl rfl rfl rfl rfl rfl rfl ⟨rfl,rfl,rfl,rfl,rfl⟩ rfl rfl rfl rfl rfl (by kernel_rfl) Try.func3 (by kernel_rfl)
    (of_decide_eq_true (by kernel_rfl)) (by unfold Func.isWrapper; rw [if_neg (by decide +kernel)]; exact ⟨rfl,rfl⟩)
    (fun os started H enc _=>bE9 os started H enc)
end Go.Proofs.Ytflhmnfmihkbmac
