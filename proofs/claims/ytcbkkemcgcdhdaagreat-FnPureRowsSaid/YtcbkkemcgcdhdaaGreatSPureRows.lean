/- The statement of FnPureRows. -/
import Derived.Test.YtcbkkemcgcdhdaaGreatRows
import Derived.Test.YtcbkkemcgcdhdaaGreatCPureRows2
import Derived.Test.YtcbkkemcgcdhdaaGreatLPureRows1
import Derived.ProofKit
namespace Go.Proofs.YtcbkkemcgcdhdaaGreat
open Go Go.ChangeShapes Go.WideShapes Go.ChangeAt Go.RowKit Go.Ab
theorem bUq:ownKnob Tryz.prog.godebug=none:=by kernel_rfl
theorem bMd:aB9 Tryz.prog [5,22]=true:=by kernel_rfl
theorem bCy:Tryz.f3.params.toList=[22]:=by kernel_rfl
set_option maxRecDepth 100000 in
theorem cG5 (os : Os) (started : os.Started) (H : Type) (enc : TypeId × Value → H) :
    ReturnsInHanded {} Tryz.checked os 3 .any (Rows.fnPureRowsSpec.pre6 enc Tryz.prog Tryz.f3 Rows.fnPureRowsRow.domain false) (Rows.fnPureRowsSpec.post enc Tryz.prog Tryz.f3 false true false false):=by
  refine returnsInHanded_of_change (C:=Tryz.checked) bUq started (by kernel_rfl) Tryz.func3
    (ChangeSpec.witness6 (enc:=enc) (C:=Tryz.checked) false ⟨#[],#[.slice none 0 0],[]⟩ 8 (by kernel_rfl) (by kernel_rfl) (by kernel_rfl) (by kernel_rfl)) ?_
  intro W base args ds gs before hval hW _ _
  refine cEx bMd (cFe bMd) (all_in (by rw [bCy]; kernel_rfl)) (tb:=4) (by kernel_rfl) (by kernel_rfl) rfl ?_ ?_ W base args ds gs before hval hW
  · intro ds hl
    rw [bCy] at hl
    match ds,hl with
    | [d0],_=>exact ⟨rfl,rfl,rfl⟩
  · rw [bCy]
    exact fun ls h1 h2=>cBo cEr ls h1 h2
theorem fnPureRows_holds:Rows.FnPureRowsSaid :=
  OpenClaim.holds_of_wide 3 Tryz.f3 rfl rfl rfl rfl rfl rfl rfl ⟨rfl,rfl,rfl,rfl,rfl⟩ rfl rfl rfl rfl rfl (by kernel_rfl) Tryz.func3 (by kernel_rfl)
    (of_decide_eq_true (by kernel_rfl)) (by unfold Func.isWrapper; rw [if_neg (by decide +kernel)]; exact ⟨rfl,rfl⟩)
    (fun os started H enc _=>cG5 os started H enc)
end Go.Proofs.YtcbkkemcgcdhdaaGreat
