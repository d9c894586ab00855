/- The statement of FnExactTablesIn. -/
import Derived.Test.YtcfkipkafnlliaaRows
import Derived.Test.YtcfkipkafnlliaaCExactTablesIn2
import Derived.Test.YtcfkipkafnlliaaLExactTablesIn0
import Derived.ProofKit
namespace Go.Proofs.Ytcfkipkafnlliaa
open Go Go.ChangeShapes Go.WideShapes Go.ChangeAt Go.RowKit Go.Ab
theorem aTb:ownKnob Try.prog.godebug=none:=by kernel_rfl
theorem aRq:vL Try.prog [3,4,9,40,49,50,51,52,54,55,57,138,139,141,179,182,185]=true:=by kernel_rfl
theorem aL7:Try.f6.params.toList=[57]:=by kernel_rfl
set_option maxRecDepth 100000 in
theorem aXu (os : Os) (started : os.Started) (H : Type) (enc : TypeId × Value → H) :
    ReturnsInHanded {} Try.checked os 6 .any (Rows.fnExactTablesInSpec.pre6 enc Try.prog Try.f6 Rows.fnExactTablesInRow.domain false) (Rows.fnExactTablesInSpec.post enc Try.prog Try.f6 false true false false):=by
  refine returnsInHanded_of_change (C:=Try.checked) aTb started (by kernel_rfl) Try.func6
    (ChangeSpec.witness6 (enc:=enc) (C:=Try.checked) false ⟨#[],#[.agg #[.int .i64 0,.bool false,.slice none 0 0,.slice none 0 0,.slice none 0 0,.slice none 0 0,.int .i64 0,.string ⟨#[]⟩,.slice none 0 0,.slice none 0 0,.slice none 0 0,.slice none 0 0]],[]⟩ 8 (by kernel_rfl) (by kernel_rfl) (by kernel_rfl) (by kernel_rfl)) ?_
  intro W base args ds gs before hval hW _ _
  refine aSs aRq (aU6 aRq) (all_in (by rw [aL7]; kernel_rfl)) (tb:=4) (by kernel_rfl) (by kernel_rfl) rfl ?_ ?_ W base args ds gs before hval hW
  · intro ds hl
    rw [aL7] at hl
    match ds,hl with
    | [d0],_=>exact ⟨rfl,rfl,rfl⟩
  · rw [aL7]
    exact fun ls h1 h2=>bB0 aYz ls h1 h2
theorem fnExactTablesIn_holds:Rows.FnExactTablesInSaid :=
  OpenClaim.holds_of_wide 6 Try.f6 rfl rfl rfl rfl rfl rfl rfl ⟨rfl,rfl,rfl,rfl,rfl⟩ rfl rfl rfl rfl rfl (by kernel_rfl) Try.func6 (by kernel_rfl)
    (of_decide_eq_true (by kernel_rfl)) (by unfold Func.isWrapper; rw [if_neg (by decide +kernel)]; exact ⟨rfl,rfl⟩)
    (fun os started H enc _=>aXu os started H enc)
end Go.Proofs.Ytcfkipkafnlliaa
