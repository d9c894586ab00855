/- The statement of FnExactExprsOf. -/
import Derived.Test.YtcfkipkafnlliaaRows
import Derived.Test.YtcfkipkafnlliaaCExactExprsOf3
import Derived.Test.YtcfkipkafnlliaaLExactExprsOf0
import Derived.ProofKit
namespace Go.Proofs.Ytcfkipkafnlliaa
open Go Go.ChangeShapes Go.WideShapes Go.ChangeAt Go.RowKit Go.Ab
theorem aV2:ownKnob Try.prog.godebug=none:=by kernel_rfl
theorem aN7:wC Try.prog [3,4,9,40,49,50,51,52,54,55,57,138,139,141,179,182,185]=true:=by kernel_rfl
theorem aLk:Try.f8.params.toList=[57]:=by kernel_rfl
set_option maxRecDepth 100000 in
theorem aZ5 (os : Os) (started : os.Started) (H : Type) (enc : TypeId × Value → H) :
    ReturnsInHanded {} Try.checked os 8 .any (Rows.fnExactExprsOfSpec.pre6 enc Try.prog Try.f8 Rows.fnExactExprsOfRow.domain false) (Rows.fnExactExprsOfSpec.post enc Try.prog Try.f8 false true false false):=by
  refine returnsInHanded_of_change (C:=Try.checked) aV2 started (by kernel_rfl) Try.func8
    (ChangeSpec.witness6 (enc:=enc) (C:=Try.checked) false ⟨#[],#[.agg #[.int .i64 0,.bool false,.slice none 0 0,.slice none 0 0,.slice none 0 0,.slice none 0 0,.int .i64 0,.string ⟨#[]⟩,.slice none 0 0,.slice none 0 0,.slice none 0 0,.slice none 0 0]],[]⟩ 8 (by kernel_rfl) (by kernel_rfl) (by kernel_rfl) (by kernel_rfl)) ?_
  intro W base args ds gs before hval hW _ _
  refine bBv aN7 (aWx aN7) (all_in (by rw [aLk]; kernel_rfl)) (tb:=4) (by kernel_rfl) (by kernel_rfl) rfl ?_ ?_ W base args ds gs before hval hW
  · intro ds hl
    rw [aLk] at hl
    match ds,hl with
    | [d0],_=>exact ⟨rfl,rfl,rfl⟩
  · rw [aLk]
    exact fun ls h1 h2=>aTo aWu ls h1 h2
theorem fnExactExprsOf_holds:Rows.FnExactExprsOfSaid :=
  OpenClaim.holds_of_wide 8 Try.f8 rfl rfl rfl rfl rfl rfl rfl ⟨rfl,rfl,rfl,rfl,rfl⟩ rfl rfl rfl rfl rfl (by kernel_rfl) Try.func8 (by kernel_rfl)
    (of_decide_eq_true (by kernel_rfl)) (by unfold Func.isWrapper; rw [if_neg (by decide +kernel)]; exact ⟨rfl,rfl⟩)
    (fun os started H enc _=>aZ5 os started H enc)
end Go.Proofs.Ytcfkipkafnlliaa
