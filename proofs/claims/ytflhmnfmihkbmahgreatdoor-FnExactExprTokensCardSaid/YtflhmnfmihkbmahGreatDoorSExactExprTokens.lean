/- The statement of FnExactExprTokens,with its card. -/
import Derived.Test.YtflhmnfmihkbmahGreatDoorCards
import Derived.Test.YtflhmnfmihkbmahGreatDoorTie
import Derived.Test.YtflhmnfmihkbmahGreatDoorCExactExprTokens2
import Derived.Test.YtflhmnfmihkbmahGreatDoorLExactExprTokens0
import Derived.Test.YtflhmnfmihkbmahGreatDoorAbG3
import Derived.ProofKit
import Derived.OpenShut
import Derived.LaidMore
import Derived.Lay
import Derived.SevenTiedAt
namespace Go.Proofs.YtflhmnfmihkbmahGreatDoor
open Go Go.ChangeShapes Go.WideShapes Go.ChangeAt Go.RowKit Go.Ab
theorem bMk:ownKnob Tryz.prog.godebug=none:=by kernel_rfl
theorem aXn:xQ Tryz.prog [3,4,9,23,24,25,27,64,65,66,68,130,133,136]=true:=by kernel_rfl
theorem aI9:Tryz.f3.params.toList=[27]:=by kernel_rfl
set_option maxRecDepth 100000 in
theorem bFk (os : Os) (started : os.Started) (H : Type) (enc : TypeId × Value → H) :
    ReturnsInHanded {} Tryz.checked os 3 .any (fun w args=>(Rows.fnExactExprTokensSpec.pre enc Tryz.prog Tryz.f3 Rows.fnExactExprTokensRow.domain false w args∧laidMetH Tryz.prog Rows.fnExactExprTokensRow.laid w)∧sizedMet enc Tryz.prog Tryz.f3 (OpenSpec.ofChange Rows.fnExactExprTokensSpec) false w args)
      (Rows.fnExactExprTokensSpec.post enc Tryz.prog Tryz.f3 false true false false):=by
  refine cBc (C:=Tryz.checked) (L:=Rows.fnExactExprTokensRow.laid) bMk started (by kernel_rfl) Tryz.func3
    (ChangeSpec.witness_shaped (enc:=enc) (C:=Tryz.checked) (os:=os) (X:=fun w _=>laidMetH Tryz.prog Rows.fnExactExprTokensRow.laid w) false (World.laidAll Tryz.prog os Rows.fnExactExprTokensRow.laid) #[.agg #[.int .i64 0,.int .i64 0,.bool false,.int .i64 0,.int .i64 0,.string ⟨#[]⟩,.string ⟨#[]⟩,.string ⟨#[]⟩,.slice none 0 0,.slice none 0 0]] 8 (World.laidAll_os _ _ _)
      (World.shaped_of_ZipB (by kernel_rfl) (by kernel_rfl)) (by kernel_rfl) (by kernel_rfl) (by kernel_rfl)
      (by rw [MakeChecks.laidMetH_plain _ _ _ (by kernel_rfl)]; exact laidMet_laidAll _ (by kernel_rfl) (by kernel_rfl))) ?_
  intro W base args ds gs before hval hW hL hsh
  have hl:=hL
  rw [MakeChecks.laidMetH_plain _ _ _ (by kernel_rfl)] at hl
  refine bRo aXn (bMx aXn) (all_in (by rw [aI9]; kernel_rfl)) (tb:=4) (by kernel_rfl) (by kernel_rfl) rfl ?_ ?_ W base args ds gs before hval hW ?_
  · intro ds hlen
    rw [aI9] at hlen
    match ds,hlen with
    | [d0],_=>exact ⟨rfl,rfl,rfl⟩
  · rw [aI9]
    exact fun ls h1 h2=>bX3 bMo ls h1 h2
  · intro p hp
    rcases List.mem_cons.1 hp with rfl | hp
    · exact bFs (t:=181) (e:=173) (n:=20) (zs:=Lib.pow10Tab) (laidMet.tail (laidMet.tail (hl))) rfl (by kernel_rfl) (by kernel_rfl) (by kernel_rfl) (by kernel_rfl) (by kernel_rfl) (by kernel_rfl)
    rcases List.mem_cons.1 hp with rfl | hp
    · exact bOh (t:=3) (zero:=#[.int .i64 0]) hsh (of_decide_eq_true (by kernel_rfl)) (by kernel_rfl) rfl (by kernel_rfl) (by kernel_rfl) (by kernel_rfl)
    exact absurd hp List.not_mem_nil
theorem fnExactExprTokens_holds:Rows.FnExactExprTokensSaid :=
  OpenClaim.holds_of_wide 3 Tryz.f3 rfl rfl rfl rfl rfl rfl rfl ⟨rfl,rfl,rfl,rfl,rfl⟩ rfl rfl rfl rfl rfl (by kernel_rfl) Tryz.func3 (by kernel_rfl)
    (of_decide_eq_true (by kernel_rfl)) (by unfold Func.isWrapper; first | (rw [if_pos (by decide +kernel)]; kernel_rfl) | (rw [if_neg (by decide +kernel)]; exact ⟨rfl,rfl⟩))
    (fun os started H enc _=>bFk os started H enc)
theorem fnExactExprTokensCard_holds:Rows.FnExactExprTokensCardSaid :=
  Claim7.holds_tied_plain_at .later [] [.data,.data,.data,.data,.pinned] true (true,"3e0421cc511ca695056ac948492dea86dc7059bc4d95f121293d8673509ca080") false fnExactExprTokens_holds (fun _ h=>by cases h) (by kernel_rfl) (fun _ h=>by cases h) fnExactExprTokens_row_tie rfl ⟨rfl,rfl⟩ (by kernel_rfl) rfl
    (fun f fn hf hfn=>by
      obtain rfl:f=3:=Option.some.inj ((show Tryz.prog.funcNamed Rows.fnExactExprTokensRow.func=some 3 by kernel_rfl).symm.trans hf) |>.symm
      obtain rfl:fn=Tryz.f3:=(Option.some.inj (Tryz.func3.symm.trans hfn)).symm
      exact ⟨by kernel_rfl,fun j t ht=>by
        have hm:t ∈ [27]:=by rw [← aI9]; exact Array.mem_toList_iff.2 (Array.mem_of_getElem? ht)
        have hall:(([27]:List Nat).all fun u=>!Tryz.prog.wantsStandIn u)=true:=by kernel_rfl
        exact (show Tryz.prog.wantsStandIn t=false by simpa using List.all_eq_true.1 hall t hm)⟩)
    (by kernel_rfl)
end Go.Proofs.YtflhmnfmihkbmahGreatDoor
