/- The statement of FnExactAliasFor, with its card. -/
import Derived.Test.YtgmnnlkhmpceiaaDoorCards
import Derived.Test.YtgmnnlkhmpceiaaDoorTie
import Derived.Test.YtgmnnlkhmpceiaaDoorCExactAliasFor0
import Derived.Test.YtgmnnlkhmpceiaaDoorLExactAliasFor0
import Derived.Test.YtgmnnlkhmpceiaaDoorAbG3
import Derived.ProofKit
import Derived.OpenShut
import Derived.LaidMore
import Derived.Lay
import Derived.SevenTiedAt
namespace Go.Proofs.YtgmnnlkhmpceiaaDoor
open Go Go.ChangeShapes Go.WideShapes Go.ChangeAt Go.RowKit Go.Ab
theorem own_fnExactAliasFor : ownKnob Tryd.prog.godebug = none := by kernel_rfl
theorem plain_fnExactAliasFor : plainB Tryd.prog [3] = true := by kernel_rfl
theorem params_fnExactAliasFor : Tryd.f3.params.toList = [3, 3] := by kernel_rfl
set_option maxRecDepth 100000 in
theorem fnExactAliasFor_lifted (os : Os) (started : os.Started) (H : Type) (enc : TypeId × Value → H) :
    ReturnsInHanded {} Tryd.checked os 3 .any (fun w args => (Rows.fnExactAliasForSpec.pre enc Tryd.prog Tryd.f3 Rows.fnExactAliasForRow.domain false w args ∧ laidMetH Tryd.prog Rows.fnExactAliasForRow.laid w) ∧ sizedMet enc Tryd.prog Tryd.f3 (OpenSpec.ofChange Rows.fnExactAliasForSpec) false w args)
      (Rows.fnExactAliasForSpec.post enc Tryd.prog Tryd.f3 false true false false) := by
  refine handed_laid (C := Tryd.checked) (L := Rows.fnExactAliasForRow.laid) own_fnExactAliasFor started (by kernel_rfl) Tryd.func3
    (ChangeSpec.witness_shaped (enc := enc) (C := Tryd.checked) (os := os) (X := fun w _ => laidMetH Tryd.prog Rows.fnExactAliasForRow.laid w) false (World.laidAll Tryd.prog os Rows.fnExactAliasForRow.laid) #[.int .i64 0, .int .i64 0] 8 (World.laidAll_os _ _ _)
      (World.shaped_of_ZipB (by kernel_rfl) (by kernel_rfl)) (by kernel_rfl) (by kernel_rfl) (by kernel_rfl)
      (by rw [MakeChecks.laidMetH_plain _ _ _ (by kernel_rfl)]; exact laidMet_laidAll _ (by kernel_rfl) (by kernel_rfl))) ?_
  intro W base args ds gs before hval hW hL hsh
  have hl := hL
  rw [MakeChecks.laidMetH_plain _ _ _ (by kernel_rfl)] at hl
  refine law_contract plain_fnExactAliasFor (plain_pos plain_fnExactAliasFor) (all_in (by rw [params_fnExactAliasFor]; kernel_rfl)) (tb := 4) (by kernel_rfl) (by kernel_rfl) rfl ?_ ?_ W base args ds gs before hval hW ?_
  · intro ds hlen
    rw [params_fnExactAliasFor] at hlen
    match ds, hlen with
    | [d0, d1], _ => exact ⟨rfl, rfl, rfl⟩
  · rw [params_fnExactAliasFor]
    exact fun ls h1 h2 => law_wFnExactAliasFor fnExactAliasFor_true ls h1 h2
  · intro p hp
    rcases List.mem_cons.1 hp with rfl | hp
    · exact gv_tab (t := 35) (e := 28) (n := 20) (zs := Lib.pow10Tab) (laidMet.tail (laidMet.tail (hl))) rfl (by kernel_rfl) (by kernel_rfl) (by kernel_rfl) (by kernel_rfl) (by kernel_rfl) (by kernel_rfl)
    exact absurd hp List.not_mem_nil
theorem fnExactAliasFor_holds : Rows.FnExactAliasForSaid :=
  OpenClaim.holds_of_wide 3 Tryd.f3 rfl rfl rfl rfl rfl rfl rfl ⟨rfl, rfl, rfl, rfl, rfl⟩ rfl rfl rfl rfl rfl (by kernel_rfl) Tryd.func3 (by kernel_rfl)
    (of_decide_eq_true (by kernel_rfl)) (by unfold Func.isWrapper; first | (rw [if_pos (by decide +kernel)]; kernel_rfl) | (rw [if_neg (by decide +kernel)]; exact ⟨rfl, rfl⟩))
    (fun os started H enc _ => fnExactAliasFor_lifted os started H enc)
theorem fnExactAliasForCard_holds : Rows.FnExactAliasForCardSaid :=
  Claim7.holds_tied_plain_at .later [] [.data, .data, .data] true (true, "b54337d7e60a2ede457c0ffc6e827294df156e88c4eb00b2fa564410c61ff7b3") false fnExactAliasFor_holds (fun _ h => by cases h) (by kernel_rfl) (fun _ h => by cases h) fnExactAliasFor_row_tie rfl ⟨rfl, rfl⟩ (by kernel_rfl) rfl
    (fun f fn hf hfn => by
      obtain rfl : f = 3 := Option.some.inj ((show Tryd.prog.funcNamed Rows.fnExactAliasForRow.func = some 3 by kernel_rfl).symm.trans hf) |>.symm
      obtain rfl : fn = Tryd.f3 := (Option.some.inj (Tryd.func3.symm.trans hfn)).symm
      exact ⟨by kernel_rfl, fun j t ht => by
        have hm : t ∈ [3, 3] := by rw [← params_fnExactAliasFor]; exact Array.mem_toList_iff.2 (Array.mem_of_getElem? ht)
        have hall : (([3, 3] : List Nat).all fun u => !Tryd.prog.wantsStandIn u) = true := by kernel_rfl
        exact (show Tryd.prog.wantsStandIn t = false by simpa using List.all_eq_true.1 hall t hm)⟩)
    (by kernel_rfl)
end Go.Proofs.YtgmnnlkhmpceiaaDoor
