/- The statement of FnExactRowsText, with its card. -/
import Derived.Test.YtgmnnlkhmpceiabDoorCards
import Derived.Test.YtgmnnlkhmpceiabDoorTie
import Derived.Test.YtgmnnlkhmpceiabDoorCExactRowsText0
import Derived.Test.YtgmnnlkhmpceiabDoorLExactRowsText0
import Derived.Test.YtgmnnlkhmpceiabDoorAbG3
import Derived.ProofKit
import Derived.OpenShut
import Derived.LaidMore
import Derived.Lay
import Derived.SevenTiedAt
namespace Go.Proofs.YtgmnnlkhmpceiabDoor
open Go Go.ChangeShapes Go.WideShapes Go.ChangeAt Go.RowKit Go.Ab
theorem own_fnExactRowsText : ownKnob Tryd.prog.godebug = none := by kernel_rfl
theorem plain_fnExactRowsText : plainB Tryd.prog [3, 9, 22, 30, 47] = true := by kernel_rfl
theorem params_fnExactRowsText : Tryd.f3.params.toList = [22] := by kernel_rfl
set_option maxRecDepth 100000 in
theorem fnExactRowsText_lifted (os : Os) (started : os.Started) (H : Type) (enc : TypeId × Value → H) :
    ReturnsInHanded {} Tryd.checked os 3 .any (fun w args => (Rows.fnExactRowsTextSpec.pre enc Tryd.prog Tryd.f3 Rows.fnExactRowsTextRow.domain false w args ∧ laidMetH Tryd.prog Rows.fnExactRowsTextRow.laid w) ∧ sizedMet enc Tryd.prog Tryd.f3 (OpenSpec.ofChange Rows.fnExactRowsTextSpec) false w args)
      (Rows.fnExactRowsTextSpec.post enc Tryd.prog Tryd.f3 false true false false) := by
  refine handed_laid (C := Tryd.checked) (L := Rows.fnExactRowsTextRow.laid) own_fnExactRowsText started (by kernel_rfl) Tryd.func3
    (ChangeSpec.witness_shaped (enc := enc) (C := Tryd.checked) (os := os) (X := fun w _ => laidMetH Tryd.prog Rows.fnExactRowsTextRow.laid w) false (World.laidAll Tryd.prog os Rows.fnExactRowsTextRow.laid) #[.slice none 0 0] 8 (World.laidAll_os _ _ _)
      (World.shaped_of_ZipB (by kernel_rfl) (by kernel_rfl)) (by kernel_rfl) (by kernel_rfl) (by kernel_rfl)
      (by rw [MakeChecks.laidMetH_plain _ _ _ (by kernel_rfl)]; exact laidMet_laidAll _ (by kernel_rfl) (by kernel_rfl))) ?_
  intro W base args ds gs before hval hW hL hsh
  have hl := hL
  rw [MakeChecks.laidMetH_plain _ _ _ (by kernel_rfl)] at hl
  refine law_contract plain_fnExactRowsText (plain_pos plain_fnExactRowsText) (all_in (by rw [params_fnExactRowsText]; kernel_rfl)) (tb := 4) (by kernel_rfl) (by kernel_rfl) rfl ?_ ?_ W base args ds gs before hval hW ?_
  · intro ds hlen
    rw [params_fnExactRowsText] at hlen
    match ds, hlen with
    | [d0], _ => exact ⟨rfl, rfl, rfl⟩
  · rw [params_fnExactRowsText]
    exact fun ls h1 h2 => law_wFnExactRowsText fnExactRowsText_true ls h1 h2
  · intro p hp
    rcases List.mem_cons.1 hp with rfl | hp
    · exact gv_tab (t := 74) (e := 63) (n := 20) (zs := Lib.pow10Tab) (laidMet.tail (laidMet.tail (hl))) rfl (by kernel_rfl) (by kernel_rfl) (by kernel_rfl) (by kernel_rfl) (by kernel_rfl) (by kernel_rfl)
    rcases List.mem_cons.1 hp with rfl | hp
    · exact gv_int (t := 3) (zero := #[.int .i64 0]) hsh (of_decide_eq_true (by kernel_rfl)) (by kernel_rfl) rfl (by kernel_rfl) (by kernel_rfl) (by kernel_rfl)
    exact absurd hp List.not_mem_nil
theorem fnExactRowsText_holds : Rows.FnExactRowsTextSaid :=
  OpenClaim.holds_of_wide 3 Tryd.f3 rfl rfl rfl rfl rfl rfl rfl ⟨rfl, rfl, rfl, rfl, rfl⟩ rfl rfl rfl rfl rfl (by kernel_rfl) Tryd.func3 (by kernel_rfl)
    (of_decide_eq_true (by kernel_rfl)) (by unfold Func.isWrapper; first | (rw [if_pos (by decide +kernel)]; kernel_rfl) | (rw [if_neg (by decide +kernel)]; exact ⟨rfl, rfl⟩))
    (fun os started H enc _ => fnExactRowsText_lifted os started H enc)
theorem fnExactRowsTextCard_holds : Rows.FnExactRowsTextCardSaid :=
  Claim7.holds_tied_plain_at .later [] [.data, .data, .data, .data, .pinned] true (true, "f11ac632dab86d81013a3c2555b0fd6c81cf150209b77f30b8269030d173e347") false fnExactRowsText_holds (fun _ h => by cases h) (by kernel_rfl) (fun _ h => by cases h) fnExactRowsText_row_tie rfl ⟨rfl, rfl⟩ (by kernel_rfl) rfl
    (fun f fn hf hfn => by
      obtain rfl : f = 3 := Option.some.inj ((show Tryd.prog.funcNamed Rows.fnExactRowsTextRow.func = some 3 by kernel_rfl).symm.trans hf) |>.symm
      obtain rfl : fn = Tryd.f3 := (Option.some.inj (Tryd.func3.symm.trans hfn)).symm
      exact ⟨by kernel_rfl, fun j t ht => by
        have hm : t ∈ [22] := by rw [← params_fnExactRowsText]; exact Array.mem_toList_iff.2 (Array.mem_of_getElem? ht)
        have hall : (([22] : List Nat).all fun u => !Tryd.prog.wantsStandIn u) = true := by kernel_rfl
        exact (show Tryd.prog.wantsStandIn t = false by simpa using List.all_eq_true.1 hall t hm)⟩)
    (by kernel_rfl)
end Go.Proofs.YtgmnnlkhmpceiabDoor
