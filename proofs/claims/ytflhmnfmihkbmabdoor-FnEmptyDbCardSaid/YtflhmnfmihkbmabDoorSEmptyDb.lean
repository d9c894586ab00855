/- The statement of FnEmptyDb, with its card. -/
import Derived.Test.YtflhmnfmihkbmabDoorCards
import Derived.Test.YtflhmnfmihkbmabDoorTie
import Derived.Test.YtflhmnfmihkbmabDoorCEmptyDb0
import Derived.Test.YtflhmnfmihkbmabDoorLEmptyDb0
import Derived.Test.YtflhmnfmihkbmabDoorAbG3
import Derived.ProofKit
import Derived.OpenShut
import Derived.LaidMore
import Derived.Lay
import Derived.SevenTiedAt
namespace Go.Proofs.YtflhmnfmihkbmabDoor
open Go Go.ChangeShapes Go.WideShapes Go.ChangeAt Go.RowKit Go.Ab
theorem own_fnEmptyDb : ownKnob Tryd.prog.godebug = none := by kernel_rfl
theorem plain_fnEmptyDb : plainB Tryd.prog [5, 22] = true := by kernel_rfl
theorem params_fnEmptyDb : Tryd.f3.params.toList = [22] := by kernel_rfl
set_option maxRecDepth 100000 in
theorem fnEmptyDb_lifted (os : Os) (started : os.Started) (H : Type) (enc : TypeId × Value → H) :
    ReturnsInHanded {} Tryd.checked os 3 .any (fun w args => (Rows.fnEmptyDbSpec.pre enc Tryd.prog Tryd.f3 Rows.fnEmptyDbRow.domain false w args ∧ laidMetH Tryd.prog Rows.fnEmptyDbRow.laid w) ∧ sizedMet enc Tryd.prog Tryd.f3 (OpenSpec.ofChange Rows.fnEmptyDbSpec) false w args)
      (Rows.fnEmptyDbSpec.post enc Tryd.prog Tryd.f3 false true false false) := by
  refine handed_laid (C := Tryd.checked) (L := Rows.fnEmptyDbRow.laid) own_fnEmptyDb started (by kernel_rfl) Tryd.func3
    (ChangeSpec.witness_shaped (enc := enc) (C := Tryd.checked) (os := os) (X := fun w _ => laidMetH Tryd.prog Rows.fnEmptyDbRow.laid w) false (World.laidAll Tryd.prog os Rows.fnEmptyDbRow.laid) #[.slice none 0 0] 8 (World.laidAll_os _ _ _)
      (World.shaped_of_ZipB (by kernel_rfl) (by kernel_rfl)) (by kernel_rfl) (by kernel_rfl) (by kernel_rfl)
      (by rw [MakeChecks.laidMetH_plain _ _ _ (by kernel_rfl)]; exact laidMet_laidAll _ (by kernel_rfl) (by kernel_rfl))) ?_
  intro W base args ds gs before hval hW hL hsh
  have hl := hL
  rw [MakeChecks.laidMetH_plain _ _ _ (by kernel_rfl)] at hl
  refine law_contract plain_fnEmptyDb (plain_pos plain_fnEmptyDb) (all_in (by rw [params_fnEmptyDb]; kernel_rfl)) (tb := 4) (by kernel_rfl) (by kernel_rfl) rfl ?_ ?_ W base args ds gs before hval hW ?_
  · intro ds hlen
    rw [params_fnEmptyDb] at hlen
    match ds, hlen with
    | [d0], _ => exact ⟨rfl, rfl, rfl⟩
  · rw [params_fnEmptyDb]
    exact fun ls h1 h2 => law_wFnEmptyDb fnEmptyDb_true ls h1 h2
  · intro p hp
    rcases List.mem_cons.1 hp with rfl | hp
    · exact gv_tab (t := 113) (e := 102) (n := 20) (zs := Lib.pow10Tab) (laidMet.tail (laidMet.tail (hl))) rfl (by kernel_rfl) (by kernel_rfl) (by kernel_rfl) (by kernel_rfl) (by kernel_rfl) (by kernel_rfl)
    rcases List.mem_cons.1 hp with rfl | hp
    · exact gv_int (t := 3) (zero := #[.int .i64 0]) hsh (of_decide_eq_true (by kernel_rfl)) (by kernel_rfl) rfl (by kernel_rfl) (by kernel_rfl) (by kernel_rfl)
    exact absurd hp List.not_mem_nil
theorem fnEmptyDb_holds : Rows.FnEmptyDbSaid :=
  OpenClaim.holds_of_wide 3 Tryd.f3 rfl rfl rfl rfl rfl rfl rfl ⟨rfl, rfl, rfl, rfl, rfl⟩ rfl rfl rfl rfl rfl (by kernel_rfl) Tryd.func3 (by kernel_rfl)
    (of_decide_eq_true (by kernel_rfl)) (by unfold Func.isWrapper; first | (rw [if_pos (by decide +kernel)]; kernel_rfl) | (rw [if_neg (by decide +kernel)]; exact ⟨rfl, rfl⟩))
    (fun os started H enc _ => fnEmptyDb_lifted os started H enc)
theorem fnEmptyDbCard_holds : Rows.FnEmptyDbCardSaid :=
  Claim7.holds_tied_plain_at .later [] [.data, .data, .data, .data, .pinned] true (true, "b94e0a3904a0bd1cf86bcae68e133c6b36a80fc09cec894d375a7764df0d8fab") false fnEmptyDb_holds (fun _ h => by cases h) (by kernel_rfl) (fun _ h => by cases h) fnEmptyDb_row_tie rfl ⟨rfl, rfl⟩ (by kernel_rfl) rfl
    (fun f fn hf hfn => by
      obtain rfl : f = 3 := Option.some.inj ((show Tryd.prog.funcNamed Rows.fnEmptyDbRow.func = some 3 by kernel_rfl).symm.trans hf) |>.symm
      obtain rfl : fn = Tryd.f3 := (Option.some.inj (Tryd.func3.symm.trans hfn)).symm
      exact ⟨by kernel_rfl, fun j t ht => by
        have hm : t ∈ [22] := by rw [← params_fnEmptyDb]; exact Array.mem_toList_iff.2 (Array.mem_of_getElem? ht)
        have hall : (([22] : List Nat).all fun u => !Tryd.prog.wantsStandIn u) = true := by kernel_rfl
        exact (show Tryd.prog.wantsStandIn t = false by simpa using List.all_eq_true.1 hall t hm)⟩)
    (by kernel_rfl)
end Go.Proofs.YtflhmnfmihkbmabDoor
