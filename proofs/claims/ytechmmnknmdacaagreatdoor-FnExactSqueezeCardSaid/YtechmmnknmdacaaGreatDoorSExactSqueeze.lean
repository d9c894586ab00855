/- The statement of FnExactSqueeze, with its card. -/
import Derived.Test.YtechmmnknmdacaaGreatDoorCards
import Derived.Test.YtechmmnknmdacaaGreatDoorTie
import Derived.Test.YtechmmnknmdacaaGreatDoorCExactSqueeze1
import Derived.Test.YtechmmnknmdacaaGreatDoorLExactSqueeze0
import Derived.Test.YtechmmnknmdacaaGreatDoorAbG3
import Derived.ProofKit
import Derived.OpenShut
import Derived.LaidMore
import Derived.Lay
import Derived.SevenTiedAt
namespace Go.Proofs.YtechmmnknmdacaaGreatDoor
open Go Go.ChangeShapes Go.WideShapes Go.ChangeAt Go.RowKit Go.Ab
theorem own_fnExactSqueeze : ownKnob Tryz.prog.godebug = none := by kernel_rfl
theorem plain_fnExactSqueeze : plainB Tryz.prog [9] = true := by kernel_rfl
theorem params_fnExactSqueeze : Tryz.f6.params.toList = [9] := by kernel_rfl
theorem errStar : "*" ++ "errors.errorString" = "*errors.errorString" := by decide
theorem errRow (u : TypeId) (h : Tryz.prog.typeName? 3 u = some "*errors.errorString") : u = 175 :=
  typeName_ptr_named (nm := "errors.errorString") (by rw [errStar]; kernel_rfl) (by kernel_rfl) (by decide) u (by rw [errStar]; exact h)
set_option maxRecDepth 100000 in
theorem fnExactSqueeze_lifted (os : Os) (started : os.Started) (H : Type) (enc : TypeId × Value → H) :
    ReturnsInHanded {} Tryz.checked os 6 .any (fun w args => (Rows.fnExactSqueezeSpec.pre enc Tryz.prog Tryz.f6 Rows.fnExactSqueezeRow.domain false w args ∧ laidMetH Tryz.prog Rows.fnExactSqueezeRow.laid w) ∧ sizedMet enc Tryz.prog Tryz.f6 (OpenSpec.ofChange Rows.fnExactSqueezeSpec) false w args)
      (Rows.fnExactSqueezeSpec.post enc Tryz.prog Tryz.f6 false true false false) := by
  refine handed_laid (C := Tryz.checked) (L := Rows.fnExactSqueezeRow.laid) own_fnExactSqueeze started (by kernel_rfl) Tryz.func6
    (ChangeSpec.witness_shaped (enc := enc) (C := Tryz.checked) (os := os) (X := fun w _ => laidMetH Tryz.prog Rows.fnExactSqueezeRow.laid w) false (World.laidAll Tryz.prog os Rows.fnExactSqueezeRow.laid) #[.string ⟨#[]⟩] 8 (World.laidAll_os _ _ _)
      (World.shaped_of_ZipB (by kernel_rfl) (by kernel_rfl)) (by kernel_rfl) (by kernel_rfl) (by kernel_rfl)
      (by rw [MakeChecks.laidMetH_plain _ _ _ (by kernel_rfl)]; exact laidMet_laidAll _ (by kernel_rfl) (by kernel_rfl))) ?_
  intro W base args ds gs before hval hW hL hsh
  have hl := hL
  rw [MakeChecks.laidMetH_plain _ _ _ (by kernel_rfl)] at hl
  refine law_contract plain_fnExactSqueeze (plain_pos plain_fnExactSqueeze) (all_in (by rw [params_fnExactSqueeze]; kernel_rfl)) (tb := 4) (by kernel_rfl) (by kernel_rfl) rfl ?_ ?_ W base args ds gs before hval hW ?_
  · intro ds hlen
    rw [params_fnExactSqueeze] at hlen
    match ds, hlen with
    | [d0], _ => exact ⟨rfl, rfl, rfl⟩
  · rw [params_fnExactSqueeze]
    exact fun ls h1 h2 => law_wFnExactSqueeze fnExactSqueeze_true ls h1 h2
  · intro p hp
    rcases List.mem_cons.1 hp with rfl | hp
    · exact gv_tab (t := 184) (e := 165) (n := 20) (zs := Lib.pow10Tab) (laidMet.tail (laidMet.tail (hl))) rfl (by kernel_rfl) (by kernel_rfl) (by kernel_rfl) (by kernel_rfl) (by kernel_rfl) (by kernel_rfl)
    rcases List.mem_cons.1 hp with rfl | hp
    · exact gv_int (t := 3) (zero := #[.int .i64 0]) hsh (of_decide_eq_true (by kernel_rfl)) (by kernel_rfl) rfl (by kernel_rfl) (by kernel_rfl) (by kernel_rfl)
    rcases List.mem_cons.1 hp with rfl | hp
    · exact gv_iface (ms := #[("Error", 80)]) (f := ⟨"s", 9, 0, false, "", "errors", 0⟩) (ti := 76) (tp := 175) (te := 177) (ts := 9) (laidMet.tail (laidMet.tail (laidMet.tail (laidMet.tail (laidMet.tail (hl)))))) (by kernel_rfl) (by kernel_rfl) (by kernel_rfl) errRow (by kernel_rfl) (by kernel_rfl) rfl rfl (by kernel_rfl) (by kernel_rfl) (by kernel_rfl)
    rcases List.mem_cons.1 hp with rfl | hp
    · exact gv_iface (ms := #[("Error", 80)]) (f := ⟨"s", 9, 0, false, "", "errors", 0⟩) (ti := 76) (tp := 175) (te := 177) (ts := 9) (laidMet.tail (laidMet.tail (laidMet.tail (laidMet.tail (hl))))) (by kernel_rfl) (by kernel_rfl) (by kernel_rfl) errRow (by kernel_rfl) (by kernel_rfl) rfl rfl (by kernel_rfl) (by kernel_rfl) (by kernel_rfl)
    exact absurd hp List.not_mem_nil
theorem fnExactSqueeze_holds : Rows.FnExactSqueezeSaid :=
  OpenClaim.holds_of_wide 6 Tryz.f6 rfl rfl rfl rfl rfl rfl rfl ⟨rfl, rfl, rfl, rfl, rfl⟩ rfl rfl rfl rfl rfl (by kernel_rfl) Tryz.func6 (by kernel_rfl)
    (of_decide_eq_true (by kernel_rfl)) (by unfold Func.isWrapper; first | (rw [if_pos (by decide +kernel)]; kernel_rfl) | (rw [if_neg (by decide +kernel)]; exact ⟨rfl, rfl⟩))
    (fun os started H enc _ => fnExactSqueeze_lifted os started H enc)
theorem fnExactSqueezeCard_holds : Rows.FnExactSqueezeCardSaid :=
  Claim7.holds_tied_plain_at .later [] [.data, .data, .data, .data, .sentinel, .sentinel, .pinned] true (true, "7499a38d931708a2403f24b81549c5f9cab74e57f4b3cdc8feefe1d4e1f1badd") true fnExactSqueeze_holds (fun _ h => by cases h) (by kernel_rfl) (fun _ h => by cases h) fnExactSqueeze_row_tie rfl ⟨rfl, rfl⟩ (by kernel_rfl) rfl
    (fun f fn hf hfn => by
      obtain rfl : f = 6 := Option.some.inj ((show Tryz.prog.funcNamed Rows.fnExactSqueezeRow.func = some 6 by kernel_rfl).symm.trans hf) |>.symm
      obtain rfl : fn = Tryz.f6 := (Option.some.inj (Tryz.func6.symm.trans hfn)).symm
      exact ⟨by kernel_rfl, fun j t ht => by
        have hm : t ∈ [9] := by rw [← params_fnExactSqueeze]; exact Array.mem_toList_iff.2 (Array.mem_of_getElem? ht)
        have hall : (([9] : List Nat).all fun u => !Tryz.prog.wantsStandIn u) = true := by kernel_rfl
        exact (show Tryz.prog.wantsStandIn t = false by simpa using List.all_eq_true.1 hall t hm)⟩)
    (by kernel_rfl)
end Go.Proofs.YtechmmnknmdacaaGreatDoor
