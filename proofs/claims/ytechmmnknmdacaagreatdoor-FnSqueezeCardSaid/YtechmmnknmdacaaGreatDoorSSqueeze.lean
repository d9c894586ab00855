/- The statement of FnSqueeze, with its card. -/
import Derived.Test.YtechmmnknmdacaaGreatDoorCards
import Derived.Test.YtechmmnknmdacaaGreatDoorTie
import Derived.Test.YtechmmnknmdacaaGreatDoorCSqueeze1
import Derived.Test.YtechmmnknmdacaaGreatDoorLSqueeze0
import Derived.Test.YtechmmnknmdacaaGreatDoorAbG3
import Derived.ProofKit
import Derived.OpenShut
import Derived.LaidMore
import Derived.Lay
import Derived.SevenTiedAt
namespace Go.Proofs.YtechmmnknmdacaaGreatDoor
open Go Go.ChangeShapes Go.WideShapes Go.ChangeAt Go.RowKit Go.Ab
theorem own_fnSqueeze : ownKnob Tryz.prog.godebug = none := by kernel_rfl
theorem plain_fnSqueeze : plainB Tryz.prog [5, 29] = true := by kernel_rfl
theorem params_fnSqueeze : Tryz.f8.params.toList = [29] := by kernel_rfl
theorem errStar : "*" ++ "errors.errorString" = "*errors.errorString" := by decide
theorem errRow (u : TypeId) (h : Tryz.prog.typeName? 3 u = some "*errors.errorString") : u = 175 :=
  typeName_ptr_named (nm := "errors.errorString") (by rw [errStar]; kernel_rfl) (by kernel_rfl) (by decide) u (by rw [errStar]; exact h)
set_option maxRecDepth 100000 in
theorem fnSqueeze_lifted (os : Os) (started : os.Started) (H : Type) (enc : TypeId × Value → H) :
    ReturnsInHanded {} Tryz.checked os 8 .any (fun w args => (Rows.fnSqueezeSpec.pre enc Tryz.prog Tryz.f8 Rows.fnSqueezeRow.domain false w args ∧ laidMetH Tryz.prog Rows.fnSqueezeRow.laid w) ∧ sizedMet enc Tryz.prog Tryz.f8 (OpenSpec.ofChange Rows.fnSqueezeSpec) false w args)
      (Rows.fnSqueezeSpec.post enc Tryz.prog Tryz.f8 false true false false) := by
  refine handed_laid (C := Tryz.checked) (L := Rows.fnSqueezeRow.laid) own_fnSqueeze started (by kernel_rfl) Tryz.func8
    (ChangeSpec.witness_shaped (enc := enc) (C := Tryz.checked) (os := os) (X := fun w _ => laidMetH Tryz.prog Rows.fnSqueezeRow.laid w) false (World.laidAll Tryz.prog os Rows.fnSqueezeRow.laid) #[.slice none 0 0] 8 (World.laidAll_os _ _ _)
      (World.shaped_of_ZipB (by kernel_rfl) (by kernel_rfl)) (by kernel_rfl) (by kernel_rfl) (by kernel_rfl)
      (by rw [MakeChecks.laidMetH_plain _ _ _ (by kernel_rfl)]; exact laidMet_laidAll _ (by kernel_rfl) (by kernel_rfl))) ?_
  intro W base args ds gs before hval hW hL hsh
  have hl := hL
  rw [MakeChecks.laidMetH_plain _ _ _ (by kernel_rfl)] at hl
  refine law_contract plain_fnSqueeze (plain_pos plain_fnSqueeze) (all_in (by rw [params_fnSqueeze]; kernel_rfl)) (tb := 4) (by kernel_rfl) (by kernel_rfl) rfl ?_ ?_ W base args ds gs before hval hW ?_
  · intro ds hlen
    rw [params_fnSqueeze] at hlen
    match ds, hlen with
    | [d0], _ => exact ⟨rfl, rfl, rfl⟩
  · rw [params_fnSqueeze]
    exact fun ls h1 h2 => law_wFnSqueeze fnSqueeze_true ls h1 h2
  · intro p hp
    rcases List.mem_cons.1 hp with rfl | hp
    · exact gv_tab (t := 184) (e := 165) (n := 20) (zs := Lib.pow10Tab) (laidMet.tail (laidMet.tail (hl))) rfl (by kernel_rfl) (by kernel_rfl) (by kernel_rfl) (by kernel_rfl) (by kernel_rfl) (by kernel_rfl)
    rcases List.mem_cons.1 hp with rfl | hp
    · exact gv_int (t := 3) (zero := #[.int .i64 0]) hsh (of_decide_eq_true (by kernel_rfl)) (by kernel_rfl) rfl (by kernel_rfl) (by kernel_rfl) (by kernel_rfl)
    rcases List.mem_cons.1 hp with rfl | hp
    · exact gv_iface (ms := #[("Error", 80)]) (f := ⟨"s", 9, 0, false, "", "errors", 0⟩) (ti := 76) (tp := 175) (te := 177) (ts := 9) (laidMet.tail (laidMet.tail (laidMet.tail (laidMet.tail (laidMet.tail (hl)))))) (by kernel_rfl) (by kernel_rfl) (by kernel_rfl) errRow (by kernel_rfl) (by kernel_rfl) rfl rfl (by kernel_rfl) (by kernel_rfl) (by kernel_rfl)
    rcases List.mem_cons.1 hp with rfl | hp
    · exact gv_iface (ms := #[("Error", 80)]) (f := ⟨"s", 9, 0, false, "", "errors", 0⟩) (ti := 76) (tp := 175) (te := 177) (ts := 9) (laidMet.tail (laidMet.tail (laidMet.tail (laidMet.tail (hl))))) (by kernel_rfl) (by kernel_rfl) (by kernel_rfl) errRow (by kernel_rfl) (by kernel_rfl) rfl rfl (by kernel_rfl) (by kernel_rfl) (by kernel_rfl)
    exact absurd hp List.not_mem_nil
theorem fnSqueeze_holds : Rows.FnSqueezeSaid :=
  OpenClaim.holds_of_wide 8 Tryz.f8 rfl rfl rfl rfl rfl rfl rfl ⟨rfl, rfl, rfl, rfl, rfl⟩ rfl rfl rfl rfl rfl (by kernel_rfl) Tryz.func8 (by kernel_rfl)
    (of_decide_eq_true (by kernel_rfl)) (by unfold Func.isWrapper; first | (rw [if_pos (by decide +kernel)]; kernel_rfl) | (rw [if_neg (by decide +kernel)]; exact ⟨rfl, rfl⟩))
    (fun os started H enc _ => fnSqueeze_lifted os started H enc)
theorem fnSqueezeCard_holds : Rows.FnSqueezeCardSaid :=
  Claim7.holds_tied_plain_at .later [] [.data, .data, .data, .data, .sentinel, .sentinel, .pinned] true (true, "7499a38d931708a2403f24b81549c5f9cab74e57f4b3cdc8feefe1d4e1f1badd") true fnSqueeze_holds (fun _ h => by cases h) (by kernel_rfl) (fun _ h => by cases h) fnSqueeze_row_tie rfl ⟨rfl, rfl⟩ (by kernel_rfl) rfl
    (fun f fn hf hfn => by
      obtain rfl : f = 8 := Option.some.inj ((show Tryz.prog.funcNamed Rows.fnSqueezeRow.func = some 8 by kernel_rfl).symm.trans hf) |>.symm
      obtain rfl : fn = Tryz.f8 := (Option.some.inj (Tryz.func8.symm.trans hfn)).symm
      exact ⟨by kernel_rfl, fun j t ht => by
        have hm : t ∈ [29] := by rw [← params_fnSqueeze]; exact Array.mem_toList_iff.2 (Array.mem_of_getElem? ht)
        have hall : (([29] : List Nat).all fun u => !Tryz.prog.wantsStandIn u) = true := by kernel_rfl
        exact (show Tryz.prog.wantsStandIn t = false by simpa using List.all_eq_true.1 hall t hm)⟩)
    (by kernel_rfl)
end Go.Proofs.YtechmmnknmdacaaGreatDoor
