/- The statement of FnExactCountTrees,with its card. -/
import Derived.Test.YtfomfmjicgdebaaGreatDoorCards
import Derived.Test.YtfomfmjicgdebaaGreatDoorTie
import Derived.Test.YtfomfmjicgdebaaGreatDoorCExactCountTrees1
import Derived.Test.YtfomfmjicgdebaaGreatDoorLExactCountTrees0
import Derived.Test.YtfomfmjicgdebaaGreatDoorAbG3
import Derived.ProofKit
import Derived.OpenShut
import Derived.LaidMore
import Derived.Lay
import Derived.SevenTiedAt
namespace Go.Proofs.YtfomfmjicgdebaaGreatDoor
open Go Go.ChangeShapes Go.WideShapes Go.ChangeAt Go.RowKit Go.Ab
theorem aSs:ownKnob Tryz.prog.godebug=none:=by kernel_rfl
theorem aI7:vY Tryz.prog [3,9,22,31]=true:=by kernel_rfl
theorem aB4:Tryz.f3.params.toList=[22]:=by kernel_rfl
theorem aPe:"*"++"errors.errorString"="*errors.errorString":=by decide
theorem aM2 (u:TypeId) (h:Tryz.prog.typeName? 3 u=some "*errors.errorString"):u=130 :=
  typeName_ptr_named (nm:="errors.errorString") (by rw [aPe]; kernel_rfl) (by kernel_rfl) (by decide) u (by rw [aPe]; exact h)
set_option maxRecDepth 100000 in
theorem aZ7 (os : Os) (started : os.Started) (H : Type) (enc : TypeId × Value → H) :
    ReturnsInHanded {} Tryz.checked os 3 .any (fun w args=>(Rows.fnExactCountTreesSpec.pre enc Tryz.prog Tryz.f3 Rows.fnExactCountTreesRow.domain false w args∧laidMetH Tryz.prog Rows.fnExactCountTreesRow.laid w)∧sizedMet enc Tryz.prog Tryz.f3 (OpenSpec.ofChange Rows.fnExactCountTreesSpec) false w args)
      (Rows.fnExactCountTreesSpec.post enc Tryz.prog Tryz.f3 false true false false):=by
  refine bId (C:=Tryz.checked) (L:=Rows.fnExactCountTreesRow.laid) aSs started (by kernel_rfl) Tryz.func3
    (ChangeSpec.witness_shaped (enc:=enc) (C:=Tryz.checked) (os:=os) (X:=fun w _=>laidMetH Tryz.prog Rows.fnExactCountTreesRow.laid w) false (World.laidAll Tryz.prog os Rows.fnExactCountTreesRow.laid) #[.slice none 0 0] 8 (World.laidAll_os _ _ _)
      (World.shaped_of_ZipB (by kernel_rfl) (by kernel_rfl)) (by kernel_rfl) (by kernel_rfl) (by kernel_rfl)
      (by rw [MakeChecks.laidMetH_plain _ _ _ (by kernel_rfl)]; exact laidMet_laidAll _ (by kernel_rfl) (by kernel_rfl))) ?_
  intro W base args ds gs before hval hW hL hsh
  have hl:=hL
  rw [MakeChecks.laidMetH_plain _ _ _ (by kernel_rfl)] at hl
  refine aW7 aI7 (aTy aI7) (all_in (by rw [aB4]; kernel_rfl)) (tb:=4) (by kernel_rfl) (by kernel_rfl) rfl ?_ ?_ W base args ds gs before hval hW ?_
  · intro ds hlen
    rw [aB4] at hlen
    match ds,hlen with
    | [d0],_=>exact ⟨rfl,rfl,rfl⟩
  · rw [aB4]
    exact fun ls h1 h2=>bEf bE3 ls h1 h2
  · intro p hp
    rcases List.mem_cons.1 hp with rfl | hp
    · exact bA4 (t:=142) (e:=119) (n:=20) (zs:=Lib.pow10Tab) (laidMet.tail (laidMet.tail (hl))) rfl (by kernel_rfl) (by kernel_rfl) (by kernel_rfl) (by kernel_rfl) (by kernel_rfl) (by kernel_rfl)
    rcases List.mem_cons.1 hp with rfl | hp
    · exact aVd (t:=3) (zero:=#[.int .i64 0]) hsh (of_decide_eq_true (by kernel_rfl)) (by kernel_rfl) rfl (by kernel_rfl) (by kernel_rfl) (by kernel_rfl)
    rcases List.mem_cons.1 hp with rfl | hp
    · exact aIp (ms:=#[("Error",97)]) (f:=⟨"s",9,0,false,"","errors",0⟩) (ti:=102) (tp:=130) (te:=132) (ts:=9) (laidMet.tail (laidMet.tail (laidMet.tail (laidMet.tail (laidMet.tail (hl)))))) (by kernel_rfl) (by kernel_rfl) (by kernel_rfl) aM2 (by kernel_rfl) (by kernel_rfl) rfl rfl (by kernel_rfl) (by kernel_rfl) (by kernel_rfl)
    rcases List.mem_cons.1 hp with rfl | hp
    · exact aIp (ms:=#[("Error",97)]) (f:=⟨"s",9,0,false,"","errors",0⟩) (ti:=102) (tp:=130) (te:=132) (ts:=9) (laidMet.tail (laidMet.tail (laidMet.tail (laidMet.tail (hl))))) (by kernel_rfl) (by kernel_rfl) (by kernel_rfl) aM2 (by kernel_rfl) (by kernel_rfl) rfl rfl (by kernel_rfl) (by kernel_rfl) (by kernel_rfl)
    exact absurd hp List.not_mem_nil
theorem fnExactCountTrees_holds:Rows.FnExactCountTreesSaid :=
  OpenClaim.holds_of_wide 3 Tryz.f3 rfl rfl rfl rfl rfl rfl rfl ⟨rfl,rfl,rfl,rfl,rfl⟩ rfl rfl rfl rfl rfl (by kernel_rfl) Tryz.func3 (by kernel_rfl)
    (of_decide_eq_true (by kernel_rfl)) (by unfold Func.isWrapper; first | (rw [if_pos (by decide +kernel)]; kernel_rfl) | (rw [if_neg (by decide +kernel)]; exact ⟨rfl,rfl⟩))
    (fun os started H enc _=>aZ7 os started H enc)
theorem fnExactCountTreesCard_holds:Rows.FnExactCountTreesCardSaid :=
  Claim7.holds_tied_plain_at .later [] [.data,.data,.data,.data,.sentinel,.sentinel,.pinned] true (true,"ea21bf170f407ebbe8e781abed7d55926cccbb71ef8fb55d42ba9b7caa3f6b02") true fnExactCountTrees_holds (fun _ h=>by cases h) (by kernel_rfl) (fun _ h=>by cases h) fnExactCountTrees_row_tie rfl ⟨rfl,rfl⟩ (by kernel_rfl) rfl
    (fun f fn hf hfn=>by
      obtain rfl:f=3:=Option.some.inj ((show Tryz.prog.funcNamed Rows.fnExactCountTreesRow.func=some 3 by kernel_rfl).symm.trans hf) |>.symm
      obtain rfl:fn=Tryz.f3:=(Option.some.inj (Tryz.func3.symm.trans hfn)).symm
      exact ⟨by kernel_rfl,fun j t ht=>by
        have hm:t ∈ [22]:=by rw [← aB4]; exact Array.mem_toList_iff.2 (Array.mem_of_getElem? ht)
        have hall:(([22]:List Nat).all fun u=>!Tryz.prog.wantsStandIn u)=true:=by kernel_rfl
        exact (show Tryz.prog.wantsStandIn t=false by simpa using List.all_eq_true.1 hall t hm)⟩)
    (by kernel_rfl)
end Go.Proofs.YtfomfmjicgdebaaGreatDoor
