/- The statement of FnTakePlace,with its card. -/
import Derived.Test.YteephiaimgcliaaGreatDoorCards
import Derived.Test.YteephiaimgcliaaGreatDoorTie
import Derived.Test.YteephiaimgcliaaGreatDoorCTakePlace1
import Derived.Test.YteephiaimgcliaaGreatDoorLTakePlace0
import Derived.Test.YteephiaimgcliaaGreatDoorAbG3
import Derived.ProofKit
import Derived.OpenShut
import Derived.LaidMore
import Derived.Lay
import Derived.SevenTiedAt
namespace Go.Proofs.YteephiaimgcliaaGreatDoor
open Go Go.ChangeShapes Go.WideShapes Go.ChangeAt Go.RowKit Go.Ab
theorem bE9:ownKnob Tryz.prog.godebug=none:=by kernel_rfl
theorem aQn:J9 Tryz.prog [5,22]=true:=by kernel_rfl
theorem aGl:Tryz.f3.params.toList=[22]:=by kernel_rfl
theorem aW4:"*"++"errors.errorString"="*errors.errorString":=by decide
theorem aVb (u:TypeId) (h:Tryz.prog.typeName? 3 u=some "*errors.errorString"):u=161 :=
  typeName_ptr_named (nm:="errors.errorString") (by rw [aW4]; kernel_rfl) (by kernel_rfl) (by decide) u (by rw [aW4]; exact h)
set_option maxRecDepth 100000 in
theorem bIe (os : Os) (started : os.Started) (H : Type) (enc : TypeId × Value → H) :
    ReturnsInHanded {} Tryz.checked os 3 .any (fun w args=>(Rows.fnTakePlaceSpec.pre enc Tryz.prog Tryz.f3 Rows.fnTakePlaceRow.domain false w args∧laidMetH Tryz.prog Rows.fnTakePlaceRow.laid w)∧sizedMet enc Tryz.prog Tryz.f3 (OpenSpec.ofChange Rows.fnTakePlaceSpec) false w args)
      (Rows.fnTakePlaceSpec.post enc Tryz.prog Tryz.f3 false true false false):=by
  refine bDg (C:=Tryz.checked) (L:=Rows.fnTakePlaceRow.laid) bE9 started (by kernel_rfl) Tryz.func3
    (ChangeSpec.witness_shaped (enc:=enc) (C:=Tryz.checked) (os:=os) (X:=fun w _=>laidMetH Tryz.prog Rows.fnTakePlaceRow.laid w) false (World.laidAll Tryz.prog os Rows.fnTakePlaceRow.laid) #[.slice none 0 0] 8 (World.laidAll_os _ _ _)
      (World.shaped_of_ZipB (by kernel_rfl) (by kernel_rfl)) (by kernel_rfl) (by kernel_rfl) (by kernel_rfl)
      (by rw [MakeChecks.laidMetH_plain _ _ _ (by kernel_rfl)]; exact laidMet_laidAll _ (by kernel_rfl) (by kernel_rfl))) ?_
  intro W base args ds gs before hval hW hL hsh
  have hl:=hL
  rw [MakeChecks.laidMetH_plain _ _ _ (by kernel_rfl)] at hl
  refine bH1 aQn (bBb aQn) (all_in (by rw [aGl]; kernel_rfl)) (tb:=4) (by kernel_rfl) (by kernel_rfl) rfl ?_ ?_ W base args ds gs before hval hW ?_
  · intro ds hlen
    rw [aGl] at hlen
    match ds,hlen with
    | [d0],_=>exact ⟨rfl,rfl,rfl⟩
  · rw [aGl]
    exact fun ls h1 h2=>bIp bIn ls h1 h2
  · intro p hp
    rcases List.mem_cons.1 hp with rfl | hp
    · exact bB8 (t:=173) (e:=151) (n:=20) (zs:=Lib.pow10Tab) (laidMet.tail (laidMet.tail (hl))) rfl (by kernel_rfl) (by kernel_rfl) (by kernel_rfl) (by kernel_rfl) (by kernel_rfl) (by kernel_rfl)
    rcases List.mem_cons.1 hp with rfl | hp
    · exact bRm (t:=3) (zero:=#[.int .i64 0]) hsh (of_decide_eq_true (by kernel_rfl)) (by kernel_rfl) rfl (by kernel_rfl) (by kernel_rfl) (by kernel_rfl)
    rcases List.mem_cons.1 hp with rfl | hp
    · exact aRf (ms:=#[("Error",134)]) (f:=⟨"s",9,0,false,"","errors",0⟩) (ti:=137) (tp:=161) (te:=163) (ts:=9) (laidMet.tail (laidMet.tail (laidMet.tail (laidMet.tail (laidMet.tail (hl)))))) (by kernel_rfl) (by kernel_rfl) (by kernel_rfl) aVb (by kernel_rfl) (by kernel_rfl) rfl rfl (by kernel_rfl) (by kernel_rfl) (by kernel_rfl)
    rcases List.mem_cons.1 hp with rfl | hp
    · exact aRf (ms:=#[("Error",134)]) (f:=⟨"s",9,0,false,"","errors",0⟩) (ti:=137) (tp:=161) (te:=163) (ts:=9) (laidMet.tail (laidMet.tail (laidMet.tail (laidMet.tail (hl))))) (by kernel_rfl) (by kernel_rfl) (by kernel_rfl) aVb (by kernel_rfl) (by kernel_rfl) rfl rfl (by kernel_rfl) (by kernel_rfl) (by kernel_rfl)
    exact absurd hp List.not_mem_nil
theorem fnTakePlace_holds:Rows.FnTakePlaceSaid :=
  OpenClaim.holds_of_wide 3 Tryz.f3 rfl rfl rfl rfl rfl rfl rfl ⟨rfl,rfl,rfl,rfl,rfl⟩ rfl rfl rfl rfl rfl (by kernel_rfl) Tryz.func3 (by kernel_rfl)
    (of_decide_eq_true (by kernel_rfl)) (by unfold Func.isWrapper; first | (rw [if_pos (by decide +kernel)]; kernel_rfl) | (rw [if_neg (by decide +kernel)]; exact ⟨rfl,rfl⟩))
    (fun os started H enc _=>bIe os started H enc)
theorem fnTakePlaceCard_holds:Rows.FnTakePlaceCardSaid :=
  Claim7.holds_tied_plain_at .later [] [.data,.data,.data,.data,.sentinel,.sentinel,.pinned] true (true,"3aa0b0889aa4a2a59247928b2b7a1fbaca8cae54c94650ac9a67628bf29ded2e") true fnTakePlace_holds (fun _ h=>by cases h) (by kernel_rfl) (fun _ h=>by cases h) fnTakePlace_row_tie rfl ⟨rfl,rfl⟩ (by kernel_rfl) rfl
    (fun f fn hf hfn=>by
      obtain rfl:f=3:=Option.some.inj ((show Tryz.prog.funcNamed Rows.fnTakePlaceRow.func=some 3 by kernel_rfl).symm.trans hf) |>.symm
      obtain rfl:fn=Tryz.f3:=(Option.some.inj (Tryz.func3.symm.trans hfn)).symm
      exact ⟨by kernel_rfl,fun j t ht=>by
        have hm:t ∈ [22]:=by rw [← aGl]; exact Array.mem_toList_iff.2 (Array.mem_of_getElem? ht)
        have hall:(([22]:List Nat).all fun u=>!Tryz.prog.wantsStandIn u)=true:=by kernel_rfl
        exact (show Tryz.prog.wantsStandIn t=false by simpa using List.all_eq_true.1 hall t hm)⟩)
    (by kernel_rfl)
end Go.Proofs.YteephiaimgcliaaGreatDoor
