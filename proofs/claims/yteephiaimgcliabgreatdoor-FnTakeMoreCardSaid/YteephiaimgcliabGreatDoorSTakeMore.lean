/- The statement of FnTakeMore,with its card. -/
import Derived.Test.YteephiaimgcliabGreatDoorCards
import Derived.Test.YteephiaimgcliabGreatDoorTie
import Derived.Test.YteephiaimgcliabGreatDoorCTakeMore1
import Derived.Test.YteephiaimgcliabGreatDoorLTakeMore0
import Derived.Test.YteephiaimgcliabGreatDoorAbG3
import Derived.ProofKit
import Derived.OpenShut
import Derived.LaidMore
import Derived.Lay
import Derived.SevenTiedAt
namespace Go.Proofs.YteephiaimgcliabGreatDoor
open Go Go.ChangeShapes Go.WideShapes Go.ChangeAt Go.RowKit Go.Ab
theorem bHz:ownKnob Tryz.prog.godebug=none:=by kernel_rfl
theorem aRw:zC Tryz.prog [5,22]=true:=by kernel_rfl
theorem aDm:Tryz.f3.params.toList=[22]:=by kernel_rfl
theorem aPw:"*"++"errors.errorString"="*errors.errorString":=by decide
theorem aUe (u:TypeId) (h:Tryz.prog.typeName? 3 u=some "*errors.errorString"):u=160 :=
  typeName_ptr_named (nm:="errors.errorString") (by rw [aPw]; kernel_rfl) (by kernel_rfl) (by decide) u (by rw [aPw]; exact h)
set_option maxRecDepth 100000 in
theorem bFw (os : Os) (started : os.Started) (H : Type) (enc : TypeId × Value → H) :
    ReturnsInHanded {} Tryz.checked os 3 .any (fun w args=>(Rows.fnTakeMoreSpec.pre enc Tryz.prog Tryz.f3 Rows.fnTakeMoreRow.domain false w args∧laidMetH Tryz.prog Rows.fnTakeMoreRow.laid w)∧sizedMet enc Tryz.prog Tryz.f3 (OpenSpec.ofChange Rows.fnTakeMoreSpec) false w args)
      (Rows.fnTakeMoreSpec.post enc Tryz.prog Tryz.f3 false true false false):=by
  refine bIk (C:=Tryz.checked) (L:=Rows.fnTakeMoreRow.laid) bHz started (by kernel_rfl) Tryz.func3
    (ChangeSpec.witness_shaped (enc:=enc) (C:=Tryz.checked) (os:=os) (X:=fun w _=>laidMetH Tryz.prog Rows.fnTakeMoreRow.laid w) false (World.laidAll Tryz.prog os Rows.fnTakeMoreRow.laid) #[.slice none 0 0] 8 (World.laidAll_os _ _ _)
      (World.shaped_of_ZipB (by kernel_rfl) (by kernel_rfl)) (by kernel_rfl) (by kernel_rfl) (by kernel_rfl)
      (by rw [MakeChecks.laidMetH_plain _ _ _ (by kernel_rfl)]; exact laidMet_laidAll _ (by kernel_rfl) (by kernel_rfl))) ?_
  intro W base args ds gs before hval hW hL hsh
  have hl:=hL
  rw [MakeChecks.laidMetH_plain _ _ _ (by kernel_rfl)] at hl
  refine bCm aRw (bAj aRw) (all_in (by rw [aDm]; kernel_rfl)) (tb:=4) (by kernel_rfl) (by kernel_rfl) rfl ?_ ?_ W base args ds gs before hval hW ?_
  · intro ds hlen
    rw [aDm] at hlen
    match ds,hlen with
    | [d0],_=>exact ⟨rfl,rfl,rfl⟩
  · rw [aDm]
    exact fun ls h1 h2=>bIo bJc ls h1 h2
  · intro p hp
    rcases List.mem_cons.1 hp with rfl | hp
    · exact bDg (t:=172) (e:=150) (n:=20) (zs:=Lib.pow10Tab) (laidMet.tail (laidMet.tail (hl))) rfl (by kernel_rfl) (by kernel_rfl) (by kernel_rfl) (by kernel_rfl) (by kernel_rfl) (by kernel_rfl)
    rcases List.mem_cons.1 hp with rfl | hp
    · exact bJ9 (t:=3) (zero:=#[.int .i64 0]) hsh (of_decide_eq_true (by kernel_rfl)) (by kernel_rfl) rfl (by kernel_rfl) (by kernel_rfl) (by kernel_rfl)
    rcases List.mem_cons.1 hp with rfl | hp
    · exact aY4 (ms:=#[("Error",113)]) (f:=⟨"s",9,0,false,"","errors",0⟩) (ti:=127) (tp:=160) (te:=162) (ts:=9) (laidMet.tail (laidMet.tail (laidMet.tail (laidMet.tail (laidMet.tail (hl)))))) (by kernel_rfl) (by kernel_rfl) (by kernel_rfl) aUe (by kernel_rfl) (by kernel_rfl) rfl rfl (by kernel_rfl) (by kernel_rfl) (by kernel_rfl)
    rcases List.mem_cons.1 hp with rfl | hp
    · exact aY4 (ms:=#[("Error",113)]) (f:=⟨"s",9,0,false,"","errors",0⟩) (ti:=127) (tp:=160) (te:=162) (ts:=9) (laidMet.tail (laidMet.tail (laidMet.tail (laidMet.tail (hl))))) (by kernel_rfl) (by kernel_rfl) (by kernel_rfl) aUe (by kernel_rfl) (by kernel_rfl) rfl rfl (by kernel_rfl) (by kernel_rfl) (by kernel_rfl)
    exact absurd hp List.not_mem_nil
theorem fnTakeMore_holds:Rows.FnTakeMoreSaid :=
  OpenClaim.holds_of_wide 3 Tryz.f3 rfl rfl rfl rfl rfl rfl rfl ⟨rfl,rfl,rfl,rfl,rfl⟩ rfl rfl rfl rfl rfl (by kernel_rfl) Tryz.func3 (by kernel_rfl)
    (of_decide_eq_true (by kernel_rfl)) (by unfold Func.isWrapper; first | (rw [if_pos (by decide +kernel)]; kernel_rfl) | (rw [if_neg (by decide +kernel)]; exact ⟨rfl,rfl⟩))
    (fun os started H enc _=>bFw os started H enc)
theorem fnTakeMoreCard_holds:Rows.FnTakeMoreCardSaid :=
  Claim7.holds_tied_plain_at .later [] [.data,.data,.data,.data,.sentinel,.sentinel,.pinned] true (true,"300a5a6854f3c0f2ed45329fe8654657f65d48e121baa4b2d29dda2b92a6ab12") true fnTakeMore_holds (fun _ h=>by cases h) (by kernel_rfl) (fun _ h=>by cases h) fnTakeMore_row_tie rfl ⟨rfl,rfl⟩ (by kernel_rfl) rfl
    (fun f fn hf hfn=>by
      obtain rfl:f=3:=Option.some.inj ((show Tryz.prog.funcNamed Rows.fnTakeMoreRow.func=some 3 by kernel_rfl).symm.trans hf) |>.symm
      obtain rfl:fn=Tryz.f3:=(Option.some.inj (Tryz.func3.symm.trans hfn)).symm
      exact ⟨by kernel_rfl,fun j t ht=>by
        have hm:t ∈ [22]:=by rw [← aDm]; exact Array.mem_toList_iff.2 (Array.mem_of_getElem? ht)
        have hall:(([22]:List Nat).all fun u=>!Tryz.prog.wantsStandIn u)=true:=by kernel_rfl
        exact (show Tryz.prog.wantsStandIn t=false by simpa using List.all_eq_true.1 hall t hm)⟩)
    (by kernel_rfl)
end Go.Proofs.YteephiaimgcliabGreatDoor
