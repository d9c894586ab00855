/- The statement of FnBound,with its card. -/
import Derived.Test.YtiofikmhbpbejabGreatDoorCards
import Derived.Test.YtiofikmhbpbejabGreatDoorTie
import Derived.Test.YtiofikmhbpbejabGreatDoorCBound2
import Derived.Test.YtiofikmhbpbejabGreatDoorLBound1
import Derived.Test.YtiofikmhbpbejabGreatDoorAbG3
import Derived.ProofKit
import Derived.OpenShut
import Derived.LaidMore
import Derived.Lay
import Derived.SevenTiedAt
namespace Go.Proofs.YtiofikmhbpbejabGreatDoor
open Go Go.ChangeShapes Go.WideShapes Go.ChangeAt Go.RowKit Go.Ab
theorem bZ9:ownKnob Tryz.prog.godebug=none:=by kernel_rfl
theorem bLj:aFt Tryz.prog [5,22]=true:=by kernel_rfl
theorem aSr:Tryz.f3.params.toList=[22]:=by kernel_rfl
set_option maxRecDepth 100000 in
theorem cE8 (os : Os) (started : os.Started) (H : Type) (enc : TypeId × Value → H) :
    ReturnsInHanded {} Tryz.checked os 3 .any (fun w args=>(Rows.fnBoundSpec.pre enc Tryz.prog Tryz.f3 Rows.fnBoundRow.domain false w args∧laidMetH Tryz.prog Rows.fnBoundRow.laid w)∧sizedMet enc Tryz.prog Tryz.f3 (OpenSpec.ofChange Rows.fnBoundSpec) false w args)
      (Rows.fnBoundSpec.post enc Tryz.prog Tryz.f3 false true false false):=by
  refine bQp (C:=Tryz.checked) (L:=Rows.fnBoundRow.laid) bZ9 started (by kernel_rfl) Tryz.func3
    (ChangeSpec.witness_shaped (enc:=enc) (C:=Tryz.checked) (os:=os) (X:=fun w _=>laidMetH Tryz.prog Rows.fnBoundRow.laid w) false (World.laidAll Tryz.prog os Rows.fnBoundRow.laid) #[.slice none 0 0] 8 (World.laidAll_os _ _ _)
      (World.shaped_of_ZipB (by kernel_rfl) (by kernel_rfl)) (by kernel_rfl) (by kernel_rfl) (by kernel_rfl)
      (by rw [MakeChecks.laidMetH_plain _ _ _ (by kernel_rfl)]; exact laidMet_laidAll _ (by kernel_rfl) (by kernel_rfl))) ?_
  intro W base args ds gs before hval hW hL hsh
  have hl:=hL
  rw [MakeChecks.laidMetH_plain _ _ _ (by kernel_rfl)] at hl
  refine cAl bLj (bWc bLj) (all_in (by rw [aSr]; kernel_rfl)) (tb:=4) (by kernel_rfl) (by kernel_rfl) rfl ?_ ?_ W base args ds gs before hval hW ?_
  · intro ds hlen
    rw [aSr] at hlen
    match ds,hlen with
    | [d0],_=>exact ⟨rfl,rfl,rfl⟩
  · rw [aSr]
    exact fun ls h1 h2=>cA7 cBr ls h1 h2
  · intro p hp
    rcases List.mem_cons.1 hp with rfl | hp
    · exact bTr (t:=237) (e:=230) (n:=20) (zs:=Lib.pow10Tab) (laidMet.tail (laidMet.tail (hl))) rfl (by kernel_rfl) (by kernel_rfl) (by kernel_rfl) (by kernel_rfl) (by kernel_rfl) (by kernel_rfl)
    exact absurd hp List.not_mem_nil
theorem fnBound_holds:Rows.FnBoundSaid :=
  OpenClaim.holds_of_wide 3 Tryz.f3 rfl rfl rfl rfl rfl rfl rfl ⟨rfl,rfl,rfl,rfl,rfl⟩ rfl rfl rfl rfl rfl (by kernel_rfl) Tryz.func3 (by kernel_rfl)
    (of_decide_eq_true (by kernel_rfl)) (by unfold Func.isWrapper; first | (rw [if_pos (by decide +kernel)]; kernel_rfl) | (rw [if_neg (by decide +kernel)]; exact ⟨rfl,rfl⟩))
    (fun os started H enc _=>cE8 os started H enc)
theorem fnBoundCard_holds:Rows.FnBoundCardSaid :=
  Claim7.holds_tied_plain_at .later [] [.data,.data,.data] true (true,"6ae6bfa8f18c15f640a4207838ba4a4903b84dfddcafcb286ce34f35cd49575c") false fnBound_holds (fun _ h=>by cases h) (by kernel_rfl) (fun _ h=>by cases h) fnBound_row_tie rfl ⟨rfl,rfl⟩ (by kernel_rfl) rfl
    (fun f fn hf hfn=>by
      obtain rfl:f=3:=Option.some.inj ((show Tryz.prog.funcNamed Rows.fnBoundRow.func=some 3 by kernel_rfl).symm.trans hf) |>.symm
      obtain rfl:fn=Tryz.f3:=(Option.some.inj (Tryz.func3.symm.trans hfn)).symm
      exact ⟨by kernel_rfl,fun j t ht=>by
        have hm:t ∈ [22]:=by rw [← aSr]; exact Array.mem_toList_iff.2 (Array.mem_of_getElem? ht)
        have hall:(([22]:List Nat).all fun u=>!Tryz.prog.wantsStandIn u)=true:=by kernel_rfl
        exact (show Tryz.prog.wantsStandIn t=false by simpa using List.all_eq_true.1 hall t hm)⟩)
    (by kernel_rfl)
end Go.Proofs.YtiofikmhbpbejabGreatDoor
