/- The statement of FnUndo,with its card. -/
import Derived.Test.YtiofikmhbpbejaaGreatDoorCards
import Derived.Test.YtiofikmhbpbejaaGreatDoorTie
import Derived.Test.YtiofikmhbpbejaaGreatDoorCUndo2
import Derived.Test.YtiofikmhbpbejaaGreatDoorLUndo1
import Derived.Test.YtiofikmhbpbejaaGreatDoorAbG3
import Derived.ProofKit
import Derived.OpenShut
import Derived.LaidMore
import Derived.Lay
import Derived.SevenTiedAt
namespace Go.Proofs.YtiofikmhbpbejaaGreatDoor
open Go Go.ChangeShapes Go.WideShapes Go.ChangeAt Go.RowKit Go.Ab
theorem cBm:ownKnob Tryz.prog.godebug=none:=by kernel_rfl
theorem bE0:aDp Tryz.prog [5,22]=true:=by kernel_rfl
theorem aRh:Tryz.f3.params.toList=[22]:=by kernel_rfl
set_option maxRecDepth 100000 in
theorem bWf (os : Os) (started : os.Started) (H : Type) (enc : TypeId × Value → H) :
    ReturnsInHanded {} Tryz.checked os 3 .any (fun w args=>(Rows.fnUndoSpec.pre enc Tryz.prog Tryz.f3 Rows.fnUndoRow.domain false w args∧laidMetH Tryz.prog Rows.fnUndoRow.laid w)∧sizedMet enc Tryz.prog Tryz.f3 (OpenSpec.ofChange Rows.fnUndoSpec) false w args)
      (Rows.fnUndoSpec.post enc Tryz.prog Tryz.f3 false true false false):=by
  refine cCx (C:=Tryz.checked) (L:=Rows.fnUndoRow.laid) cBm started (by kernel_rfl) Tryz.func3
    (ChangeSpec.witness_shaped (enc:=enc) (C:=Tryz.checked) (os:=os) (X:=fun w _=>laidMetH Tryz.prog Rows.fnUndoRow.laid w) false (World.laidAll Tryz.prog os Rows.fnUndoRow.laid) #[.slice none 0 0] 8 (World.laidAll_os _ _ _)
      (World.shaped_of_ZipB (by kernel_rfl) (by kernel_rfl)) (by kernel_rfl) (by kernel_rfl) (by kernel_rfl)
      (by rw [MakeChecks.laidMetH_plain _ _ _ (by kernel_rfl)]; exact laidMet_laidAll _ (by kernel_rfl) (by kernel_rfl))) ?_
  intro W base args ds gs before hval hW hL hsh
  have hl:=hL
  rw [MakeChecks.laidMetH_plain _ _ _ (by kernel_rfl)] at hl
  refine bO5 bE0 (cDn bE0) (all_in (by rw [aRh]; kernel_rfl)) (tb:=4) (by kernel_rfl) (by kernel_rfl) rfl ?_ ?_ W base args ds gs before hval hW ?_
  · intro ds hlen
    rw [aRh] at hlen
    match ds,hlen with
    | [d0],_=>exact ⟨rfl,rfl,rfl⟩
  · rw [aRh]
    exact fun ls h1 h2=>bYv bO2 ls h1 h2
  · intro p hp
    rcases List.mem_cons.1 hp with rfl | hp
    · exact bXk (t:=234) (e:=227) (n:=20) (zs:=Lib.pow10Tab) (laidMet.tail (laidMet.tail (hl))) rfl (by kernel_rfl) (by kernel_rfl) (by kernel_rfl) (by kernel_rfl) (by kernel_rfl) (by kernel_rfl)
    exact absurd hp List.not_mem_nil
theorem fnUndo_holds:Rows.FnUndoSaid :=
  OpenClaim.holds_of_wide 3 Tryz.f3 rfl rfl rfl rfl rfl rfl rfl ⟨rfl,rfl,rfl,rfl,rfl⟩ rfl rfl rfl rfl rfl (by kernel_rfl) Tryz.func3 (by kernel_rfl)
    (of_decide_eq_true (by kernel_rfl)) (by unfold Func.isWrapper; first | (rw [if_pos (by decide +kernel)]; kernel_rfl) | (rw [if_neg (by decide +kernel)]; exact ⟨rfl,rfl⟩))
    (fun os started H enc _=>bWf os started H enc)
theorem fnUndoCard_holds:Rows.FnUndoCardSaid :=
  Claim7.holds_tied_plain_at .later [] [.data,.data,.data] true (true,"47b0061eb97b47f0a58663ac56dcbd3bb416a4b8132a00024bde0839728b273d") false fnUndo_holds (fun _ h=>by cases h) (by kernel_rfl) (fun _ h=>by cases h) fnUndo_row_tie rfl ⟨rfl,rfl⟩ (by kernel_rfl) rfl
    (fun f fn hf hfn=>by
      obtain rfl:f=3:=Option.some.inj ((show Tryz.prog.funcNamed Rows.fnUndoRow.func=some 3 by kernel_rfl).symm.trans hf) |>.symm
      obtain rfl:fn=Tryz.f3:=(Option.some.inj (Tryz.func3.symm.trans hfn)).symm
      exact ⟨by kernel_rfl,fun j t ht=>by
        have hm:t ∈ [22]:=by rw [← aRh]; exact Array.mem_toList_iff.2 (Array.mem_of_getElem? ht)
        have hall:(([22]:List Nat).all fun u=>!Tryz.prog.wantsStandIn u)=true:=by kernel_rfl
        exact (show Tryz.prog.wantsStandIn t=false by simpa using List.all_eq_true.1 hall t hm)⟩)
    (by kernel_rfl)
end Go.Proofs.YtiofikmhbpbejaaGreatDoor
