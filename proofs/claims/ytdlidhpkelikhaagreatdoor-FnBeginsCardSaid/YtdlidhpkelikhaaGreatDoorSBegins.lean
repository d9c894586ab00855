/- The statement of FnBegins,with its card. -/
import Derived.Test.YtdlidhpkelikhaaGreatDoorCards
import Derived.Test.YtdlidhpkelikhaaGreatDoorTie
import Derived.Test.YtdlidhpkelikhaaGreatDoorCBegins1
import Derived.Test.YtdlidhpkelikhaaGreatDoorLBegins0
import Derived.Test.YtdlidhpkelikhaaGreatDoorAbG3
import Derived.ProofKit
import Derived.OpenShut
import Derived.LaidMore
import Derived.Lay
import Derived.SevenTiedAt
namespace Go.Proofs.YtdlidhpkelikhaaGreatDoor
open Go Go.ChangeShapes Go.WideShapes Go.ChangeAt Go.RowKit Go.Ab
theorem aZ2:ownKnob Tryz.prog.godebug=none:=by kernel_rfl
theorem aR9:zP Tryz.prog [5,22]=true:=by kernel_rfl
theorem aFn:Tryz.f3.params.toList=[22]:=by kernel_rfl
theorem aQ8:"*"++"errors.errorString"="*errors.errorString":=by decide
theorem aVm (u:TypeId) (h:Tryz.prog.typeName? 3 u=some "*errors.errorString"):u=161 :=
  typeName_ptr_named (nm:="errors.errorString") (by rw [aQ8]; kernel_rfl) (by kernel_rfl) (by decide) u (by rw [aQ8]; exact h)
set_option maxRecDepth 100000 in
theorem bId (os : Os) (started : os.Started) (H : Type) (enc : TypeId × Value → H) :
    ReturnsInHanded {} Tryz.checked os 3 .any (fun w args=>(Rows.fnBeginsSpec.pre enc Tryz.prog Tryz.f3 Rows.fnBeginsRow.domain false w args∧laidMetH Tryz.prog Rows.fnBeginsRow.laid w)∧sizedMet enc Tryz.prog Tryz.f3 (OpenSpec.ofChange Rows.fnBeginsSpec) false w args)
      (Rows.fnBeginsSpec.post enc Tryz.prog Tryz.f3 false true false false):=by
  refine bK4 (C:=Tryz.checked) (L:=Rows.fnBeginsRow.laid) aZ2 started (by kernel_rfl) Tryz.func3
    (ChangeSpec.witness_shaped (enc:=enc) (C:=Tryz.checked) (os:=os) (X:=fun w _=>laidMetH Tryz.prog Rows.fnBeginsRow.laid w) false (World.laidAll Tryz.prog os Rows.fnBeginsRow.laid) #[.slice none 0 0] 8 (World.laidAll_os _ _ _)
      (World.shaped_of_ZipB (by kernel_rfl) (by kernel_rfl)) (by kernel_rfl) (by kernel_rfl) (by kernel_rfl)
      (by rw [MakeChecks.laidMetH_plain _ _ _ (by kernel_rfl)]; exact laidMet_laidAll _ (by kernel_rfl) (by kernel_rfl))) ?_
  intro W base args ds gs before hval hW hL hsh
  have hl:=hL
  rw [MakeChecks.laidMetH_plain _ _ _ (by kernel_rfl)] at hl
  refine bMa aR9 (bH7 aR9) (all_in (by rw [aFn]; kernel_rfl)) (tb:=4) (by kernel_rfl) (by kernel_rfl) rfl ?_ ?_ W base args ds gs before hval hW ?_
  · intro ds hlen
    rw [aFn] at hlen
    match ds,hlen with
    | [d0],_=>exact ⟨rfl,rfl,rfl⟩
  · rw [aFn]
    exact fun ls h1 h2=>aZk bPu ls h1 h2
  · intro p hp
    rcases List.mem_cons.1 hp with rfl | hp
    · exact bOh (t:=173) (e:=151) (n:=20) (zs:=Lib.pow10Tab) (laidMet.tail (laidMet.tail (hl))) rfl (by kernel_rfl) (by kernel_rfl) (by kernel_rfl) (by kernel_rfl) (by kernel_rfl) (by kernel_rfl)
    rcases List.mem_cons.1 hp with rfl | hp
    · exact bD9 (t:=3) (zero:=#[.int .i64 0]) hsh (of_decide_eq_true (by kernel_rfl)) (by kernel_rfl) rfl (by kernel_rfl) (by kernel_rfl) (by kernel_rfl)
    rcases List.mem_cons.1 hp with rfl | hp
    · exact aS6 (ms:=#[("Error",134)]) (f:=⟨"s",9,0,false,"","errors",0⟩) (ti:=137) (tp:=161) (te:=163) (ts:=9) (laidMet.tail (laidMet.tail (laidMet.tail (laidMet.tail (laidMet.tail (hl)))))) (by kernel_rfl) (by kernel_rfl) (by kernel_rfl) aVm (by kernel_rfl) (by kernel_rfl) rfl rfl (by kernel_rfl) (by kernel_rfl) (by kernel_rfl)
    rcases List.mem_cons.1 hp with rfl | hp
    · exact aS6 (ms:=#[("Error",134)]) (f:=⟨"s",9,0,false,"","errors",0⟩) (ti:=137) (tp:=161) (te:=163) (ts:=9) (laidMet.tail (laidMet.tail (laidMet.tail (laidMet.tail (hl))))) (by kernel_rfl) (by kernel_rfl) (by kernel_rfl) aVm (by kernel_rfl) (by kernel_rfl) rfl rfl (by kernel_rfl) (by kernel_rfl) (by kernel_rfl)
    exact absurd hp List.not_mem_nil
theorem fnBegins_holds:Rows.FnBeginsSaid :=
  OpenClaim.holds_of_wide 3 Tryz.f3 rfl rfl rfl rfl rfl rfl rfl ⟨rfl,rfl,rfl,rfl,rfl⟩ rfl rfl rfl rfl rfl (by kernel_rfl) Tryz.func3 (by kernel_rfl)
    (of_decide_eq_true (by kernel_rfl)) (by unfold Func.isWrapper; first | (rw [if_pos (by decide +kernel)]; kernel_rfl) | (rw [if_neg (by decide +kernel)]; exact ⟨rfl,rfl⟩))
    (fun os started H enc _=>bId os started H enc)
theorem fnBeginsCard_holds:Rows.FnBeginsCardSaid :=
  Claim7.holds_tied_plain_at .later [] [.data,.data,.data,.data,.sentinel,.sentinel,.pinned] true (true,"fda28876a95dd4a8e47463780f98bd22a9855bf24896eff6c95560ef4743235d") true fnBegins_holds (fun _ h=>by cases h) (by kernel_rfl) (fun _ h=>by cases h) fnBegins_row_tie rfl ⟨rfl,rfl⟩ (by kernel_rfl) rfl
    (fun f fn hf hfn=>by
      obtain rfl:f=3:=Option.some.inj ((show Tryz.prog.funcNamed Rows.fnBeginsRow.func=some 3 by kernel_rfl).symm.trans hf) |>.symm
      obtain rfl:fn=Tryz.f3:=(Option.some.inj (Tryz.func3.symm.trans hfn)).symm
      exact ⟨by kernel_rfl,fun j t ht=>by
        have hm:t ∈ [22]:=by rw [← aFn]; exact Array.mem_toList_iff.2 (Array.mem_of_getElem? ht)
        have hall:(([22]:List Nat).all fun u=>!Tryz.prog.wantsStandIn u)=true:=by kernel_rfl
        exact (show Tryz.prog.wantsStandIn t=false by simpa using List.all_eq_true.1 hall t hm)⟩)
    (by kernel_rfl)
end Go.Proofs.YtdlidhpkelikhaaGreatDoor
