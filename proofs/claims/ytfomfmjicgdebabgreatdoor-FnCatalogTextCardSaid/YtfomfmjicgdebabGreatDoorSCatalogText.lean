/- The statement of FnCatalogText,with its card. -/
import Derived.Test.YtfomfmjicgdebabGreatDoorCards
import Derived.Test.YtfomfmjicgdebabGreatDoorTie
import Derived.Test.YtfomfmjicgdebabGreatDoorCCatalogText1
import Derived.Test.YtfomfmjicgdebabGreatDoorLCatalogText0
import Derived.Test.YtfomfmjicgdebabGreatDoorAbG3
import Derived.ProofKit
import Derived.OpenShut
import Derived.LaidMore
import Derived.Lay
import Derived.SevenTiedAt
namespace Go.Proofs.YtfomfmjicgdebabGreatDoor
open Go Go.ChangeShapes Go.WideShapes Go.ChangeAt Go.RowKit Go.Ab
theorem bQi:ownKnob Tryz.prog.godebug=none:=by kernel_rfl
theorem aYq:zV Tryz.prog [5,22]=true:=by kernel_rfl
theorem aGd:Tryz.f3.params.toList=[22]:=by kernel_rfl
theorem aXq:"*"++"errors.errorString"="*errors.errorString":=by decide
theorem aTc (u:TypeId) (h:Tryz.prog.typeName? 3 u=some "*errors.errorString"):u=166 :=
  typeName_ptr_named (nm:="errors.errorString") (by rw [aXq]; kernel_rfl) (by kernel_rfl) (by decide) u (by rw [aXq]; exact h)
set_option maxRecDepth 100000 in
theorem bM6 (os : Os) (started : os.Started) (H : Type) (enc : TypeId × Value → H) :
    ReturnsInHanded {} Tryz.checked os 3 .any (fun w args=>(Rows.fnCatalogTextSpec.pre enc Tryz.prog Tryz.f3 Rows.fnCatalogTextRow.domain false w args∧laidMetH Tryz.prog Rows.fnCatalogTextRow.laid w)∧sizedMet enc Tryz.prog Tryz.f3 (OpenSpec.ofChange Rows.fnCatalogTextSpec) false w args)
      (Rows.fnCatalogTextSpec.post enc Tryz.prog Tryz.f3 false true false false):=by
  refine bLy (C:=Tryz.checked) (L:=Rows.fnCatalogTextRow.laid) bQi started (by kernel_rfl) Tryz.func3
    (ChangeSpec.witness_shaped (enc:=enc) (C:=Tryz.checked) (os:=os) (X:=fun w _=>laidMetH Tryz.prog Rows.fnCatalogTextRow.laid w) false (World.laidAll Tryz.prog os Rows.fnCatalogTextRow.laid) #[.slice none 0 0] 8 (World.laidAll_os _ _ _)
      (World.shaped_of_ZipB (by kernel_rfl) (by kernel_rfl)) (by kernel_rfl) (by kernel_rfl) (by kernel_rfl)
      (by rw [MakeChecks.laidMetH_plain _ _ _ (by kernel_rfl)]; exact laidMet_laidAll _ (by kernel_rfl) (by kernel_rfl))) ?_
  intro W base args ds gs before hval hW hL hsh
  have hl:=hL
  rw [MakeChecks.laidMetH_plain _ _ _ (by kernel_rfl)] at hl
  refine bQy aYq (bIe aYq) (all_in (by rw [aGd]; kernel_rfl)) (tb:=4) (by kernel_rfl) (by kernel_rfl) rfl ?_ ?_ W base args ds gs before hval hW ?_
  · intro ds hlen
    rw [aGd] at hlen
    match ds,hlen with
    | [d0],_=>exact ⟨rfl,rfl,rfl⟩
  · rw [aGd]
    exact fun ls h1 h2=>bC4 bL3 ls h1 h2
  · intro p hp
    rcases List.mem_cons.1 hp with rfl | hp
    · exact bSv (t:=175) (e:=156) (n:=20) (zs:=Lib.pow10Tab) (laidMet.tail (laidMet.tail (hl))) rfl (by kernel_rfl) (by kernel_rfl) (by kernel_rfl) (by kernel_rfl) (by kernel_rfl) (by kernel_rfl)
    rcases List.mem_cons.1 hp with rfl | hp
    · exact bIa (t:=3) (zero:=#[.int .i64 0]) hsh (of_decide_eq_true (by kernel_rfl)) (by kernel_rfl) rfl (by kernel_rfl) (by kernel_rfl) (by kernel_rfl)
    rcases List.mem_cons.1 hp with rfl | hp
    · exact aQg (ms:=#[("Error",116)]) (f:=⟨"s",9,0,false,"","errors",0⟩) (ti:=111) (tp:=166) (te:=168) (ts:=9) (laidMet.tail (laidMet.tail (laidMet.tail (laidMet.tail (laidMet.tail (hl)))))) (by kernel_rfl) (by kernel_rfl) (by kernel_rfl) aTc (by kernel_rfl) (by kernel_rfl) rfl rfl (by kernel_rfl) (by kernel_rfl) (by kernel_rfl)
    rcases List.mem_cons.1 hp with rfl | hp
    · exact aQg (ms:=#[("Error",116)]) (f:=⟨"s",9,0,false,"","errors",0⟩) (ti:=111) (tp:=166) (te:=168) (ts:=9) (laidMet.tail (laidMet.tail (laidMet.tail (laidMet.tail (hl))))) (by kernel_rfl) (by kernel_rfl) (by kernel_rfl) aTc (by kernel_rfl) (by kernel_rfl) rfl rfl (by kernel_rfl) (by kernel_rfl) (by kernel_rfl)
    exact absurd hp List.not_mem_nil
theorem fnCatalogText_holds:Rows.FnCatalogTextSaid :=
  OpenClaim.holds_of_wide 3 Tryz.f3 rfl rfl rfl rfl rfl rfl rfl ⟨rfl,rfl,rfl,rfl,rfl⟩ rfl rfl rfl rfl rfl (by kernel_rfl) Tryz.func3 (by kernel_rfl)
    (of_decide_eq_true (by kernel_rfl)) (by unfold Func.isWrapper; first | (rw [if_pos (by decide +kernel)]; kernel_rfl) | (rw [if_neg (by decide +kernel)]; exact ⟨rfl,rfl⟩))
    (fun os started H enc _=>bM6 os started H enc)
theorem fnCatalogTextCard_holds:Rows.FnCatalogTextCardSaid :=
  Claim7.holds_tied_plain_at .later [] [.data,.data,.data,.data,.sentinel,.sentinel,.pinned] true (true,"c6275cfa18694dc7b58206e1b7257c7bbe6a991efa2dfdae12c53b948a5b04d0") true fnCatalogText_holds (fun _ h=>by cases h) (by kernel_rfl) (fun _ h=>by cases h) fnCatalogText_row_tie rfl ⟨rfl,rfl⟩ (by kernel_rfl) rfl
    (fun f fn hf hfn=>by
      obtain rfl:f=3:=Option.some.inj ((show Tryz.prog.funcNamed Rows.fnCatalogTextRow.func=some 3 by kernel_rfl).symm.trans hf) |>.symm
      obtain rfl:fn=Tryz.f3:=(Option.some.inj (Tryz.func3.symm.trans hfn)).symm
      exact ⟨by kernel_rfl,fun j t ht=>by
        have hm:t ∈ [22]:=by rw [← aGd]; exact Array.mem_toList_iff.2 (Array.mem_of_getElem? ht)
        have hall:(([22]:List Nat).all fun u=>!Tryz.prog.wantsStandIn u)=true:=by kernel_rfl
        exact (show Tryz.prog.wantsStandIn t=false by simpa using List.all_eq_true.1 hall t hm)⟩)
    (by kernel_rfl)
end Go.Proofs.YtfomfmjicgdebabGreatDoor
