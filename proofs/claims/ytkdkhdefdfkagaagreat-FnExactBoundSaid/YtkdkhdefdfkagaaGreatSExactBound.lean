/- The statement of FnExactBound. -/
import Derived.Test.YtkdkhdefdfkagaaGreatRows
import Derived.Test.YtkdkhdefdfkagaaGreatCExactBound4
import Derived.Test.YtkdkhdefdfkagaaGreatLExactBound0
import Derived.ProofKit
namespace Go.Proofs.YtkdkhdefdfkagaaGreat
open Go Go.ChangeShapes Go.WideShapes Go.ChangeAt Go.RowKit Go.Ab
theorem bNx:ownKnob Tryz.prog.godebug=none:=by kernel_rfl
theorem bEg:yX Tryz.prog [3,4,9,22,24,25,26,27,28,30,75,101,103,208,210,213,216,219,363]=true:=by kernel_rfl
theorem aSh:Tryz.f3.params.toList=[24,30]:=by kernel_rfl
set_option maxRecDepth 100000 in
theorem bGg (os : Os) (started : os.Started) (H : Type) (enc : TypeId × Value → H) :
    ReturnsInHanded {} Tryz.checked os 3 .any (Rows.fnExactBoundSpec.pre6 enc Tryz.prog Tryz.f3 Rows.fnExactBoundRow.domain false) (Rows.fnExactBoundSpec.post enc Tryz.prog Tryz.f3 false true false false):=by
  refine returnsInHanded_of_change (C:=Tryz.checked) bNx started (by kernel_rfl) Tryz.func3
    (ChangeSpec.witness6 (enc:=enc) (C:=Tryz.checked) false ⟨#[],#[.agg #[.slice none 0 0],.agg #[.bool false,.slice none 0 0,.slice none 0 0,.slice none 0 0,.slice none 0 0,.int .i64 0]],[]⟩ 8 (by kernel_rfl) (by kernel_rfl) (by kernel_rfl) (by kernel_rfl)) ?_
  intro W base args ds gs before hval hW _ _
  refine bXa bEg (bNt bEg) (all_in (by rw [aSh]; kernel_rfl)) (tb:=4) (by kernel_rfl) (by kernel_rfl) rfl ?_ ?_ W base args ds gs before hval hW
  · intro ds hl
    rw [aSh] at hl
    match ds,hl with
    | [d0,d1],_=>exact ⟨rfl,rfl,rfl⟩
  · rw [aSh]
    exact fun ls h1 h2=>bJy bVu ls h1 h2
theorem jf0_ : (Rows.fnExactBoundRow.wf (OpenSpec.ofChange Rows.fnExactBoundSpec)) = true := by kernel_rfl
theorem jf1_ : (laidOutB Tryz.prog) = true := by kernel_rfl
theorem jf2_ : (mapsRowed Tryz.prog) = true := by kernel_rfl
theorem jf3_ : ((((((Tryz.f3.params.all (Tryz.prog.readableRec ·)) && (namedTie Tryz.prog Rows.fnExactBoundRow.named Rows.fnExactBoundSpec.vars)) && ((Rows.fnExactBoundRow.stops == []))) && ((Tryz.prog.stops == []))) && ((Rows.fnExactBoundRow.knobs == []))) && ((Tryz.prog.stopKnobs == []))) = true := by kernel_rfl
theorem jf4_ : ((Rows.fnExactBoundRow.inPlace == Tryz.prog.inPlace 3)) = true := by kernel_rfl
theorem jf5_ : ((Rows.fnExactBoundRow.unfollowed == Tryz.prog.unfollowed 3)) = true := by kernel_rfl
theorem jf6_ : ((Rows.fnExactBoundRow.recurses == Tryz.prog.recurses 3)) = true := by kernel_rfl
theorem jf7_ : ((Rows.fnExactBoundRow.named == Tryz.prog.varsNamed 3)) = true := by kernel_rfl
theorem jf8_ : ((((((((((Rows.fnExactBoundRow.maps == (Tryz.f3.params.toList ++ Rows.fnExactBoundSpec.plain.varTypes Tryz.prog).any (Tryz.prog.mapsRec ·))) && ((Rows.fnExactBoundRow.ifaces == (Tryz.f3.params.toList ++ Rows.fnExactBoundSpec.plain.varTypes Tryz.prog).any (Tryz.prog.ifacesRec ·)))) && ((Rows.fnExactBoundRow.mapsOut == Tryz.prog.mapsAmong Tryz.f3.resultTypes.toList))) && ((Rows.fnExactBoundRow.loops == (Tryz.f3.params.toList ++ Rows.fnExactBoundSpec.plain.varTypes Tryz.prog).any (Tryz.prog.loopsFrom ·)))) && ((Rows.fnExactBoundRow.wideKeys == (Tryz.f3.params.toList ++ Rows.fnExactBoundSpec.plain.varTypes Tryz.prog ++ Tryz.f3.resultTypes.toList).any (Tryz.prog.wideKeysFrom ·)))) && (Rows.fnExactBoundSpec.vars.all (Tryz.prog.varReadable ·))) && (Tryz.f3.resultTypes.all (fun t => Tryz.prog.readableRec t && decide (t < Tryz.prog.types.size)))) && ((Rows.fnExactBoundRow.ifacesOut == Tryz.f3.resultTypes.toList.any (Tryz.prog.ifacesRec ·)))) && ((Rows.fnExactBoundRow.loopsOut == Tryz.f3.resultTypes.toList.any (Tryz.prog.loopsFrom ·)))) = true := by kernel_rfl
theorem jf9_ : ((((Rows.fnExactBoundRow.plainKeys == Tryz.prog.plainKeys)) && (Rows.fnExactBoundRow.shortTexts.isNone)) && (Tryz.prog.stopsHeard)) = true := by kernel_rfl
theorem jf10_ : (Tryz.prog.mayEnter) = true := by kernel_rfl
theorem jf11_ : (((((((Rows.fnExactBoundRow.lifted == Tryz.prog.liftsFinal)) && ((Tryz.prog.make == some Rows.fnExactBoundRow.make))) && ((Rows.fnExactBoundRow.kinds == (if Rows.fnExactBoundRow.domain.isEmpty then [] else Tryz.f3.params.toList.map fun t => match Tryz.prog.underlying t with | some (.int k) => some k | _ => none)))) && ((Rows.fnExactBoundRow.pinned == Rows.fnExactBoundRow.pinnedBy))) && ((Rows.fnExactBoundRow.veiled == (Tryz.f3.params.toList ++ Rows.fnExactBoundSpec.plain.varTypes Tryz.prog ++ Tryz.f3.resultTypes.toList).any (Tryz.prog.veiledRec ·)))) && (Rows.fnExactBoundRow.veiledFits Tryz.prog Tryz.f3.params.toList (Tryz.f3.params.toList ++ Rows.fnExactBoundSpec.plain.varTypes Tryz.prog ++ Tryz.f3.resultTypes.toList))) = true := by kernel_rfl
theorem and_t_ {a b : Bool} (h : a = true) (k : b = true) : (a && b) = true := by rw [h,k]; rfl
theorem and_l_ {a b : Bool} (h : (a && b) = true) : a = true := by revert h; cases a <;> simp
theorem and_r_ {a b : Bool} (h : (a && b) = true) : b = true := by revert h; cases a <;> simp
set_option maxRecDepth 100000 in
theorem closed_ : joinedFacts Tryz.prog 3 Tryz.f3 Rows.fnExactBoundSpec Rows.fnExactBoundRow = true := (and_t_ (and_t_ (and_t_ (and_t_ (and_t_ (and_t_ (and_t_ (and_t_ (and_t_ (and_t_ (and_t_ (and_t_ (and_t_ (and_t_ (and_t_ (and_t_ (and_t_ (and_t_ (and_t_ (and_t_ (and_t_ (and_t_ (and_t_ (and_t_ (and_t_ (and_t_ (and_t_ (and_t_ (and_t_ (and_t_ (and_t_ jf0_ jf1_) jf2_) (and_l_ (and_l_ (and_l_ (and_l_ (and_l_ jf3_)))))) (and_r_ (and_l_ (and_l_ (and_l_ (and_l_ jf3_)))))) (and_r_ (and_l_ (and_l_ (and_l_ jf3_))))) (and_r_ (and_l_ (and_l_ jf3_)))) (and_r_ (and_l_ jf3_))) (and_r_ jf3_)) jf4_) jf5_) jf6_) jf7_) (and_l_ (and_l_ (and_l_ (and_l_ (and_l_ (and_l_ (and_l_ (and_l_ jf8_))))))))) (and_r_ (and_l_ (and_l_ (and_l_ (and_l_ (and_l_ (and_l_ (and_l_ jf8_))))))))) (and_r_ (and_l_ (and_l_ (and_l_ (and_l_ (and_l_ (and_l_ jf8_)))))))) (and_r_ (and_l_ (and_l_ (and_l_ (and_l_ (and_l_ jf8_))))))) (and_r_ (and_l_ (and_l_ (and_l_ (and_l_ jf8_)))))) (and_r_ (and_l_ (and_l_ (and_l_ jf8_))))) (and_r_ (and_l_ (and_l_ jf8_)))) (and_r_ (and_l_ jf8_))) (and_r_ jf8_)) (and_l_ (and_l_ jf9_))) (and_r_ (and_l_ jf9_))) (and_r_ jf9_)) jf10_) (and_l_ (and_l_ (and_l_ (and_l_ (and_l_ jf11_)))))) (and_r_ (and_l_ (and_l_ (and_l_ (and_l_ jf11_)))))) (and_r_ (and_l_ (and_l_ (and_l_ jf11_))))) (and_r_ (and_l_ (and_l_ jf11_)))) (and_r_ (and_l_ jf11_))) (and_r_ jf11_))
theorem fnExactBound_holds:Rows.FnExactBoundSaid :=
  OpenClaim.holds_of_wide 3 Tryz.f3 rfl rfl rfl rfl rfl rfl rfl ⟨rfl,rfl,rfl,rfl,rfl⟩ rfl rfl rfl rfl rfl (by kernel_rfl) Tryz.func3 closed_
    (of_decide_eq_true (by kernel_rfl)) (by unfold Func.isWrapper; rw [if_neg (by decide +kernel)]; exact ⟨rfl,rfl⟩)
    (fun os started H enc _=>bGg os started H enc)
end Go.Proofs.YtkdkhdefdfkagaaGreat
