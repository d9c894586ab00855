/-
  DERIVED. GIVEN WITH THE SEED: THE CARDS: each row of YtfomfmjicgdebaaGreatDoorRows.lean that lists a variable, with what it lists TIED to the program's text (the seventh form; the later family's looks); each row that meets fmt, with fmt's text TOLD by the authors' own Lean function (tested against real Go, not proved from fmt's source: count such statements apart). THE CARD IS WHAT COUNTS. Prove the row's statement (the work); the ties are given (YtfomfmjicgdebaaGreatDoorTie.lean); close each card by the builder's one call (the guide's Derived/Test/ToyasCard.lean, 'card_holds'). Laid BY PROGRAM, IN A SANDBOX (cutbox-door.mjs). By AI agents, Wed Nov 11 2026. No macro, syntax, notation, axiom, sorry.
-/
import Derived.Test.YtfomfmjicgdebaaGreatDoorRows
import GoSem.ClaimSeven
namespace Go.Proofs.YtfomfmjicgdebaaGreatDoor
namespace Rows

/-- THE TIED CARD OF 'laws.FnExactCountTrees'. -/
def fnExactCountTreesCard : Claim7 := { stood := { row := fnExactCountTreesRow, standIns := [], harness := (true, "ea21bf170f407ebbe8e781abed7d55926cccbb71ef8fb55d42ba9b7caa3f6b02"), looks := true }, kinds := [], alts := [], laidByText := true, laidKinds := [.data, .data, .data, .data, .sentinel, .sentinel, .pinned], laidTests := true, laidLooks := .later }
def FnExactCountTreesCardSaid : Prop := Claim7.holds Tryz.pinned (.plain (OpenSpec.ofChange fnExactCountTreesSpec)) fnExactCountTreesCard

/-- THE SECOND FORM's CARD OF 'laws.FnExactCountTrees'. -/
def fnExactCountTreesUptoCard : Claim7 := { stood := { row := fnExactCountTreesUptoRow, standIns := [], harness := (true, "ea21bf170f407ebbe8e781abed7d55926cccbb71ef8fb55d42ba9b7caa3f6b02"), looks := true }, kinds := [], alts := [], laidByText := true, laidKinds := [.data, .data, .data, .data, .sentinel, .sentinel, .pinned], laidTests := true, laidLooks := .later }
def FnExactCountTreesUptoCardSaid : Prop := Claim7.holds Tryz.pinned (.plain (OpenSpec.upto fnExactCountTreesSpec)) fnExactCountTreesUptoCard
end Rows
end Go.Proofs.YtfomfmjicgdebaaGreatDoor
