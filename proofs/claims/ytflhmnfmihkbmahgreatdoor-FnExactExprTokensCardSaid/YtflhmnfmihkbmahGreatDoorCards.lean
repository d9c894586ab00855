/-
  DERIVED. GIVEN WITH THE SEED: THE CARDS: each row of YtflhmnfmihkbmahGreatDoorRows.lean that lists a variable, with what it lists TIED to the program's text (the seventh form; the later family's looks); each row that meets fmt, with fmt's text TOLD by the authors' own Lean function (tested against real Go, not proved from fmt's source: count such statements apart). THE CARD IS WHAT COUNTS. Prove the row's statement (the work); the ties are given (YtflhmnfmihkbmahGreatDoorTie.lean); close each card by the builder's one call (the guide's Derived/Test/ToyasCard.lean, 'card_holds'). Laid BY PROGRAM, IN A SANDBOX (cutbox-door.mjs). By AI agents, Wed Nov 11 2026. No macro, syntax, notation, axiom, sorry.
-/
import Derived.Test.YtflhmnfmihkbmahGreatDoorRows
import GoSem.ClaimSeven
namespace Go.Proofs.YtflhmnfmihkbmahGreatDoor
namespace Rows

/-- THE TIED CARD OF 'laws.FnExactExprTokens'. -/
def fnExactExprTokensCard : Claim7 := { stood := { row := fnExactExprTokensRow, standIns := [], harness := (true, "3e0421cc511ca695056ac948492dea86dc7059bc4d95f121293d8673509ca080"), looks := false }, kinds := [], alts := [], laidByText := true, laidKinds := [.data, .data, .data, .data, .pinned], laidTests := true, laidLooks := .later }
def FnExactExprTokensCardSaid : Prop := Claim7.holds Tryz.pinned (.plain (OpenSpec.ofChange fnExactExprTokensSpec)) fnExactExprTokensCard

/-- THE SECOND FORM's CARD OF 'laws.FnExactExprTokens'. -/
def fnExactExprTokensUptoCard : Claim7 := { stood := { row := fnExactExprTokensUptoRow, standIns := [], harness := (true, "3e0421cc511ca695056ac948492dea86dc7059bc4d95f121293d8673509ca080"), looks := false }, kinds := [], alts := [], laidByText := true, laidKinds := [.data, .data, .data, .data, .pinned], laidTests := true, laidLooks := .later }
def FnExactExprTokensUptoCardSaid : Prop := Claim7.holds Tryz.pinned (.plain (OpenSpec.upto fnExactExprTokensSpec)) fnExactExprTokensUptoCard
end Rows
end Go.Proofs.YtflhmnfmihkbmahGreatDoor
