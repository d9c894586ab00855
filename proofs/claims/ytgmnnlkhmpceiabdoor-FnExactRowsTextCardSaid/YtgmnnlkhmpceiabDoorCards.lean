/-
  DERIVED. GIVEN WITH THE SEED: THE CARDS: each row of YtgmnnlkhmpceiabDoorRows.lean that lists a variable, with what it lists TIED to the program's text (the seventh form; the later family's looks); each row that meets fmt, with fmt's text TOLD by the authors' own Lean function (tested against real Go, not proved from fmt's source: count such statements apart). THE CARD IS WHAT COUNTS. Prove the row's statement (the work); the ties are given (YtgmnnlkhmpceiabDoorTie.lean); close each card by the builder's one call (the guide's Derived/Test/ToyasCard.lean, 'card_holds'). Laid BY PROGRAM, IN A SANDBOX (cutbox-door.mjs). By AI agents, Wed Nov 11 2026. No macro, syntax, notation, axiom, sorry.
-/
import Derived.Test.YtgmnnlkhmpceiabDoorRows
import GoSem.ClaimSeven
namespace Go.Proofs.YtgmnnlkhmpceiabDoor
namespace Rows

/-- THE TIED CARD OF 'laws.FnExactRowsText'. -/
def fnExactRowsTextCard : Claim7 := { stood := { row := fnExactRowsTextRow, standIns := [], harness := (true, "f11ac632dab86d81013a3c2555b0fd6c81cf150209b77f30b8269030d173e347"), looks := false }, kinds := [], alts := [], laidByText := true, laidKinds := [.data, .data, .data, .data, .pinned], laidTests := true, laidLooks := .later }
def FnExactRowsTextCardSaid : Prop := Claim7.holds Tryd.pinned (.plain (OpenSpec.ofChange fnExactRowsTextSpec)) fnExactRowsTextCard

/-- THE SECOND FORM's CARD OF 'laws.FnExactRowsText'. -/
def fnExactRowsTextUptoCard : Claim7 := { stood := { row := fnExactRowsTextUptoRow, standIns := [], harness := (true, "f11ac632dab86d81013a3c2555b0fd6c81cf150209b77f30b8269030d173e347"), looks := false }, kinds := [], alts := [], laidByText := true, laidKinds := [.data, .data, .data, .data, .pinned], laidTests := true, laidLooks := .later }
def FnExactRowsTextUptoCardSaid : Prop := Claim7.holds Tryd.pinned (.plain (OpenSpec.upto fnExactRowsTextSpec)) fnExactRowsTextUptoCard
end Rows
end Go.Proofs.YtgmnnlkhmpceiabDoor
