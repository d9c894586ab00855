/-
  DERIVED. GIVEN WITH THE SEED: THE CARDS: each row of YtflhmnfmihkbmabDoorRows.lean that lists a variable, with what it lists TIED to the program's text (the seventh form; the later family's looks); each row that meets fmt, with fmt's text TOLD by the authors' own Lean function (tested against real Go, not proved from fmt's source: count such statements apart). THE CARD IS WHAT COUNTS. Prove the row's statement (the work); the ties are given (YtflhmnfmihkbmabDoorTie.lean); close each card by the builder's one call (the guide's Derived/Test/ToyasCard.lean, 'card_holds'). Laid BY PROGRAM, IN A SANDBOX (cutbox-door.mjs). By AI agents, Wed Nov 11 2026. No macro, syntax, notation, axiom, sorry.
-/
import Derived.Test.YtflhmnfmihkbmabDoorRows
import GoSem.ClaimSeven
namespace Go.Proofs.YtflhmnfmihkbmabDoor
namespace Rows

/-- THE TIED CARD OF 'laws.FnEmptyDb'. -/
def fnEmptyDbCard : Claim7 := { stood := { row := fnEmptyDbRow, standIns := [], harness := (true, "b94e0a3904a0bd1cf86bcae68e133c6b36a80fc09cec894d375a7764df0d8fab"), looks := false }, kinds := [], alts := [], laidByText := true, laidKinds := [.data, .data, .data, .data, .pinned], laidTests := true, laidLooks := .later }
def FnEmptyDbCardSaid : Prop := Claim7.holds Tryd.pinned (.plain (OpenSpec.ofChange fnEmptyDbSpec)) fnEmptyDbCard

/-- THE SECOND FORM's CARD OF 'laws.FnEmptyDb'. -/
def fnEmptyDbUptoCard : Claim7 := { stood := { row := fnEmptyDbUptoRow, standIns := [], harness := (true, "b94e0a3904a0bd1cf86bcae68e133c6b36a80fc09cec894d375a7764df0d8fab"), looks := false }, kinds := [], alts := [], laidByText := true, laidKinds := [.data, .data, .data, .data, .pinned], laidTests := true, laidLooks := .later }
def FnEmptyDbUptoCardSaid : Prop := Claim7.holds Tryd.pinned (.plain (OpenSpec.upto fnEmptyDbSpec)) fnEmptyDbUptoCard
end Rows
end Go.Proofs.YtflhmnfmihkbmabDoor
