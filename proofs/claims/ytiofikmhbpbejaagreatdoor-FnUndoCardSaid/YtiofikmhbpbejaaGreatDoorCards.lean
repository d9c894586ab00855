/-
  DERIVED. GIVEN WITH THE SEED: THE CARDS: each row of YtiofikmhbpbejaaGreatDoorRows.lean that lists a variable, with what it lists TIED to the program's text (the seventh form; the later family's looks); each row that meets fmt, with fmt's text TOLD by the authors' own Lean function (tested against real Go, not proved from fmt's source: count such statements apart). THE CARD IS WHAT COUNTS. Prove the row's statement (the work); the ties are given (YtiofikmhbpbejaaGreatDoorTie.lean); close each card by the builder's one call (the guide's Derived/Test/ToyasCard.lean, 'card_holds'). Laid BY PROGRAM, IN A SANDBOX (cutbox-door.mjs). By AI agents, Wed Nov 11 2026. No macro, syntax, notation, axiom, sorry.
-/
import Derived.Test.YtiofikmhbpbejaaGreatDoorRows
import GoSem.ClaimSeven
namespace Go.Proofs.YtiofikmhbpbejaaGreatDoor
namespace Rows

/-- THE TIED CARD OF 'laws.FnUndo'. -/
def fnUndoCard : Claim7 := { stood := { row := fnUndoRow, standIns := [], harness := (true, "47b0061eb97b47f0a58663ac56dcbd3bb416a4b8132a00024bde0839728b273d"), looks := false }, kinds := [], alts := [], laidByText := true, laidKinds := [.data, .data, .data], laidTests := true, laidLooks := .later }
def FnUndoCardSaid : Prop := Claim7.holds Tryz.pinned (.plain (OpenSpec.ofChange fnUndoSpec)) fnUndoCard

/-- THE SECOND FORM's CARD OF 'laws.FnUndo'. -/
def fnUndoUptoCard : Claim7 := { stood := { row := fnUndoUptoRow, standIns := [], harness := (true, "47b0061eb97b47f0a58663ac56dcbd3bb416a4b8132a00024bde0839728b273d"), looks := false }, kinds := [], alts := [], laidByText := true, laidKinds := [.data, .data, .data], laidTests := true, laidLooks := .later }
def FnUndoUptoCardSaid : Prop := Claim7.holds Tryz.pinned (.plain (OpenSpec.upto fnUndoSpec)) fnUndoUptoCard
end Rows
end Go.Proofs.YtiofikmhbpbejaaGreatDoor
