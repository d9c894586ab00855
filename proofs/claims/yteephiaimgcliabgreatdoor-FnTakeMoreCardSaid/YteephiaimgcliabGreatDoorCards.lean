/-
  DERIVED. GIVEN WITH THE SEED: THE CARDS: each row of YteephiaimgcliabGreatDoorRows.lean that lists a variable, with what it lists TIED to the program's text (the seventh form; the later family's looks); each row that meets fmt, with fmt's text TOLD by the authors' own Lean function (tested against real Go, not proved from fmt's source: count such statements apart). THE CARD IS WHAT COUNTS. Prove the row's statement (the work); the ties are given (YteephiaimgcliabGreatDoorTie.lean); close each card by the builder's one call (the guide's Derived/Test/ToyasCard.lean, 'card_holds'). Laid BY PROGRAM, IN A SANDBOX (cutbox-door.mjs). By AI agents, Wed Nov 11 2026. No macro, syntax, notation, axiom, sorry.
-/
import Derived.Test.YteephiaimgcliabGreatDoorRows
import GoSem.ClaimSeven
namespace Go.Proofs.YteephiaimgcliabGreatDoor
namespace Rows

/-- THE TIED CARD OF 'laws.FnTakeMore'. -/
def fnTakeMoreCard : Claim7 := { stood := { row := fnTakeMoreRow, standIns := [], harness := (true, "300a5a6854f3c0f2ed45329fe8654657f65d48e121baa4b2d29dda2b92a6ab12"), looks := true }, kinds := [], alts := [], laidByText := true, laidKinds := [.data, .data, .data, .data, .sentinel, .sentinel, .pinned], laidTests := true, laidLooks := .later }
def FnTakeMoreCardSaid : Prop := Claim7.holds Tryz.pinned (.plain (OpenSpec.ofChange fnTakeMoreSpec)) fnTakeMoreCard

/-- THE SECOND FORM's CARD OF 'laws.FnTakeMore'. -/
def fnTakeMoreUptoCard : Claim7 := { stood := { row := fnTakeMoreUptoRow, standIns := [], harness := (true, "300a5a6854f3c0f2ed45329fe8654657f65d48e121baa4b2d29dda2b92a6ab12"), looks := true }, kinds := [], alts := [], laidByText := true, laidKinds := [.data, .data, .data, .data, .sentinel, .sentinel, .pinned], laidTests := true, laidLooks := .later }
def FnTakeMoreUptoCardSaid : Prop := Claim7.holds Tryz.pinned (.plain (OpenSpec.upto fnTakeMoreSpec)) fnTakeMoreUptoCard
end Rows
end Go.Proofs.YteephiaimgcliabGreatDoor
