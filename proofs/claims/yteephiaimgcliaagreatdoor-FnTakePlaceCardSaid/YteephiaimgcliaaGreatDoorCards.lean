/-
  DERIVED. GIVEN WITH THE SEED: THE CARDS: each row of YteephiaimgcliaaGreatDoorRows.lean that lists a variable, with what it lists TIED to the program's text (the seventh form; the later family's looks); each row that meets fmt, with fmt's text TOLD by the authors' own Lean function (tested against real Go, not proved from fmt's source: count such statements apart). THE CARD IS WHAT COUNTS. Prove the row's statement (the work); the ties are given (YteephiaimgcliaaGreatDoorTie.lean); close each card by the builder's one call (the guide's Derived/Test/ToyasCard.lean, 'card_holds'). Laid BY PROGRAM, IN A SANDBOX (cutbox-door.mjs). By AI agents, Wed Nov 11 2026. No macro, syntax, notation, axiom, sorry.
-/
import Derived.Test.YteephiaimgcliaaGreatDoorRows
import GoSem.ClaimSeven
namespace Go.Proofs.YteephiaimgcliaaGreatDoor
namespace Rows

/-- THE TIED CARD OF 'laws.FnTakePlace'. -/
def fnTakePlaceCard : Claim7 := { stood := { row := fnTakePlaceRow, standIns := [], harness := (true, "3aa0b0889aa4a2a59247928b2b7a1fbaca8cae54c94650ac9a67628bf29ded2e"), looks := true }, kinds := [], alts := [], laidByText := true, laidKinds := [.data, .data, .data, .data, .sentinel, .sentinel, .pinned], laidTests := true, laidLooks := .later }
def FnTakePlaceCardSaid : Prop := Claim7.holds Tryz.pinned (.plain (OpenSpec.ofChange fnTakePlaceSpec)) fnTakePlaceCard

/-- THE SECOND FORM's CARD OF 'laws.FnTakePlace'. -/
def fnTakePlaceUptoCard : Claim7 := { stood := { row := fnTakePlaceUptoRow, standIns := [], harness := (true, "3aa0b0889aa4a2a59247928b2b7a1fbaca8cae54c94650ac9a67628bf29ded2e"), looks := true }, kinds := [], alts := [], laidByText := true, laidKinds := [.data, .data, .data, .data, .sentinel, .sentinel, .pinned], laidTests := true, laidLooks := .later }
def FnTakePlaceUptoCardSaid : Prop := Claim7.holds Tryz.pinned (.plain (OpenSpec.upto fnTakePlaceSpec)) fnTakePlaceUptoCard
end Rows
end Go.Proofs.YteephiaimgcliaaGreatDoor
