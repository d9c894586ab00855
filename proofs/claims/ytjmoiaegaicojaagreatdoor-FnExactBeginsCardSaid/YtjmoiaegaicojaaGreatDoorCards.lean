/-
  DERIVED. GIVEN WITH THE SEED: THE CARDS: each row of YtjmoiaegaicojaaGreatDoorRows.lean that lists a variable, with what it lists TIED to the program's text (the seventh form; the later family's looks); each row that meets fmt, with fmt's text TOLD by the authors' own Lean function (tested against real Go, not proved from fmt's source: count such statements apart). THE CARD IS WHAT COUNTS. Prove the row's statement (the work); the ties are given (YtjmoiaegaicojaaGreatDoorTie.lean); close each card by the builder's one call (the guide's Derived/Test/ToyasCard.lean, 'card_holds'). Laid BY PROGRAM, IN A SANDBOX (cutbox-door.mjs). By AI agents, Wed Nov 11 2026. No macro, syntax, notation, axiom, sorry.
-/
import Derived.Test.YtjmoiaegaicojaaGreatDoorRows
import GoSem.ClaimSeven
namespace Go.Proofs.YtjmoiaegaicojaaGreatDoor
namespace Rows

/-- THE TIED CARD OF 'laws.FnExactBegins'. -/
def fnExactBeginsCard : Claim7 := { stood := { row := fnExactBeginsRow, standIns := [], harness := (true, "4ddc15f93a3040b1700353c6154b13e48cea8da445ecefb67d9a8e85daba568f"), looks := true }, kinds := [], alts := [], laidByText := true, laidKinds := [.data, .data, .data, .data, .sentinel, .sentinel, .pinned], laidTests := true, laidLooks := .later }
def FnExactBeginsCardSaid : Prop := Claim7.holds Tryz.pinned (.plain (OpenSpec.ofChange fnExactBeginsSpec)) fnExactBeginsCard

/-- THE SECOND FORM's CARD OF 'laws.FnExactBegins'. -/
def fnExactBeginsUptoCard : Claim7 := { stood := { row := fnExactBeginsUptoRow, standIns := [], harness := (true, "4ddc15f93a3040b1700353c6154b13e48cea8da445ecefb67d9a8e85daba568f"), looks := true }, kinds := [], alts := [], laidByText := true, laidKinds := [.data, .data, .data, .data, .sentinel, .sentinel, .pinned], laidTests := true, laidLooks := .later }
def FnExactBeginsUptoCardSaid : Prop := Claim7.holds Tryz.pinned (.plain (OpenSpec.upto fnExactBeginsSpec)) fnExactBeginsUptoCard
end Rows
end Go.Proofs.YtjmoiaegaicojaaGreatDoor
