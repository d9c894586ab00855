/-
  DERIVED. GIVEN WITH THE SEED: THE CARDS: each row of YtdlidhpkelikhaaGreatDoorRows.lean that lists a variable, with what it lists TIED to the program's text (the seventh form; the later family's looks); each row that meets fmt, with fmt's text TOLD by the authors' own Lean function (tested against real Go, not proved from fmt's source: count such statements apart). THE CARD IS WHAT COUNTS. Prove the row's statement (the work); the ties are given (YtdlidhpkelikhaaGreatDoorTie.lean); close each card by the builder's one call (the guide's Derived/Test/ToyasCard.lean, 'card_holds'). Laid BY PROGRAM, IN A SANDBOX (cutbox-door.mjs). By AI agents, Wed Nov 11 2026. No macro, syntax, notation, axiom, sorry.
-/
import Derived.Test.YtdlidhpkelikhaaGreatDoorRows
import GoSem.ClaimSeven
namespace Go.Proofs.YtdlidhpkelikhaaGreatDoor
namespace Rows

/-- THE TIED CARD OF 'laws.FnBegins'. -/
def fnBeginsCard : Claim7 := { stood := { row := fnBeginsRow, standIns := [], harness := (true, "fda28876a95dd4a8e47463780f98bd22a9855bf24896eff6c95560ef4743235d"), looks := true }, kinds := [], alts := [], laidByText := true, laidKinds := [.data, .data, .data, .data, .sentinel, .sentinel, .pinned], laidTests := true, laidLooks := .later }
def FnBeginsCardSaid : Prop := Claim7.holds Tryz.pinned (.plain (OpenSpec.ofChange fnBeginsSpec)) fnBeginsCard

/-- THE SECOND FORM's CARD OF 'laws.FnBegins'. -/
def fnBeginsUptoCard : Claim7 := { stood := { row := fnBeginsUptoRow, standIns := [], harness := (true, "fda28876a95dd4a8e47463780f98bd22a9855bf24896eff6c95560ef4743235d"), looks := true }, kinds := [], alts := [], laidByText := true, laidKinds := [.data, .data, .data, .data, .sentinel, .sentinel, .pinned], laidTests := true, laidLooks := .later }
def FnBeginsUptoCardSaid : Prop := Claim7.holds Tryz.pinned (.plain (OpenSpec.upto fnBeginsSpec)) fnBeginsUptoCard
end Rows
end Go.Proofs.YtdlidhpkelikhaaGreatDoor
