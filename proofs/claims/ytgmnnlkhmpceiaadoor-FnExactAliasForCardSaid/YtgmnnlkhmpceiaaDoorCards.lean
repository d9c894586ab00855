/-
  DERIVED. GIVEN WITH THE SEED: THE CARDS: each row of YtgmnnlkhmpceiaaDoorRows.lean that lists a variable, with what it lists TIED to the program's text (the seventh form; the later family's looks); each row that meets fmt, with fmt's text TOLD by the authors' own Lean function (tested against real Go, not proved from fmt's source: count such statements apart). THE CARD IS WHAT COUNTS. Prove the row's statement (the work); the ties are given (YtgmnnlkhmpceiaaDoorTie.lean); close each card by the builder's one call (the guide's Derived/Test/ToyasCard.lean, 'card_holds'). Laid BY PROGRAM, IN A SANDBOX (cutbox-door.mjs). By AI agents, Wed Nov 11 2026. No macro, syntax, notation, axiom, sorry.
-/
import Derived.Test.YtgmnnlkhmpceiaaDoorRows
import GoSem.ClaimSeven
namespace Go.Proofs.YtgmnnlkhmpceiaaDoor
namespace Rows

/-- THE TIED CARD OF 'laws.FnExactAliasFor'. -/
def fnExactAliasForCard : Claim7 := { stood := { row := fnExactAliasForRow, standIns := [], harness := (true, "b54337d7e60a2ede457c0ffc6e827294df156e88c4eb00b2fa564410c61ff7b3"), looks := false }, kinds := [], alts := [], laidByText := true, laidKinds := [.data, .data, .data], laidTests := true, laidLooks := .later }
def FnExactAliasForCardSaid : Prop := Claim7.holds Tryd.pinned (.plain (OpenSpec.ofChange fnExactAliasForSpec)) fnExactAliasForCard

/-- THE SECOND FORM's CARD OF 'laws.FnExactAliasFor'. -/
def fnExactAliasForUptoCard : Claim7 := { stood := { row := fnExactAliasForUptoRow, standIns := [], harness := (true, "b54337d7e60a2ede457c0ffc6e827294df156e88c4eb00b2fa564410c61ff7b3"), looks := false }, kinds := [], alts := [], laidByText := true, laidKinds := [.data, .data, .data], laidTests := true, laidLooks := .later }
def FnExactAliasForUptoCardSaid : Prop := Claim7.holds Tryd.pinned (.plain (OpenSpec.upto fnExactAliasForSpec)) fnExactAliasForUptoCard
end Rows
end Go.Proofs.YtgmnnlkhmpceiaaDoor
