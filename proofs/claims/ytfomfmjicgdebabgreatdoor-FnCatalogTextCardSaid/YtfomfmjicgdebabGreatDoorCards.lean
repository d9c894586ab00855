/-
  DERIVED. GIVEN WITH THE SEED: THE CARDS: each row of YtfomfmjicgdebabGreatDoorRows.lean that lists a variable, with what it lists TIED to the program's text (the seventh form; the later family's looks); each row that meets fmt, with fmt's text TOLD by the authors' own Lean function (tested against real Go, not proved from fmt's source: count such statements apart). THE CARD IS WHAT COUNTS. Prove the row's statement (the work); the ties are given (YtfomfmjicgdebabGreatDoorTie.lean); close each card by the builder's one call (the guide's Derived/Test/ToyasCard.lean, 'card_holds'). Laid BY PROGRAM, IN A SANDBOX (cutbox-door.mjs). By AI agents, Wed Nov 11 2026. No macro, syntax, notation, axiom, sorry.
-/
import Derived.Test.YtfomfmjicgdebabGreatDoorRows
import GoSem.ClaimSeven
namespace Go.Proofs.YtfomfmjicgdebabGreatDoor
namespace Rows

/-- THE TIED CARD OF 'laws.FnCatalogText'. -/
def fnCatalogTextCard : Claim7 := { stood := { row := fnCatalogTextRow, standIns := [], harness := (true, "c6275cfa18694dc7b58206e1b7257c7bbe6a991efa2dfdae12c53b948a5b04d0"), looks := true }, kinds := [], alts := [], laidByText := true, laidKinds := [.data, .data, .data, .data, .sentinel, .sentinel, .pinned], laidTests := true, laidLooks := .later }
def FnCatalogTextCardSaid : Prop := Claim7.holds Tryz.pinned (.plain (OpenSpec.ofChange fnCatalogTextSpec)) fnCatalogTextCard

/-- THE SECOND FORM's CARD OF 'laws.FnCatalogText'. -/
def fnCatalogTextUptoCard : Claim7 := { stood := { row := fnCatalogTextUptoRow, standIns := [], harness := (true, "c6275cfa18694dc7b58206e1b7257c7bbe6a991efa2dfdae12c53b948a5b04d0"), looks := true }, kinds := [], alts := [], laidByText := true, laidKinds := [.data, .data, .data, .data, .sentinel, .sentinel, .pinned], laidTests := true, laidLooks := .later }
def FnCatalogTextUptoCardSaid : Prop := Claim7.holds Tryz.pinned (.plain (OpenSpec.upto fnCatalogTextSpec)) fnCatalogTextUptoCard
end Rows
end Go.Proofs.YtfomfmjicgdebabGreatDoor
