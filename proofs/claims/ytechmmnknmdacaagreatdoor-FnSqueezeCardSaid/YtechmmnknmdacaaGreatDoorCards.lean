/-
  DERIVED. GIVEN WITH THE SEED: THE CARDS: each row of YtechmmnknmdacaaGreatDoorRows.lean that lists a variable, with what it lists TIED to the program's text (the seventh form; the later family's looks); each row that meets fmt, with fmt's text TOLD by the authors' own Lean function (tested against real Go, not proved from fmt's source: count such statements apart). THE CARD IS WHAT COUNTS. Prove the row's statement (the work); the ties are given (YtechmmnknmdacaaGreatDoorTie.lean); close each card by the builder's one call (the guide's Derived/Test/ToyasCard.lean, 'card_holds'). Laid BY PROGRAM, IN A SANDBOX (cutbox-door.mjs). By AI agents, Wed Nov 11 2026. No macro, syntax, notation, axiom, sorry.
-/
import Derived.Test.YtechmmnknmdacaaGreatDoorRows
import GoSem.ClaimSeven
namespace Go.Proofs.YtechmmnknmdacaaGreatDoor
namespace Rows

/-- THE TIED CARD OF 'laws.FnExactLoose'. -/
def fnExactLooseCard : Claim7 := { stood := { row := fnExactLooseRow, standIns := [], harness := (true, "7499a38d931708a2403f24b81549c5f9cab74e57f4b3cdc8feefe1d4e1f1badd"), looks := true }, kinds := [], alts := [], laidByText := true, laidKinds := [.data, .data, .data, .data, .sentinel, .sentinel, .pinned], laidTests := true, laidLooks := .later }
def FnExactLooseCardSaid : Prop := Claim7.holds Tryz.pinned (.plain (OpenSpec.ofChange fnExactLooseSpec)) fnExactLooseCard

/-- THE TIED CARD OF 'laws.FnExactSpaced'. -/
def fnExactSpacedCard : Claim7 := { stood := { row := fnExactSpacedRow, standIns := [], harness := (true, "7499a38d931708a2403f24b81549c5f9cab74e57f4b3cdc8feefe1d4e1f1badd"), looks := true }, kinds := [], alts := [], laidByText := true, laidKinds := [.data, .data, .data, .data, .sentinel, .sentinel, .pinned], laidTests := true, laidLooks := .later }
def FnExactSpacedCardSaid : Prop := Claim7.holds Tryz.pinned (.plain (OpenSpec.ofChange fnExactSpacedSpec)) fnExactSpacedCard

/-- THE TIED CARD OF 'laws.FnSpaced'. -/
def fnSpacedCard : Claim7 := { stood := { row := fnSpacedRow, standIns := [], harness := (true, "7499a38d931708a2403f24b81549c5f9cab74e57f4b3cdc8feefe1d4e1f1badd"), looks := true }, kinds := [], alts := [], laidByText := true, laidKinds := [.data, .data, .data, .data, .sentinel, .sentinel, .pinned], laidTests := true, laidLooks := .later }
def FnSpacedCardSaid : Prop := Claim7.holds Tryz.pinned (.plain (OpenSpec.ofChange fnSpacedSpec)) fnSpacedCard

/-- THE TIED CARD OF 'laws.FnExactSqueeze'. -/
def fnExactSqueezeCard : Claim7 := { stood := { row := fnExactSqueezeRow, standIns := [], harness := (true, "7499a38d931708a2403f24b81549c5f9cab74e57f4b3cdc8feefe1d4e1f1badd"), looks := true }, kinds := [], alts := [], laidByText := true, laidKinds := [.data, .data, .data, .data, .sentinel, .sentinel, .pinned], laidTests := true, laidLooks := .later }
def FnExactSqueezeCardSaid : Prop := Claim7.holds Tryz.pinned (.plain (OpenSpec.ofChange fnExactSqueezeSpec)) fnExactSqueezeCard

/-- THE TIED CARD OF 'laws.FnExactCatalogText'. -/
def fnExactCatalogTextCard : Claim7 := { stood := { row := fnExactCatalogTextRow, standIns := [], harness := (true, "7499a38d931708a2403f24b81549c5f9cab74e57f4b3cdc8feefe1d4e1f1badd"), looks := true }, kinds := [], alts := [], laidByText := true, laidKinds := [.data, .data, .data, .data, .sentinel, .sentinel, .pinned], laidTests := true, laidLooks := .later }
def FnExactCatalogTextCardSaid : Prop := Claim7.holds Tryz.pinned (.plain (OpenSpec.ofChange fnExactCatalogTextSpec)) fnExactCatalogTextCard

/-- THE TIED CARD OF 'laws.FnSqueeze'. -/
def fnSqueezeCard : Claim7 := { stood := { row := fnSqueezeRow, standIns := [], harness := (true, "7499a38d931708a2403f24b81549c5f9cab74e57f4b3cdc8feefe1d4e1f1badd"), looks := true }, kinds := [], alts := [], laidByText := true, laidKinds := [.data, .data, .data, .data, .sentinel, .sentinel, .pinned], laidTests := true, laidLooks := .later }
def FnSqueezeCardSaid : Prop := Claim7.holds Tryz.pinned (.plain (OpenSpec.ofChange fnSqueezeSpec)) fnSqueezeCard

/-- THE SECOND FORM's CARD OF 'laws.FnExactLoose'. -/
def fnExactLooseUptoCard : Claim7 := { stood := { row := fnExactLooseUptoRow, standIns := [], harness := (true, "7499a38d931708a2403f24b81549c5f9cab74e57f4b3cdc8feefe1d4e1f1badd"), looks := true }, kinds := [], alts := [], laidByText := true, laidKinds := [.data, .data, .data, .data, .sentinel, .sentinel, .pinned], laidTests := true, laidLooks := .later }
def FnExactLooseUptoCardSaid : Prop := Claim7.holds Tryz.pinned (.plain (OpenSpec.upto fnExactLooseSpec)) fnExactLooseUptoCard

/-- THE SECOND FORM's CARD OF 'laws.FnExactSpaced'. -/
def fnExactSpacedUptoCard : Claim7 := { stood := { row := fnExactSpacedUptoRow, standIns := [], harness := (true, "7499a38d931708a2403f24b81549c5f9cab74e57f4b3cdc8feefe1d4e1f1badd"), looks := true }, kinds := [], alts := [], laidByText := true, laidKinds := [.data, .data, .data, .data, .sentinel, .sentinel, .pinned], laidTests := true, laidLooks := .later }
def FnExactSpacedUptoCardSaid : Prop := Claim7.holds Tryz.pinned (.plain (OpenSpec.upto fnExactSpacedSpec)) fnExactSpacedUptoCard

/-- THE SECOND FORM's CARD OF 'laws.FnSpaced'. -/
def fnSpacedUptoCard : Claim7 := { stood := { row := fnSpacedUptoRow, standIns := [], harness := (true, "7499a38d931708a2403f24b81549c5f9cab74e57f4b3cdc8feefe1d4e1f1badd"), looks := true }, kinds := [], alts := [], laidByText := true, laidKinds := [.data, .data, .data, .data, .sentinel, .sentinel, .pinned], laidTests := true, laidLooks := .later }
def FnSpacedUptoCardSaid : Prop := Claim7.holds Tryz.pinned (.plain (OpenSpec.upto fnSpacedSpec)) fnSpacedUptoCard

/-- THE SECOND FORM's CARD OF 'laws.FnExactSqueeze'. -/
def fnExactSqueezeUptoCard : Claim7 := { stood := { row := fnExactSqueezeUptoRow, standIns := [], harness := (true, "7499a38d931708a2403f24b81549c5f9cab74e57f4b3cdc8feefe1d4e1f1badd"), looks := true }, kinds := [], alts := [], laidByText := true, laidKinds := [.data, .data, .data, .data, .sentinel, .sentinel, .pinned], laidTests := true, laidLooks := .later }
def FnExactSqueezeUptoCardSaid : Prop := Claim7.holds Tryz.pinned (.plain (OpenSpec.upto fnExactSqueezeSpec)) fnExactSqueezeUptoCard

/-- THE SECOND FORM's CARD OF 'laws.FnExactCatalogText'. -/
def fnExactCatalogTextUptoCard : Claim7 := { stood := { row := fnExactCatalogTextUptoRow, standIns := [], harness := (true, "7499a38d931708a2403f24b81549c5f9cab74e57f4b3cdc8feefe1d4e1f1badd"), looks := true }, kinds := [], alts := [], laidByText := true, laidKinds := [.data, .data, .data, .data, .sentinel, .sentinel, .pinned], laidTests := true, laidLooks := .later }
def FnExactCatalogTextUptoCardSaid : Prop := Claim7.holds Tryz.pinned (.plain (OpenSpec.upto fnExactCatalogTextSpec)) fnExactCatalogTextUptoCard

/-- THE SECOND FORM's CARD OF 'laws.FnSqueeze'. -/
def fnSqueezeUptoCard : Claim7 := { stood := { row := fnSqueezeUptoRow, standIns := [], harness := (true, "7499a38d931708a2403f24b81549c5f9cab74e57f4b3cdc8feefe1d4e1f1badd"), looks := true }, kinds := [], alts := [], laidByText := true, laidKinds := [.data, .data, .data, .data, .sentinel, .sentinel, .pinned], laidTests := true, laidLooks := .later }
def FnSqueezeUptoCardSaid : Prop := Claim7.holds Tryz.pinned (.plain (OpenSpec.upto fnSqueezeSpec)) fnSqueezeUptoCard
end Rows
end Go.Proofs.YtechmmnknmdacaaGreatDoor
