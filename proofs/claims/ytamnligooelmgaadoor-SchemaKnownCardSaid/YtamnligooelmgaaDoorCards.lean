/-
  DERIVED. GIVEN WITH THE SEED: THE CARDS: each row of YtamnligooelmgaaDoorRows.lean that lists a variable, with what it lists TIED to the program's text (the seventh form; the later family's looks); each row that meets fmt, with fmt's text TOLD by the authors' own Lean function (tested against real Go, not proved from fmt's source: count such statements apart). THE CARD IS WHAT COUNTS. Prove the row's statement (the work); the ties are given (YtamnligooelmgaaDoorTie.lean); close each card by the builder's one call (the guide's Derived/Test/ToyasCard.lean, 'card_holds'). Laid BY PROGRAM, IN A SANDBOX (cutbox-door.mjs). By AI agents, Wed Nov 11 2026. No macro, syntax, notation, axiom, sorry.
-/
import Derived.Test.YtamnligooelmgaaDoorRows
import GoSem.ClaimSeven
namespace Go.Proofs.YtamnligooelmgaaDoor
namespace Rows

/-- THE TIED CARD OF 'quaysidelaw06.SchemaChecks'. -/
def schemaChecksCard : Claim7 := { stood := { row := schemaChecksRow, standIns := [], harness := (true, "ece70d2fff0c47b3119e77b035c19abb4c5e5cc864ccbcf74dc2fbcf2f4c777c"), looks := false }, kinds := [], alts := [], laidByText := true, laidKinds := [.data, .data], laidTests := true, laidLooks := .later }
def SchemaChecksCardSaid : Prop := Claim7.holds Tryd.pinned (.plain (OpenSpec.ofChange schemaChecksSpec)) schemaChecksCard

/-- THE TIED CARD OF 'quaysidelaw06.SchemaParts'. -/
def schemaPartsCard : Claim7 := { stood := { row := schemaPartsRow, standIns := [], harness := (true, "ece70d2fff0c47b3119e77b035c19abb4c5e5cc864ccbcf74dc2fbcf2f4c777c"), looks := false }, kinds := [], alts := [], laidByText := true, laidKinds := [.data, .data], laidTests := true, laidLooks := .later }
def SchemaPartsCardSaid : Prop := Claim7.holds Tryd.pinned (.plain (OpenSpec.ofChange schemaPartsSpec)) schemaPartsCard

/-- THE TIED CARD OF 'quaysidelaw06.SchemaFits'. -/
def schemaFitsCard : Claim7 := { stood := { row := schemaFitsRow, standIns := [], harness := (true, "ece70d2fff0c47b3119e77b035c19abb4c5e5cc864ccbcf74dc2fbcf2f4c777c"), looks := false }, kinds := [], alts := [], laidByText := true, laidKinds := [.data, .data], laidTests := true, laidLooks := .later }
def SchemaFitsCardSaid : Prop := Claim7.holds Tryd.pinned (.plain (OpenSpec.ofChange schemaFitsSpec)) schemaFitsCard

/-- THE TIED CARD OF 'quaysidelaw06.SchemaKnown'. -/
def schemaKnownCard : Claim7 := { stood := { row := schemaKnownRow, standIns := [], harness := (true, "ece70d2fff0c47b3119e77b035c19abb4c5e5cc864ccbcf74dc2fbcf2f4c777c"), looks := false }, kinds := [], alts := [], laidByText := true, laidKinds := [.data, .data], laidTests := true, laidLooks := .later }
def SchemaKnownCardSaid : Prop := Claim7.holds Tryd.pinned (.plain (OpenSpec.ofChange schemaKnownSpec)) schemaKnownCard

/-- THE SECOND FORM's CARD OF 'quaysidelaw06.SchemaChecks'. -/
def schemaChecksUptoCard : Claim7 := { stood := { row := schemaChecksUptoRow, standIns := [], harness := (true, "ece70d2fff0c47b3119e77b035c19abb4c5e5cc864ccbcf74dc2fbcf2f4c777c"), looks := false }, kinds := [], alts := [], laidByText := true, laidKinds := [.data, .data], laidTests := true, laidLooks := .later }
def SchemaChecksUptoCardSaid : Prop := Claim7.holds Tryd.pinned (.plain (OpenSpec.upto schemaChecksSpec)) schemaChecksUptoCard

/-- THE SECOND FORM's CARD OF 'quaysidelaw06.SchemaParts'. -/
def schemaPartsUptoCard : Claim7 := { stood := { row := schemaPartsUptoRow, standIns := [], harness := (true, "ece70d2fff0c47b3119e77b035c19abb4c5e5cc864ccbcf74dc2fbcf2f4c777c"), looks := false }, kinds := [], alts := [], laidByText := true, laidKinds := [.data, .data], laidTests := true, laidLooks := .later }
def SchemaPartsUptoCardSaid : Prop := Claim7.holds Tryd.pinned (.plain (OpenSpec.upto schemaPartsSpec)) schemaPartsUptoCard

/-- THE SECOND FORM's CARD OF 'quaysidelaw06.SchemaFits'. -/
def schemaFitsUptoCard : Claim7 := { stood := { row := schemaFitsUptoRow, standIns := [], harness := (true, "ece70d2fff0c47b3119e77b035c19abb4c5e5cc864ccbcf74dc2fbcf2f4c777c"), looks := false }, kinds := [], alts := [], laidByText := true, laidKinds := [.data, .data], laidTests := true, laidLooks := .later }
def SchemaFitsUptoCardSaid : Prop := Claim7.holds Tryd.pinned (.plain (OpenSpec.upto schemaFitsSpec)) schemaFitsUptoCard

/-- THE SECOND FORM's CARD OF 'quaysidelaw06.SchemaKnown'. -/
def schemaKnownUptoCard : Claim7 := { stood := { row := schemaKnownUptoRow, standIns := [], harness := (true, "ece70d2fff0c47b3119e77b035c19abb4c5e5cc864ccbcf74dc2fbcf2f4c777c"), looks := false }, kinds := [], alts := [], laidByText := true, laidKinds := [.data, .data], laidTests := true, laidLooks := .later }
def SchemaKnownUptoCardSaid : Prop := Claim7.holds Tryd.pinned (.plain (OpenSpec.upto schemaKnownSpec)) schemaKnownUptoCard
end Rows
end Go.Proofs.YtamnligooelmgaaDoor
