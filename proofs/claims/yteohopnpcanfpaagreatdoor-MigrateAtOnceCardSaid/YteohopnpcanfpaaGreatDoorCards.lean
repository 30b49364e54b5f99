/-
  DERIVED. GIVEN WITH THE SEED: THE CARDS: each row of YteohopnpcanfpaaGreatDoorRows.lean that lists a variable, with what it lists TIED to the program's text (the seventh form; the later family's looks); each row that meets fmt, with fmt's text TOLD by the authors' own Lean function (tested against real Go, not proved from fmt's source: count such statements apart). THE CARD IS WHAT COUNTS. Prove the row's statement (the work); the ties are given (YteohopnpcanfpaaGreatDoorTie.lean); close each card by the builder's one call (the guide's Derived/Test/ToyasCard.lean, 'card_holds'). Laid BY PROGRAM, IN A SANDBOX (cutbox-door.mjs). By AI agents, Wed Nov 11 2026. No macro, syntax, notation, axiom, sorry.
-/
import Derived.Test.YteohopnpcanfpaaGreatDoorRows
import GoSem.ClaimSeven
namespace Go.Proofs.YteohopnpcanfpaaGreatDoor
namespace Rows

/-- THE TIED CARD OF 'cleanselaw06.SchemaMatchesReference'. -/
def schemaMatchesReferenceCard : Claim7 := { stood := { row := schemaMatchesReferenceRow, standIns := [], harness := (true, "05ce747e7a4f74ffe8885c1ba21601b2df627043328f3ccbf574d43a87356883"), looks := true }, kinds := [], alts := [], laidByText := true, laidKinds := [.data, .data, .data, .sentinel, .sentinel], laidTests := true, laidLooks := .later }
def SchemaMatchesReferenceCardSaid : Prop := Claim7.holds Tryz.pinned (.plain (OpenSpec.ofChange schemaMatchesReferenceSpec)) schemaMatchesReferenceCard

/-- THE TIED CARD OF 'cleanselaw06.SchemaChanges'. -/
def schemaChangesCard : Claim7 := { stood := { row := schemaChangesRow, standIns := [], harness := (true, "05ce747e7a4f74ffe8885c1ba21601b2df627043328f3ccbf574d43a87356883"), looks := true }, kinds := [], alts := [], laidByText := true, laidKinds := [.data, .data, .data, .sentinel, .sentinel], laidTests := true, laidLooks := .later }
def SchemaChangesCardSaid : Prop := Claim7.holds Tryz.pinned (.plain (OpenSpec.ofChange schemaChangesSpec)) schemaChangesCard

/-- THE TIED CARD OF 'cleanselaw06.SchemaNames'. -/
def schemaNamesCard : Claim7 := { stood := { row := schemaNamesRow, standIns := [], harness := (true, "05ce747e7a4f74ffe8885c1ba21601b2df627043328f3ccbf574d43a87356883"), looks := true }, kinds := [], alts := [], laidByText := true, laidKinds := [.data, .data, .data, .sentinel, .sentinel], laidTests := true, laidLooks := .later }
def SchemaNamesCardSaid : Prop := Claim7.holds Tryz.pinned (.plain (OpenSpec.ofChange schemaNamesSpec)) schemaNamesCard

/-- THE TIED CARD OF 'cleanselaw06.SchemaRows'. -/
def schemaRowsCard : Claim7 := { stood := { row := schemaRowsRow, standIns := [], harness := (true, "05ce747e7a4f74ffe8885c1ba21601b2df627043328f3ccbf574d43a87356883"), looks := true }, kinds := [], alts := [], laidByText := true, laidKinds := [.data, .data, .data, .sentinel, .sentinel], laidTests := true, laidLooks := .later }
def SchemaRowsCardSaid : Prop := Claim7.holds Tryz.pinned (.plain (OpenSpec.ofChange schemaRowsSpec)) schemaRowsCard

/-- THE TIED CARD OF 'cleanselaw06.SchemaBack'. -/
def schemaBackCard : Claim7 := { stood := { row := schemaBackRow, standIns := [], harness := (true, "05ce747e7a4f74ffe8885c1ba21601b2df627043328f3ccbf574d43a87356883"), looks := true }, kinds := [], alts := [], laidByText := true, laidKinds := [.data, .data, .data, .sentinel, .sentinel], laidTests := true, laidLooks := .later }
def SchemaBackCardSaid : Prop := Claim7.holds Tryz.pinned (.plain (OpenSpec.ofChange schemaBackSpec)) schemaBackCard

/-- THE TIED CARD OF 'cleanselaw06.SchemaTables'. -/
def schemaTablesCard : Claim7 := { stood := { row := schemaTablesRow, standIns := [], harness := (true, "05ce747e7a4f74ffe8885c1ba21601b2df627043328f3ccbf574d43a87356883"), looks := true }, kinds := [], alts := [], laidByText := true, laidKinds := [.data, .data, .data, .sentinel, .sentinel], laidTests := true, laidLooks := .later }
def SchemaTablesCardSaid : Prop := Claim7.holds Tryz.pinned (.plain (OpenSpec.ofChange schemaTablesSpec)) schemaTablesCard

/-- THE TIED CARD OF 'cleanselaw43.MigrateMatchesReference'. -/
def migrateMatchesReferenceCard : Claim7 := { stood := { row := migrateMatchesReferenceRow, standIns := [], harness := (true, "05ce747e7a4f74ffe8885c1ba21601b2df627043328f3ccbf574d43a87356883"), looks := true }, kinds := [], alts := [], laidByText := true, laidKinds := [.data, .data, .data, .sentinel, .sentinel], laidTests := true, laidLooks := .later }
def MigrateMatchesReferenceCardSaid : Prop := Claim7.holds Tryz.pinned (.plain (OpenSpec.ofChange migrateMatchesReferenceSpec)) migrateMatchesReferenceCard

/-- THE TIED CARD OF 'cleanselaw43.MigrateAtOnce'. -/
def migrateAtOnceCard : Claim7 := { stood := { row := migrateAtOnceRow, standIns := [], harness := (true, "05ce747e7a4f74ffe8885c1ba21601b2df627043328f3ccbf574d43a87356883"), looks := true }, kinds := [], alts := [], laidByText := true, laidKinds := [.data, .data, .data, .sentinel, .sentinel], laidTests := true, laidLooks := .later }
def MigrateAtOnceCardSaid : Prop := Claim7.holds Tryz.pinned (.plain (OpenSpec.ofChange migrateAtOnceSpec)) migrateAtOnceCard

/-- THE TIED CARD OF 'cleanselaw43.MigrateNothing'. -/
def migrateNothingCard : Claim7 := { stood := { row := migrateNothingRow, standIns := [], harness := (true, "05ce747e7a4f74ffe8885c1ba21601b2df627043328f3ccbf574d43a87356883"), looks := true }, kinds := [], alts := [], laidByText := true, laidKinds := [.data, .data, .data, .sentinel, .sentinel], laidTests := true, laidLooks := .later }
def MigrateNothingCardSaid : Prop := Claim7.holds Tryz.pinned (.plain (OpenSpec.ofChange migrateNothingSpec)) migrateNothingCard

/-- THE TIED CARD OF 'cleanselaw43.MigrateSteps'. -/
def migrateStepsCard : Claim7 := { stood := { row := migrateStepsRow, standIns := [], harness := (true, "05ce747e7a4f74ffe8885c1ba21601b2df627043328f3ccbf574d43a87356883"), looks := true }, kinds := [], alts := [], laidByText := true, laidKinds := [.data, .data, .data, .sentinel, .sentinel], laidTests := true, laidLooks := .later }
def MigrateStepsCardSaid : Prop := Claim7.holds Tryz.pinned (.plain (OpenSpec.ofChange migrateStepsSpec)) migrateStepsCard

/-- THE TIED CARD OF 'cleanselaw43.MigrateValid'. -/
def migrateValidCard : Claim7 := { stood := { row := migrateValidRow, standIns := [], harness := (true, "05ce747e7a4f74ffe8885c1ba21601b2df627043328f3ccbf574d43a87356883"), looks := true }, kinds := [], alts := [], laidByText := true, laidKinds := [.data, .data, .data, .sentinel, .sentinel], laidTests := true, laidLooks := .later }
def MigrateValidCardSaid : Prop := Claim7.holds Tryz.pinned (.plain (OpenSpec.ofChange migrateValidSpec)) migrateValidCard

/-- THE TIED CARD OF 'cleanselaw43.MigrateClosed'. -/
def migrateClosedCard : Claim7 := { stood := { row := migrateClosedRow, standIns := [], harness := (true, "05ce747e7a4f74ffe8885c1ba21601b2df627043328f3ccbf574d43a87356883"), looks := true }, kinds := [], alts := [], laidByText := true, laidKinds := [.data, .data, .data, .sentinel, .sentinel], laidTests := true, laidLooks := .later }
def MigrateClosedCardSaid : Prop := Claim7.holds Tryz.pinned (.plain (OpenSpec.ofChange migrateClosedSpec)) migrateClosedCard

/-- THE SECOND FORM's CARD OF 'cleanselaw06.SchemaMatchesReference'. -/
def schemaMatchesReferenceUptoCard : Claim7 := { stood := { row := schemaMatchesReferenceUptoRow, standIns := [], harness := (true, "05ce747e7a4f74ffe8885c1ba21601b2df627043328f3ccbf574d43a87356883"), looks := true }, kinds := [], alts := [], laidByText := true, laidKinds := [.data, .data, .data, .sentinel, .sentinel], laidTests := true, laidLooks := .later }
def SchemaMatchesReferenceUptoCardSaid : Prop := Claim7.holds Tryz.pinned (.plain (OpenSpec.upto schemaMatchesReferenceSpec)) schemaMatchesReferenceUptoCard

/-- THE SECOND FORM's CARD OF 'cleanselaw06.SchemaChanges'. -/
def schemaChangesUptoCard : Claim7 := { stood := { row := schemaChangesUptoRow, standIns := [], harness := (true, "05ce747e7a4f74ffe8885c1ba21601b2df627043328f3ccbf574d43a87356883"), looks := true }, kinds := [], alts := [], laidByText := true, laidKinds := [.data, .data, .data, .sentinel, .sentinel], laidTests := true, laidLooks := .later }
def SchemaChangesUptoCardSaid : Prop := Claim7.holds Tryz.pinned (.plain (OpenSpec.upto schemaChangesSpec)) schemaChangesUptoCard

/-- THE SECOND FORM's CARD OF 'cleanselaw06.SchemaNames'. -/
def schemaNamesUptoCard : Claim7 := { stood := { row := schemaNamesUptoRow, standIns := [], harness := (true, "05ce747e7a4f74ffe8885c1ba21601b2df627043328f3ccbf574d43a87356883"), looks := true }, kinds := [], alts := [], laidByText := true, laidKinds := [.data, .data, .data, .sentinel, .sentinel], laidTests := true, laidLooks := .later }
def SchemaNamesUptoCardSaid : Prop := Claim7.holds Tryz.pinned (.plain (OpenSpec.upto schemaNamesSpec)) schemaNamesUptoCard

/-- THE SECOND FORM's CARD OF 'cleanselaw06.SchemaRows'. -/
def schemaRowsUptoCard : Claim7 := { stood := { row := schemaRowsUptoRow, standIns := [], harness := (true, "05ce747e7a4f74ffe8885c1ba21601b2df627043328f3ccbf574d43a87356883"), looks := true }, kinds := [], alts := [], laidByText := true, laidKinds := [.data, .data, .data, .sentinel, .sentinel], laidTests := true, laidLooks := .later }
def SchemaRowsUptoCardSaid : Prop := Claim7.holds Tryz.pinned (.plain (OpenSpec.upto schemaRowsSpec)) schemaRowsUptoCard

/-- THE SECOND FORM's CARD OF 'cleanselaw06.SchemaBack'. -/
def schemaBackUptoCard : Claim7 := { stood := { row := schemaBackUptoRow, standIns := [], harness := (true, "05ce747e7a4f74ffe8885c1ba21601b2df627043328f3ccbf574d43a87356883"), looks := true }, kinds := [], alts := [], laidByText := true, laidKinds := [.data, .data, .data, .sentinel, .sentinel], laidTests := true, laidLooks := .later }
def SchemaBackUptoCardSaid : Prop := Claim7.holds Tryz.pinned (.plain (OpenSpec.upto schemaBackSpec)) schemaBackUptoCard

/-- THE SECOND FORM's CARD OF 'cleanselaw06.SchemaTables'. -/
def schemaTablesUptoCard : Claim7 := { stood := { row := schemaTablesUptoRow, standIns := [], harness := (true, "05ce747e7a4f74ffe8885c1ba21601b2df627043328f3ccbf574d43a87356883"), looks := true }, kinds := [], alts := [], laidByText := true, laidKinds := [.data, .data, .data, .sentinel, .sentinel], laidTests := true, laidLooks := .later }
def SchemaTablesUptoCardSaid : Prop := Claim7.holds Tryz.pinned (.plain (OpenSpec.upto schemaTablesSpec)) schemaTablesUptoCard

/-- THE SECOND FORM's CARD OF 'cleanselaw43.MigrateMatchesReference'. -/
def migrateMatchesReferenceUptoCard : Claim7 := { stood := { row := migrateMatchesReferenceUptoRow, standIns := [], harness := (true, "05ce747e7a4f74ffe8885c1ba21601b2df627043328f3ccbf574d43a87356883"), looks := true }, kinds := [], alts := [], laidByText := true, laidKinds := [.data, .data, .data, .sentinel, .sentinel], laidTests := true, laidLooks := .later }
def MigrateMatchesReferenceUptoCardSaid : Prop := Claim7.holds Tryz.pinned (.plain (OpenSpec.upto migrateMatchesReferenceSpec)) migrateMatchesReferenceUptoCard

/-- THE SECOND FORM's CARD OF 'cleanselaw43.MigrateAtOnce'. -/
def migrateAtOnceUptoCard : Claim7 := { stood := { row := migrateAtOnceUptoRow, standIns := [], harness := (true, "05ce747e7a4f74ffe8885c1ba21601b2df627043328f3ccbf574d43a87356883"), looks := true }, kinds := [], alts := [], laidByText := true, laidKinds := [.data, .data, .data, .sentinel, .sentinel], laidTests := true, laidLooks := .later }
def MigrateAtOnceUptoCardSaid : Prop := Claim7.holds Tryz.pinned (.plain (OpenSpec.upto migrateAtOnceSpec)) migrateAtOnceUptoCard

/-- THE SECOND FORM's CARD OF 'cleanselaw43.MigrateNothing'. -/
def migrateNothingUptoCard : Claim7 := { stood := { row := migrateNothingUptoRow, standIns := [], harness := (true, "05ce747e7a4f74ffe8885c1ba21601b2df627043328f3ccbf574d43a87356883"), looks := true }, kinds := [], alts := [], laidByText := true, laidKinds := [.data, .data, .data, .sentinel, .sentinel], laidTests := true, laidLooks := .later }
def MigrateNothingUptoCardSaid : Prop := Claim7.holds Tryz.pinned (.plain (OpenSpec.upto migrateNothingSpec)) migrateNothingUptoCard

/-- THE SECOND FORM's CARD OF 'cleanselaw43.MigrateSteps'. -/
def migrateStepsUptoCard : Claim7 := { stood := { row := migrateStepsUptoRow, standIns := [], harness := (true, "05ce747e7a4f74ffe8885c1ba21601b2df627043328f3ccbf574d43a87356883"), looks := true }, kinds := [], alts := [], laidByText := true, laidKinds := [.data, .data, .data, .sentinel, .sentinel], laidTests := true, laidLooks := .later }
def MigrateStepsUptoCardSaid : Prop := Claim7.holds Tryz.pinned (.plain (OpenSpec.upto migrateStepsSpec)) migrateStepsUptoCard

/-- THE SECOND FORM's CARD OF 'cleanselaw43.MigrateValid'. -/
def migrateValidUptoCard : Claim7 := { stood := { row := migrateValidUptoRow, standIns := [], harness := (true, "05ce747e7a4f74ffe8885c1ba21601b2df627043328f3ccbf574d43a87356883"), looks := true }, kinds := [], alts := [], laidByText := true, laidKinds := [.data, .data, .data, .sentinel, .sentinel], laidTests := true, laidLooks := .later }
def MigrateValidUptoCardSaid : Prop := Claim7.holds Tryz.pinned (.plain (OpenSpec.upto migrateValidSpec)) migrateValidUptoCard

/-- THE SECOND FORM's CARD OF 'cleanselaw43.MigrateClosed'. -/
def migrateClosedUptoCard : Claim7 := { stood := { row := migrateClosedUptoRow, standIns := [], harness := (true, "05ce747e7a4f74ffe8885c1ba21601b2df627043328f3ccbf574d43a87356883"), looks := true }, kinds := [], alts := [], laidByText := true, laidKinds := [.data, .data, .data, .sentinel, .sentinel], laidTests := true, laidLooks := .later }
def MigrateClosedUptoCardSaid : Prop := Claim7.holds Tryz.pinned (.plain (OpenSpec.upto migrateClosedSpec)) migrateClosedUptoCard
end Rows
end Go.Proofs.YteohopnpcanfpaaGreatDoor
