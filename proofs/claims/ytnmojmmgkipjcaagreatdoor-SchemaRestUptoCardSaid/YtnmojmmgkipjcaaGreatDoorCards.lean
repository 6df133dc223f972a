/-
  DERIVED. GIVEN WITH THE SEED: THE CARDS: each row of YtnmojmmgkipjcaaGreatDoorRows.lean that lists a variable, with what it lists TIED to the program's text (the seventh form; the later family's looks); each row that meets fmt, with fmt's text TOLD by the authors' own Lean function (tested against real Go, not proved from fmt's source: count such statements apart). THE CARD IS WHAT COUNTS. Prove the row's statement (the work); the ties are given (YtnmojmmgkipjcaaGreatDoorTie.lean); close each card by the builder's one call (the guide's Derived/Test/ToyasCard.lean, 'card_holds'). Laid BY PROGRAM, IN A SANDBOX (cutbox-door.mjs). By AI agents, Wed Nov 11 2026. No macro, syntax, notation, axiom, sorry.
-/
import Derived.Test.YtnmojmmgkipjcaaGreatDoorRows
import GoSem.ClaimSeven
namespace Go.Proofs.YtnmojmmgkipjcaaGreatDoor
namespace Rows

/-- THE TIED CARD OF 'docketlaw21.SchemaJoins'. -/
def schemaJoinsCard : Claim7 := { stood := { row := schemaJoinsRow, standIns := [], harness := (true, "288c8d46f2d8af3cb147beda33cc63fd796af8d8179fd66c4219f49c92fbf41d"), looks := true }, kinds := [], alts := [], laidByText := true, laidKinds := [.data, .pinned], laidTests := true, laidLooks := .later }
def SchemaJoinsCardSaid : Prop := Claim7.holds Tryz.pinned (.plain (OpenSpec.ofChange schemaJoinsSpec)) schemaJoinsCard

/-- THE TIED CARD OF 'docketlaw21.SchemaRest'. -/
def schemaRestCard : Claim7 := { stood := { row := schemaRestRow, standIns := [], harness := (true, "288c8d46f2d8af3cb147beda33cc63fd796af8d8179fd66c4219f49c92fbf41d"), looks := true }, kinds := [], alts := [], laidByText := true, laidKinds := [.data, .pinned], laidTests := true, laidLooks := .later }
def SchemaRestCardSaid : Prop := Claim7.holds Tryz.pinned (.plain (OpenSpec.ofChange schemaRestSpec)) schemaRestCard

/-- THE TIED CARD OF 'docketlaw21.SchemaParses'. -/
def schemaParsesCard : Claim7 := { stood := { row := schemaParsesRow, standIns := [], harness := (true, "288c8d46f2d8af3cb147beda33cc63fd796af8d8179fd66c4219f49c92fbf41d"), looks := true }, kinds := [], alts := [], laidByText := true, laidKinds := [.data, .pinned], laidTests := true, laidLooks := .later }
def SchemaParsesCardSaid : Prop := Claim7.holds Tryz.pinned (.plain (OpenSpec.ofChange schemaParsesSpec)) schemaParsesCard

/-- THE SECOND FORM's CARD OF 'docketlaw21.SchemaJoins'. -/
def schemaJoinsUptoCard : Claim7 := { stood := { row := schemaJoinsUptoRow, standIns := [], harness := (true, "288c8d46f2d8af3cb147beda33cc63fd796af8d8179fd66c4219f49c92fbf41d"), looks := true }, kinds := [], alts := [], laidByText := true, laidKinds := [.data, .pinned], laidTests := true, laidLooks := .later }
def SchemaJoinsUptoCardSaid : Prop := Claim7.holds Tryz.pinned (.plain (OpenSpec.upto schemaJoinsSpec)) schemaJoinsUptoCard

/-- THE SECOND FORM's CARD OF 'docketlaw21.SchemaRest'. -/
def schemaRestUptoCard : Claim7 := { stood := { row := schemaRestUptoRow, standIns := [], harness := (true, "288c8d46f2d8af3cb147beda33cc63fd796af8d8179fd66c4219f49c92fbf41d"), looks := true }, kinds := [], alts := [], laidByText := true, laidKinds := [.data, .pinned], laidTests := true, laidLooks := .later }
def SchemaRestUptoCardSaid : Prop := Claim7.holds Tryz.pinned (.plain (OpenSpec.upto schemaRestSpec)) schemaRestUptoCard

/-- THE SECOND FORM's CARD OF 'docketlaw21.SchemaParses'. -/
def schemaParsesUptoCard : Claim7 := { stood := { row := schemaParsesUptoRow, standIns := [], harness := (true, "288c8d46f2d8af3cb147beda33cc63fd796af8d8179fd66c4219f49c92fbf41d"), looks := true }, kinds := [], alts := [], laidByText := true, laidKinds := [.data, .pinned], laidTests := true, laidLooks := .later }
def SchemaParsesUptoCardSaid : Prop := Claim7.holds Tryz.pinned (.plain (OpenSpec.upto schemaParsesSpec)) schemaParsesUptoCard
end Rows
end Go.Proofs.YtnmojmmgkipjcaaGreatDoor
