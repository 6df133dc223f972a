/-
  DERIVED. GIVEN WITH THE SEED: THE CARDS: each row of YtnmojmmgkipjcaaDoorRows.lean that lists a variable, with what it lists TIED to the program's text (the seventh form; the later family's looks); each row that meets fmt, with fmt's text TOLD by the authors' own Lean function (tested against real Go, not proved from fmt's source: count such statements apart). THE CARD IS WHAT COUNTS. Prove the row's statement (the work); the ties are given (YtnmojmmgkipjcaaDoorTie.lean); close each card by the builder's one call (the guide's Derived/Test/ToyasCard.lean, 'card_holds'). Laid BY PROGRAM, IN A SANDBOX (cutbox-door.mjs). By AI agents, Wed Nov 11 2026. No macro, syntax, notation, axiom, sorry.
-/
import Derived.Test.YtnmojmmgkipjcaaDoorRows
import GoSem.ClaimSeven
namespace Go.Proofs.YtnmojmmgkipjcaaDoor
namespace Rows

/-- THE TIED CARD OF 'docketlaw21.SchemaNil'. -/
def schemaNilCard : Claim7 := { stood := { row := schemaNilRow, standIns := [], harness := (true, "b53af47cc352433daddb8ef1d38f8fab76f185acb075d04dfe4398a4d030051e"), looks := true }, kinds := [], alts := [], laidByText := true, laidKinds := [.data, .pinned], laidTests := true, laidLooks := .later }
def SchemaNilCardSaid : Prop := Claim7.holds Tryd.pinned (.plain (OpenSpec.ofChange schemaNilSpec)) schemaNilCard

/-- THE SECOND FORM's CARD OF 'docketlaw21.SchemaNil'. -/
def schemaNilUptoCard : Claim7 := { stood := { row := schemaNilUptoRow, standIns := [], harness := (true, "b53af47cc352433daddb8ef1d38f8fab76f185acb075d04dfe4398a4d030051e"), looks := true }, kinds := [], alts := [], laidByText := true, laidKinds := [.data, .pinned], laidTests := true, laidLooks := .later }
def SchemaNilUptoCardSaid : Prop := Claim7.holds Tryd.pinned (.plain (OpenSpec.upto schemaNilSpec)) schemaNilUptoCard
end Rows
end Go.Proofs.YtnmojmmgkipjcaaDoor
