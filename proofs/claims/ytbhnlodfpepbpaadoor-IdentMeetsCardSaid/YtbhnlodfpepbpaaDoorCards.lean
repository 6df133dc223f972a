/-
  DERIVED. GIVEN WITH THE SEED: THE CARDS: each row of YtbhnlodfpepbpaaDoorRows.lean that lists a variable, with what it lists TIED to the program's text (the seventh form; the later family's looks); each row that meets fmt, with fmt's text TOLD by the authors' own Lean function (tested against real Go, not proved from fmt's source: count such statements apart). THE CARD IS WHAT COUNTS. Prove the row's statement (the work); the ties are given (YtbhnlodfpepbpaaDoorTie.lean); close each card by the builder's one call (the guide's Derived/Test/ToyasCard.lean, 'card_holds'). Laid BY PROGRAM, IN A SANDBOX (cutbox-door.mjs). By AI agents, Wed Nov 11 2026. No macro, syntax, notation, axiom, sorry.
-/
import Derived.Test.YtbhnlodfpepbpaaDoorRows
import GoSem.ClaimSeven
namespace Go.Proofs.YtbhnlodfpepbpaaDoor
namespace Rows

/-- THE TIED CARD OF 'docketlaw08.IdentMixes'. -/
def identMixesCard : Claim7 := { stood := { row := identMixesRow, standIns := [], harness := (true, "582da8d134bf3b647c5848a8f40e2672a220f32ea9b70ba94f18bf5e63a85c5e"), looks := false }, kinds := [], alts := [], laidByText := true, laidKinds := [.data, .data], laidTests := true, laidLooks := .later }
def IdentMixesCardSaid : Prop := Claim7.holds Tryd.pinned (.plain (OpenSpec.ofChange identMixesSpec)) identMixesCard

/-- THE TIED CARD OF 'docketlaw08.IdentMeets'. -/
def identMeetsCard : Claim7 := { stood := { row := identMeetsRow, standIns := [], harness := (true, "582da8d134bf3b647c5848a8f40e2672a220f32ea9b70ba94f18bf5e63a85c5e"), looks := false }, kinds := [], alts := [], laidByText := true, laidKinds := [.data, .data], laidTests := true, laidLooks := .later }
def IdentMeetsCardSaid : Prop := Claim7.holds Tryd.pinned (.plain (OpenSpec.ofChange identMeetsSpec)) identMeetsCard

/-- THE TIED CARD OF 'docketlaw08.IdentSums'. -/
def identSumsCard : Claim7 := { stood := { row := identSumsRow, standIns := [], harness := (true, "582da8d134bf3b647c5848a8f40e2672a220f32ea9b70ba94f18bf5e63a85c5e"), looks := false }, kinds := [], alts := [], laidByText := true, laidKinds := [.data, .data], laidTests := true, laidLooks := .later }
def IdentSumsCardSaid : Prop := Claim7.holds Tryd.pinned (.plain (OpenSpec.ofChange identSumsSpec)) identSumsCard

/-- THE TIED CARD OF 'docketlaw08.IdentMakes'. -/
def identMakesCard : Claim7 := { stood := { row := identMakesRow, standIns := [], harness := (true, "582da8d134bf3b647c5848a8f40e2672a220f32ea9b70ba94f18bf5e63a85c5e"), looks := false }, kinds := [], alts := [], laidByText := true, laidKinds := [.data, .data], laidTests := true, laidLooks := .later }
def IdentMakesCardSaid : Prop := Claim7.holds Tryd.pinned (.plain (OpenSpec.ofChange identMakesSpec)) identMakesCard

/-- THE TIED CARD OF 'docketlaw08.IdentNil'. -/
def identNilCard : Claim7 := { stood := { row := identNilRow, standIns := [], harness := (true, "582da8d134bf3b647c5848a8f40e2672a220f32ea9b70ba94f18bf5e63a85c5e"), looks := false }, kinds := [], alts := [], laidByText := true, laidKinds := [.data, .data], laidTests := true, laidLooks := .later }
def IdentNilCardSaid : Prop := Claim7.holds Tryd.pinned (.plain (OpenSpec.ofChange identNilSpec)) identNilCard

/-- THE TIED CARD OF 'docketlaw08.IdentNames'. -/
def identNamesCard : Claim7 := { stood := { row := identNamesRow, standIns := [], harness := (true, "582da8d134bf3b647c5848a8f40e2672a220f32ea9b70ba94f18bf5e63a85c5e"), looks := false }, kinds := [], alts := [], laidByText := true, laidKinds := [.data, .data], laidTests := true, laidLooks := .later }
def IdentNamesCardSaid : Prop := Claim7.holds Tryd.pinned (.plain (OpenSpec.ofChange identNamesSpec)) identNamesCard

/-- THE TIED CARD OF 'docketlaw08.IdentKeys'. -/
def identKeysCard : Claim7 := { stood := { row := identKeysRow, standIns := [], harness := (true, "582da8d134bf3b647c5848a8f40e2672a220f32ea9b70ba94f18bf5e63a85c5e"), looks := false }, kinds := [], alts := [], laidByText := true, laidKinds := [.data, .data], laidTests := true, laidLooks := .later }
def IdentKeysCardSaid : Prop := Claim7.holds Tryd.pinned (.plain (OpenSpec.ofChange identKeysSpec)) identKeysCard

/-- THE SECOND FORM's CARD OF 'docketlaw08.IdentMixes'. -/
def identMixesUptoCard : Claim7 := { stood := { row := identMixesUptoRow, standIns := [], harness := (true, "582da8d134bf3b647c5848a8f40e2672a220f32ea9b70ba94f18bf5e63a85c5e"), looks := false }, kinds := [], alts := [], laidByText := true, laidKinds := [.data, .data], laidTests := true, laidLooks := .later }
def IdentMixesUptoCardSaid : Prop := Claim7.holds Tryd.pinned (.plain (OpenSpec.upto identMixesSpec)) identMixesUptoCard

/-- THE SECOND FORM's CARD OF 'docketlaw08.IdentMeets'. -/
def identMeetsUptoCard : Claim7 := { stood := { row := identMeetsUptoRow, standIns := [], harness := (true, "582da8d134bf3b647c5848a8f40e2672a220f32ea9b70ba94f18bf5e63a85c5e"), looks := false }, kinds := [], alts := [], laidByText := true, laidKinds := [.data, .data], laidTests := true, laidLooks := .later }
def IdentMeetsUptoCardSaid : Prop := Claim7.holds Tryd.pinned (.plain (OpenSpec.upto identMeetsSpec)) identMeetsUptoCard

/-- THE SECOND FORM's CARD OF 'docketlaw08.IdentSums'. -/
def identSumsUptoCard : Claim7 := { stood := { row := identSumsUptoRow, standIns := [], harness := (true, "582da8d134bf3b647c5848a8f40e2672a220f32ea9b70ba94f18bf5e63a85c5e"), looks := false }, kinds := [], alts := [], laidByText := true, laidKinds := [.data, .data], laidTests := true, laidLooks := .later }
def IdentSumsUptoCardSaid : Prop := Claim7.holds Tryd.pinned (.plain (OpenSpec.upto identSumsSpec)) identSumsUptoCard

/-- THE SECOND FORM's CARD OF 'docketlaw08.IdentMakes'. -/
def identMakesUptoCard : Claim7 := { stood := { row := identMakesUptoRow, standIns := [], harness := (true, "582da8d134bf3b647c5848a8f40e2672a220f32ea9b70ba94f18bf5e63a85c5e"), looks := false }, kinds := [], alts := [], laidByText := true, laidKinds := [.data, .data], laidTests := true, laidLooks := .later }
def IdentMakesUptoCardSaid : Prop := Claim7.holds Tryd.pinned (.plain (OpenSpec.upto identMakesSpec)) identMakesUptoCard

/-- THE SECOND FORM's CARD OF 'docketlaw08.IdentNil'. -/
def identNilUptoCard : Claim7 := { stood := { row := identNilUptoRow, standIns := [], harness := (true, "582da8d134bf3b647c5848a8f40e2672a220f32ea9b70ba94f18bf5e63a85c5e"), looks := false }, kinds := [], alts := [], laidByText := true, laidKinds := [.data, .data], laidTests := true, laidLooks := .later }
def IdentNilUptoCardSaid : Prop := Claim7.holds Tryd.pinned (.plain (OpenSpec.upto identNilSpec)) identNilUptoCard

/-- THE SECOND FORM's CARD OF 'docketlaw08.IdentNames'. -/
def identNamesUptoCard : Claim7 := { stood := { row := identNamesUptoRow, standIns := [], harness := (true, "582da8d134bf3b647c5848a8f40e2672a220f32ea9b70ba94f18bf5e63a85c5e"), looks := false }, kinds := [], alts := [], laidByText := true, laidKinds := [.data, .data], laidTests := true, laidLooks := .later }
def IdentNamesUptoCardSaid : Prop := Claim7.holds Tryd.pinned (.plain (OpenSpec.upto identNamesSpec)) identNamesUptoCard

/-- THE SECOND FORM's CARD OF 'docketlaw08.IdentKeys'. -/
def identKeysUptoCard : Claim7 := { stood := { row := identKeysUptoRow, standIns := [], harness := (true, "582da8d134bf3b647c5848a8f40e2672a220f32ea9b70ba94f18bf5e63a85c5e"), looks := false }, kinds := [], alts := [], laidByText := true, laidKinds := [.data, .data], laidTests := true, laidLooks := .later }
def IdentKeysUptoCardSaid : Prop := Claim7.holds Tryd.pinned (.plain (OpenSpec.upto identKeysSpec)) identKeysUptoCard
end Rows
end Go.Proofs.YtbhnlodfpepbpaaDoor
