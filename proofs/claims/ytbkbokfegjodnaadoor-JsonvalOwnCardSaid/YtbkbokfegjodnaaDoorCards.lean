/-
  DERIVED. GIVEN WITH THE SEED: THE CARDS: each row of YtbkbokfegjodnaaDoorRows.lean that lists a variable, with what it lists TIED to the program's text (the seventh form; the later family's looks); each row that meets fmt, with fmt's text TOLD by the authors' own Lean function (tested against real Go, not proved from fmt's source: count such statements apart). THE CARD IS WHAT COUNTS. Prove the row's statement (the work); the ties are given (YtbkbokfegjodnaaDoorTie.lean); close each card by the builder's one call (the guide's Derived/Test/ToyasCard.lean, 'card_holds'). Laid BY PROGRAM, IN A SANDBOX (cutbox-door.mjs). By AI agents, Wed Nov 11 2026. No macro, syntax, notation, axiom, sorry.
-/
import Derived.Test.YtbkbokfegjodnaaDoorRows
import GoSem.ClaimSeven
namespace Go.Proofs.YtbkbokfegjodnaaDoor
namespace Rows

/-- THE TIED CARD OF 'docketlaw01.JsonvalNames'. -/
def jsonvalNamesCard : Claim7 := { stood := { row := jsonvalNamesRow, standIns := [], harness := (true, "fbbe72450cadb944a810d706e1704c4d8d1d5837fa313ffd6f9ba230b9581290"), looks := true }, kinds := [], alts := [], laidByText := true, laidKinds := [.data, .data, .data, .data, .sentinel, .sentinel, .pinned], laidTests := true, laidLooks := .later }
def JsonvalNamesCardSaid : Prop := Claim7.holds Tryd.pinned (.plain (OpenSpec.ofChange jsonvalNamesSpec)) jsonvalNamesCard

/-- THE TIED CARD OF 'docketlaw01.JsonvalParses'. -/
def jsonvalParsesCard : Claim7 := { stood := { row := jsonvalParsesRow, standIns := [], harness := (true, "fbbe72450cadb944a810d706e1704c4d8d1d5837fa313ffd6f9ba230b9581290"), looks := true }, kinds := [], alts := [], laidByText := true, laidKinds := [.data, .data, .data, .data, .sentinel, .sentinel, .pinned], laidTests := true, laidLooks := .later }
def JsonvalParsesCardSaid : Prop := Claim7.holds Tryd.pinned (.plain (OpenSpec.ofChange jsonvalParsesSpec)) jsonvalParsesCard

/-- THE TIED CARD OF 'docketlaw01.JsonvalBack'. -/
def jsonvalBackCard : Claim7 := { stood := { row := jsonvalBackRow, standIns := [], harness := (true, "fbbe72450cadb944a810d706e1704c4d8d1d5837fa313ffd6f9ba230b9581290"), looks := true }, kinds := [], alts := [], laidByText := true, laidKinds := [.data, .data, .data, .data, .sentinel, .sentinel, .pinned], laidTests := true, laidLooks := .later }
def JsonvalBackCardSaid : Prop := Claim7.holds Tryd.pinned (.plain (OpenSpec.ofChange jsonvalBackSpec)) jsonvalBackCard

/-- THE TIED CARD OF 'docketlaw01.JsonvalForm'. -/
def jsonvalFormCard : Claim7 := { stood := { row := jsonvalFormRow, standIns := [], harness := (true, "fbbe72450cadb944a810d706e1704c4d8d1d5837fa313ffd6f9ba230b9581290"), looks := true }, kinds := [], alts := [], laidByText := true, laidKinds := [.data, .data, .data, .data, .sentinel, .sentinel, .pinned], laidTests := true, laidLooks := .later }
def JsonvalFormCardSaid : Prop := Claim7.holds Tryd.pinned (.plain (OpenSpec.ofChange jsonvalFormSpec)) jsonvalFormCard

/-- THE TIED CARD OF 'docketlaw01.JsonvalFirst'. -/
def jsonvalFirstCard : Claim7 := { stood := { row := jsonvalFirstRow, standIns := [], harness := (true, "fbbe72450cadb944a810d706e1704c4d8d1d5837fa313ffd6f9ba230b9581290"), looks := true }, kinds := [], alts := [], laidByText := true, laidKinds := [.data, .data, .data, .data, .sentinel, .sentinel, .pinned], laidTests := true, laidLooks := .later }
def JsonvalFirstCardSaid : Prop := Claim7.holds Tryd.pinned (.plain (OpenSpec.ofChange jsonvalFirstSpec)) jsonvalFirstCard

/-- THE TIED CARD OF 'docketlaw01.JsonvalOwn'. -/
def jsonvalOwnCard : Claim7 := { stood := { row := jsonvalOwnRow, standIns := [], harness := (true, "fbbe72450cadb944a810d706e1704c4d8d1d5837fa313ffd6f9ba230b9581290"), looks := true }, kinds := [], alts := [], laidByText := true, laidKinds := [.data, .data, .data, .data, .sentinel, .sentinel, .pinned], laidTests := true, laidLooks := .later }
def JsonvalOwnCardSaid : Prop := Claim7.holds Tryd.pinned (.plain (OpenSpec.ofChange jsonvalOwnSpec)) jsonvalOwnCard

/-- THE TIED CARD OF 'docketlaw01.JsonvalPrints'. -/
def jsonvalPrintsCard : Claim7 := { stood := { row := jsonvalPrintsRow, standIns := [], harness := (true, "fbbe72450cadb944a810d706e1704c4d8d1d5837fa313ffd6f9ba230b9581290"), looks := true }, kinds := [], alts := [], laidByText := true, laidKinds := [.data, .data, .data, .data, .sentinel, .sentinel, .pinned], laidTests := true, laidLooks := .later }
def JsonvalPrintsCardSaid : Prop := Claim7.holds Tryd.pinned (.plain (OpenSpec.ofChange jsonvalPrintsSpec)) jsonvalPrintsCard

/-- THE TIED CARD OF 'docketlaw01.JsonvalMakes'. -/
def jsonvalMakesCard : Claim7 := { stood := { row := jsonvalMakesRow, standIns := [], harness := (true, "fbbe72450cadb944a810d706e1704c4d8d1d5837fa313ffd6f9ba230b9581290"), looks := true }, kinds := [], alts := [], laidByText := true, laidKinds := [.data, .data, .data, .data, .sentinel, .sentinel, .pinned], laidTests := true, laidLooks := .later }
def JsonvalMakesCardSaid : Prop := Claim7.holds Tryd.pinned (.plain (OpenSpec.ofChange jsonvalMakesSpec)) jsonvalMakesCard

/-- THE TIED CARD OF 'docketlaw01.JsonvalUnlike'. -/
def jsonvalUnlikeCard : Claim7 := { stood := { row := jsonvalUnlikeRow, standIns := [], harness := (true, "fbbe72450cadb944a810d706e1704c4d8d1d5837fa313ffd6f9ba230b9581290"), looks := true }, kinds := [], alts := [], laidByText := true, laidKinds := [.data, .data, .data, .data, .sentinel, .sentinel, .pinned], laidTests := true, laidLooks := .later }
def JsonvalUnlikeCardSaid : Prop := Claim7.holds Tryd.pinned (.plain (OpenSpec.ofChange jsonvalUnlikeSpec)) jsonvalUnlikeCard

/-- THE TIED CARD OF 'docketlaw01.JsonvalAsks'. -/
def jsonvalAsksCard : Claim7 := { stood := { row := jsonvalAsksRow, standIns := [], harness := (true, "fbbe72450cadb944a810d706e1704c4d8d1d5837fa313ffd6f9ba230b9581290"), looks := true }, kinds := [], alts := [], laidByText := true, laidKinds := [.data, .data, .data, .data, .sentinel, .sentinel, .pinned], laidTests := true, laidLooks := .later }
def JsonvalAsksCardSaid : Prop := Claim7.holds Tryd.pinned (.plain (OpenSpec.ofChange jsonvalAsksSpec)) jsonvalAsksCard

/-- THE TIED CARD OF 'docketlaw01.JsonvalEquals'. -/
def jsonvalEqualsCard : Claim7 := { stood := { row := jsonvalEqualsRow, standIns := [], harness := (true, "fbbe72450cadb944a810d706e1704c4d8d1d5837fa313ffd6f9ba230b9581290"), looks := true }, kinds := [], alts := [], laidByText := true, laidKinds := [.data, .data, .data, .data, .sentinel, .sentinel, .pinned], laidTests := true, laidLooks := .later }
def JsonvalEqualsCardSaid : Prop := Claim7.holds Tryd.pinned (.plain (OpenSpec.ofChange jsonvalEqualsSpec)) jsonvalEqualsCard

/-- THE SECOND FORM's CARD OF 'docketlaw01.JsonvalNames'. -/
def jsonvalNamesUptoCard : Claim7 := { stood := { row := jsonvalNamesUptoRow, standIns := [], harness := (true, "fbbe72450cadb944a810d706e1704c4d8d1d5837fa313ffd6f9ba230b9581290"), looks := true }, kinds := [], alts := [], laidByText := true, laidKinds := [.data, .data, .data, .data, .sentinel, .sentinel, .pinned], laidTests := true, laidLooks := .later }
def JsonvalNamesUptoCardSaid : Prop := Claim7.holds Tryd.pinned (.plain (OpenSpec.upto jsonvalNamesSpec)) jsonvalNamesUptoCard

/-- THE SECOND FORM's CARD OF 'docketlaw01.JsonvalParses'. -/
def jsonvalParsesUptoCard : Claim7 := { stood := { row := jsonvalParsesUptoRow, standIns := [], harness := (true, "fbbe72450cadb944a810d706e1704c4d8d1d5837fa313ffd6f9ba230b9581290"), looks := true }, kinds := [], alts := [], laidByText := true, laidKinds := [.data, .data, .data, .data, .sentinel, .sentinel, .pinned], laidTests := true, laidLooks := .later }
def JsonvalParsesUptoCardSaid : Prop := Claim7.holds Tryd.pinned (.plain (OpenSpec.upto jsonvalParsesSpec)) jsonvalParsesUptoCard

/-- THE SECOND FORM's CARD OF 'docketlaw01.JsonvalBack'. -/
def jsonvalBackUptoCard : Claim7 := { stood := { row := jsonvalBackUptoRow, standIns := [], harness := (true, "fbbe72450cadb944a810d706e1704c4d8d1d5837fa313ffd6f9ba230b9581290"), looks := true }, kinds := [], alts := [], laidByText := true, laidKinds := [.data, .data, .data, .data, .sentinel, .sentinel, .pinned], laidTests := true, laidLooks := .later }
def JsonvalBackUptoCardSaid : Prop := Claim7.holds Tryd.pinned (.plain (OpenSpec.upto jsonvalBackSpec)) jsonvalBackUptoCard

/-- THE SECOND FORM's CARD OF 'docketlaw01.JsonvalForm'. -/
def jsonvalFormUptoCard : Claim7 := { stood := { row := jsonvalFormUptoRow, standIns := [], harness := (true, "fbbe72450cadb944a810d706e1704c4d8d1d5837fa313ffd6f9ba230b9581290"), looks := true }, kinds := [], alts := [], laidByText := true, laidKinds := [.data, .data, .data, .data, .sentinel, .sentinel, .pinned], laidTests := true, laidLooks := .later }
def JsonvalFormUptoCardSaid : Prop := Claim7.holds Tryd.pinned (.plain (OpenSpec.upto jsonvalFormSpec)) jsonvalFormUptoCard

/-- THE SECOND FORM's CARD OF 'docketlaw01.JsonvalFirst'. -/
def jsonvalFirstUptoCard : Claim7 := { stood := { row := jsonvalFirstUptoRow, standIns := [], harness := (true, "fbbe72450cadb944a810d706e1704c4d8d1d5837fa313ffd6f9ba230b9581290"), looks := true }, kinds := [], alts := [], laidByText := true, laidKinds := [.data, .data, .data, .data, .sentinel, .sentinel, .pinned], laidTests := true, laidLooks := .later }
def JsonvalFirstUptoCardSaid : Prop := Claim7.holds Tryd.pinned (.plain (OpenSpec.upto jsonvalFirstSpec)) jsonvalFirstUptoCard

/-- THE SECOND FORM's CARD OF 'docketlaw01.JsonvalOwn'. -/
def jsonvalOwnUptoCard : Claim7 := { stood := { row := jsonvalOwnUptoRow, standIns := [], harness := (true, "fbbe72450cadb944a810d706e1704c4d8d1d5837fa313ffd6f9ba230b9581290"), looks := true }, kinds := [], alts := [], laidByText := true, laidKinds := [.data, .data, .data, .data, .sentinel, .sentinel, .pinned], laidTests := true, laidLooks := .later }
def JsonvalOwnUptoCardSaid : Prop := Claim7.holds Tryd.pinned (.plain (OpenSpec.upto jsonvalOwnSpec)) jsonvalOwnUptoCard

/-- THE SECOND FORM's CARD OF 'docketlaw01.JsonvalPrints'. -/
def jsonvalPrintsUptoCard : Claim7 := { stood := { row := jsonvalPrintsUptoRow, standIns := [], harness := (true, "fbbe72450cadb944a810d706e1704c4d8d1d5837fa313ffd6f9ba230b9581290"), looks := true }, kinds := [], alts := [], laidByText := true, laidKinds := [.data, .data, .data, .data, .sentinel, .sentinel, .pinned], laidTests := true, laidLooks := .later }
def JsonvalPrintsUptoCardSaid : Prop := Claim7.holds Tryd.pinned (.plain (OpenSpec.upto jsonvalPrintsSpec)) jsonvalPrintsUptoCard

/-- THE SECOND FORM's CARD OF 'docketlaw01.JsonvalMakes'. -/
def jsonvalMakesUptoCard : Claim7 := { stood := { row := jsonvalMakesUptoRow, standIns := [], harness := (true, "fbbe72450cadb944a810d706e1704c4d8d1d5837fa313ffd6f9ba230b9581290"), looks := true }, kinds := [], alts := [], laidByText := true, laidKinds := [.data, .data, .data, .data, .sentinel, .sentinel, .pinned], laidTests := true, laidLooks := .later }
def JsonvalMakesUptoCardSaid : Prop := Claim7.holds Tryd.pinned (.plain (OpenSpec.upto jsonvalMakesSpec)) jsonvalMakesUptoCard

/-- THE SECOND FORM's CARD OF 'docketlaw01.JsonvalUnlike'. -/
def jsonvalUnlikeUptoCard : Claim7 := { stood := { row := jsonvalUnlikeUptoRow, standIns := [], harness := (true, "fbbe72450cadb944a810d706e1704c4d8d1d5837fa313ffd6f9ba230b9581290"), looks := true }, kinds := [], alts := [], laidByText := true, laidKinds := [.data, .data, .data, .data, .sentinel, .sentinel, .pinned], laidTests := true, laidLooks := .later }
def JsonvalUnlikeUptoCardSaid : Prop := Claim7.holds Tryd.pinned (.plain (OpenSpec.upto jsonvalUnlikeSpec)) jsonvalUnlikeUptoCard

/-- THE SECOND FORM's CARD OF 'docketlaw01.JsonvalAsks'. -/
def jsonvalAsksUptoCard : Claim7 := { stood := { row := jsonvalAsksUptoRow, standIns := [], harness := (true, "fbbe72450cadb944a810d706e1704c4d8d1d5837fa313ffd6f9ba230b9581290"), looks := true }, kinds := [], alts := [], laidByText := true, laidKinds := [.data, .data, .data, .data, .sentinel, .sentinel, .pinned], laidTests := true, laidLooks := .later }
def JsonvalAsksUptoCardSaid : Prop := Claim7.holds Tryd.pinned (.plain (OpenSpec.upto jsonvalAsksSpec)) jsonvalAsksUptoCard

/-- THE SECOND FORM's CARD OF 'docketlaw01.JsonvalEquals'. -/
def jsonvalEqualsUptoCard : Claim7 := { stood := { row := jsonvalEqualsUptoRow, standIns := [], harness := (true, "fbbe72450cadb944a810d706e1704c4d8d1d5837fa313ffd6f9ba230b9581290"), looks := true }, kinds := [], alts := [], laidByText := true, laidKinds := [.data, .data, .data, .data, .sentinel, .sentinel, .pinned], laidTests := true, laidLooks := .later }
def JsonvalEqualsUptoCardSaid : Prop := Claim7.holds Tryd.pinned (.plain (OpenSpec.upto jsonvalEqualsSpec)) jsonvalEqualsUptoCard
end Rows
end Go.Proofs.YtbkbokfegjodnaaDoor
