/-
  DERIVED. GIVEN WITH THE SEED: THE CARDS: each row of YtkpickojeghppaaDoorRows.lean that lists a variable, with what it lists TIED to the program's text (the seventh form; the later family's looks); each row that meets fmt, with fmt's text TOLD by the authors' own Lean function (tested against real Go, not proved from fmt's source: count such statements apart). THE CARD IS WHAT COUNTS. Prove the row's statement (the work); the ties are given (YtkpickojeghppaaDoorTie.lean); close each card by the builder's one call (the guide's Derived/Test/ToyasCard.lean, 'card_holds'). Laid BY PROGRAM, IN A SANDBOX (cutbox-door.mjs). By AI agents, Wed Nov 11 2026. No macro, syntax, notation, axiom, sorry.
-/
import Derived.Test.YtkpickojeghppaaDoorRows
import GoSem.ClaimSeven
namespace Go.Proofs.YtkpickojeghppaaDoor
namespace Rows

/-- THE TIED CARD OF 'docketlaw28.WireNames'. -/
def wireNamesCard : Claim7 := { stood := { row := wireNamesRow, standIns := [], harness := (true, "b8edd405a27828c30b5c697fa88aa8cff9a03b4f987d82b823f867417bbfc3a4"), looks := true }, kinds := [], alts := [], laidByText := true, laidKinds := [.data, .data, .data, .sentinel, .sentinel], laidTests := true, laidLooks := .later }
def WireNamesCardSaid : Prop := Claim7.holds Tryd.pinned (.plain (OpenSpec.ofChange wireNamesSpec)) wireNamesCard

/-- THE TIED CARD OF 'docketlaw28.WireMessages'. -/
def wireMessagesCard : Claim7 := { stood := { row := wireMessagesRow, standIns := [], harness := (true, "b8edd405a27828c30b5c697fa88aa8cff9a03b4f987d82b823f867417bbfc3a4"), looks := true }, kinds := [], alts := [], laidByText := true, laidKinds := [.data, .data, .data, .sentinel, .sentinel], laidTests := true, laidLooks := .later }
def WireMessagesCardSaid : Prop := Claim7.holds Tryd.pinned (.plain (OpenSpec.ofChange wireMessagesSpec)) wireMessagesCard

/-- THE TIED CARD OF 'docketlaw28.WireBack'. -/
def wireBackCard : Claim7 := { stood := { row := wireBackRow, standIns := [], harness := (true, "b8edd405a27828c30b5c697fa88aa8cff9a03b4f987d82b823f867417bbfc3a4"), looks := true }, kinds := [], alts := [], laidByText := true, laidKinds := [.data, .data, .data, .sentinel, .sentinel], laidTests := true, laidLooks := .later }
def WireBackCardSaid : Prop := Claim7.holds Tryd.pinned (.plain (OpenSpec.ofChange wireBackSpec)) wireBackCard

/-- THE TIED CARD OF 'docketlaw28.WireCuts'. -/
def wireCutsCard : Claim7 := { stood := { row := wireCutsRow, standIns := [], harness := (true, "b8edd405a27828c30b5c697fa88aa8cff9a03b4f987d82b823f867417bbfc3a4"), looks := true }, kinds := [], alts := [], laidByText := true, laidKinds := [.data, .data, .data, .sentinel, .sentinel], laidTests := true, laidLooks := .later }
def WireCutsCardSaid : Prop := Claim7.holds Tryd.pinned (.plain (OpenSpec.ofChange wireCutsSpec)) wireCutsCard

/-- THE TIED CARD OF 'docketlaw28.WireServes'. -/
def wireServesCard : Claim7 := { stood := { row := wireServesRow, standIns := [], harness := (true, "b8edd405a27828c30b5c697fa88aa8cff9a03b4f987d82b823f867417bbfc3a4"), looks := true }, kinds := [], alts := [], laidByText := true, laidKinds := [.data, .data, .data, .sentinel, .sentinel], laidTests := true, laidLooks := .later }
def WireServesCardSaid : Prop := Claim7.holds Tryd.pinned (.plain (OpenSpec.ofChange wireServesSpec)) wireServesCard

/-- THE TIED CARD OF 'docketlaw28.WireAsks'. -/
def wireAsksCard : Claim7 := { stood := { row := wireAsksRow, standIns := [], harness := (true, "b8edd405a27828c30b5c697fa88aa8cff9a03b4f987d82b823f867417bbfc3a4"), looks := true }, kinds := [], alts := [], laidByText := true, laidKinds := [.data, .data, .data, .sentinel, .sentinel], laidTests := true, laidLooks := .later }
def WireAsksCardSaid : Prop := Claim7.holds Tryd.pinned (.plain (OpenSpec.ofChange wireAsksSpec)) wireAsksCard

/-- THE TIED CARD OF 'docketlaw28.WireMeet'. -/
def wireMeetCard : Claim7 := { stood := { row := wireMeetRow, standIns := [], harness := (true, "b8edd405a27828c30b5c697fa88aa8cff9a03b4f987d82b823f867417bbfc3a4"), looks := true }, kinds := [], alts := [], laidByText := true, laidKinds := [.data, .data, .data, .sentinel, .sentinel], laidTests := true, laidLooks := .later }
def WireMeetCardSaid : Prop := Claim7.holds Tryd.pinned (.plain (OpenSpec.ofChange wireMeetSpec)) wireMeetCard

/-- THE TIED CARD OF 'docketlaw28.WireNil'. -/
def wireNilCard : Claim7 := { stood := { row := wireNilRow, standIns := [], harness := (true, "b8edd405a27828c30b5c697fa88aa8cff9a03b4f987d82b823f867417bbfc3a4"), looks := true }, kinds := [], alts := [], laidByText := true, laidKinds := [.data, .data, .data, .sentinel, .sentinel], laidTests := true, laidLooks := .later }
def WireNilCardSaid : Prop := Claim7.holds Tryd.pinned (.plain (OpenSpec.ofChange wireNilSpec)) wireNilCard

/-- THE SECOND FORM's CARD OF 'docketlaw28.WireNames'. -/
def wireNamesUptoCard : Claim7 := { stood := { row := wireNamesUptoRow, standIns := [], harness := (true, "b8edd405a27828c30b5c697fa88aa8cff9a03b4f987d82b823f867417bbfc3a4"), looks := true }, kinds := [], alts := [], laidByText := true, laidKinds := [.data, .data, .data, .sentinel, .sentinel], laidTests := true, laidLooks := .later }
def WireNamesUptoCardSaid : Prop := Claim7.holds Tryd.pinned (.plain (OpenSpec.upto wireNamesSpec)) wireNamesUptoCard

/-- THE SECOND FORM's CARD OF 'docketlaw28.WireMessages'. -/
def wireMessagesUptoCard : Claim7 := { stood := { row := wireMessagesUptoRow, standIns := [], harness := (true, "b8edd405a27828c30b5c697fa88aa8cff9a03b4f987d82b823f867417bbfc3a4"), looks := true }, kinds := [], alts := [], laidByText := true, laidKinds := [.data, .data, .data, .sentinel, .sentinel], laidTests := true, laidLooks := .later }
def WireMessagesUptoCardSaid : Prop := Claim7.holds Tryd.pinned (.plain (OpenSpec.upto wireMessagesSpec)) wireMessagesUptoCard

/-- THE SECOND FORM's CARD OF 'docketlaw28.WireBack'. -/
def wireBackUptoCard : Claim7 := { stood := { row := wireBackUptoRow, standIns := [], harness := (true, "b8edd405a27828c30b5c697fa88aa8cff9a03b4f987d82b823f867417bbfc3a4"), looks := true }, kinds := [], alts := [], laidByText := true, laidKinds := [.data, .data, .data, .sentinel, .sentinel], laidTests := true, laidLooks := .later }
def WireBackUptoCardSaid : Prop := Claim7.holds Tryd.pinned (.plain (OpenSpec.upto wireBackSpec)) wireBackUptoCard

/-- THE SECOND FORM's CARD OF 'docketlaw28.WireCuts'. -/
def wireCutsUptoCard : Claim7 := { stood := { row := wireCutsUptoRow, standIns := [], harness := (true, "b8edd405a27828c30b5c697fa88aa8cff9a03b4f987d82b823f867417bbfc3a4"), looks := true }, kinds := [], alts := [], laidByText := true, laidKinds := [.data, .data, .data, .sentinel, .sentinel], laidTests := true, laidLooks := .later }
def WireCutsUptoCardSaid : Prop := Claim7.holds Tryd.pinned (.plain (OpenSpec.upto wireCutsSpec)) wireCutsUptoCard

/-- THE SECOND FORM's CARD OF 'docketlaw28.WireServes'. -/
def wireServesUptoCard : Claim7 := { stood := { row := wireServesUptoRow, standIns := [], harness := (true, "b8edd405a27828c30b5c697fa88aa8cff9a03b4f987d82b823f867417bbfc3a4"), looks := true }, kinds := [], alts := [], laidByText := true, laidKinds := [.data, .data, .data, .sentinel, .sentinel], laidTests := true, laidLooks := .later }
def WireServesUptoCardSaid : Prop := Claim7.holds Tryd.pinned (.plain (OpenSpec.upto wireServesSpec)) wireServesUptoCard

/-- THE SECOND FORM's CARD OF 'docketlaw28.WireAsks'. -/
def wireAsksUptoCard : Claim7 := { stood := { row := wireAsksUptoRow, standIns := [], harness := (true, "b8edd405a27828c30b5c697fa88aa8cff9a03b4f987d82b823f867417bbfc3a4"), looks := true }, kinds := [], alts := [], laidByText := true, laidKinds := [.data, .data, .data, .sentinel, .sentinel], laidTests := true, laidLooks := .later }
def WireAsksUptoCardSaid : Prop := Claim7.holds Tryd.pinned (.plain (OpenSpec.upto wireAsksSpec)) wireAsksUptoCard

/-- THE SECOND FORM's CARD OF 'docketlaw28.WireMeet'. -/
def wireMeetUptoCard : Claim7 := { stood := { row := wireMeetUptoRow, standIns := [], harness := (true, "b8edd405a27828c30b5c697fa88aa8cff9a03b4f987d82b823f867417bbfc3a4"), looks := true }, kinds := [], alts := [], laidByText := true, laidKinds := [.data, .data, .data, .sentinel, .sentinel], laidTests := true, laidLooks := .later }
def WireMeetUptoCardSaid : Prop := Claim7.holds Tryd.pinned (.plain (OpenSpec.upto wireMeetSpec)) wireMeetUptoCard

/-- THE SECOND FORM's CARD OF 'docketlaw28.WireNil'. -/
def wireNilUptoCard : Claim7 := { stood := { row := wireNilUptoRow, standIns := [], harness := (true, "b8edd405a27828c30b5c697fa88aa8cff9a03b4f987d82b823f867417bbfc3a4"), looks := true }, kinds := [], alts := [], laidByText := true, laidKinds := [.data, .data, .data, .sentinel, .sentinel], laidTests := true, laidLooks := .later }
def WireNilUptoCardSaid : Prop := Claim7.holds Tryd.pinned (.plain (OpenSpec.upto wireNilSpec)) wireNilUptoCard
end Rows
end Go.Proofs.YtkpickojeghppaaDoor
