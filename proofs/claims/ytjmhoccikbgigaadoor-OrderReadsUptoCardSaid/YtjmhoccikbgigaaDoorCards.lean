/-
  DERIVED. GIVEN WITH THE SEED: THE CARDS: each row of YtjmhoccikbgigaaDoorRows.lean that lists a variable, with what it lists TIED to the program's text (the seventh form; the later family's looks); each row that meets fmt, with fmt's text TOLD by the authors' own Lean function (tested against real Go, not proved from fmt's source: count such statements apart). THE CARD IS WHAT COUNTS. Prove the row's statement (the work); the ties are given (YtjmhoccikbgigaaDoorTie.lean); close each card by the builder's one call (the guide's Derived/Test/ToyasCard.lean, 'card_holds'). Laid BY PROGRAM, IN A SANDBOX (cutbox-door.mjs). By AI agents, Wed Nov 11 2026. No macro, syntax, notation, axiom, sorry.
-/
import Derived.Test.YtjmhoccikbgigaaDoorRows
import GoSem.ClaimSeven
namespace Go.Proofs.YtjmhoccikbgigaaDoor
namespace Rows

/-- THE TIED CARD OF 'docketlaw03.OrderNames'. -/
def orderNamesCard : Claim7 := { stood := { row := orderNamesRow, standIns := [], harness := (true, "5017537c5563664e43b24e5baac1578e20198482e6a952f28b378cc871f0b7c7"), looks := false }, kinds := [], alts := [], laidByText := true, laidKinds := [.data, .pinned], laidTests := true, laidLooks := .later }
def OrderNamesCardSaid : Prop := Claim7.holds Tryd.pinned (.plain (OpenSpec.ofChange orderNamesSpec)) orderNamesCard

/-- THE TIED CARD OF 'docketlaw03.OrderCompares'. -/
def orderComparesCard : Claim7 := { stood := { row := orderComparesRow, standIns := [], harness := (true, "5017537c5563664e43b24e5baac1578e20198482e6a952f28b378cc871f0b7c7"), looks := false }, kinds := [], alts := [], laidByText := true, laidKinds := [.data, .pinned], laidTests := true, laidLooks := .later }
def OrderComparesCardSaid : Prop := Claim7.holds Tryd.pinned (.plain (OpenSpec.ofChange orderComparesSpec)) orderComparesCard

/-- THE TIED CARD OF 'docketlaw03.OrderBytes'. -/
def orderBytesCard : Claim7 := { stood := { row := orderBytesRow, standIns := [], harness := (true, "5017537c5563664e43b24e5baac1578e20198482e6a952f28b378cc871f0b7c7"), looks := false }, kinds := [], alts := [], laidByText := true, laidKinds := [.data, .pinned], laidTests := true, laidLooks := .later }
def OrderBytesCardSaid : Prop := Claim7.holds Tryd.pinned (.plain (OpenSpec.ofChange orderBytesSpec)) orderBytesCard

/-- THE TIED CARD OF 'docketlaw03.OrderReads'. -/
def orderReadsCard : Claim7 := { stood := { row := orderReadsRow, standIns := [], harness := (true, "5017537c5563664e43b24e5baac1578e20198482e6a952f28b378cc871f0b7c7"), looks := false }, kinds := [], alts := [], laidByText := true, laidKinds := [.data, .pinned], laidTests := true, laidLooks := .later }
def OrderReadsCardSaid : Prop := Claim7.holds Tryd.pinned (.plain (OpenSpec.ofChange orderReadsSpec)) orderReadsCard

/-- THE TIED CARD OF 'docketlaw03.OrderTotal'. -/
def orderTotalCard : Claim7 := { stood := { row := orderTotalRow, standIns := [], harness := (true, "5017537c5563664e43b24e5baac1578e20198482e6a952f28b378cc871f0b7c7"), looks := false }, kinds := [], alts := [], laidByText := true, laidKinds := [.data, .pinned], laidTests := true, laidLooks := .later }
def OrderTotalCardSaid : Prop := Claim7.holds Tryd.pinned (.plain (OpenSpec.ofChange orderTotalSpec)) orderTotalCard

/-- THE TIED CARD OF 'docketlaw03.OrderLies'. -/
def orderLiesCard : Claim7 := { stood := { row := orderLiesRow, standIns := [], harness := (true, "5017537c5563664e43b24e5baac1578e20198482e6a952f28b378cc871f0b7c7"), looks := false }, kinds := [], alts := [], laidByText := true, laidKinds := [.data, .pinned], laidTests := true, laidLooks := .later }
def OrderLiesCardSaid : Prop := Claim7.holds Tryd.pinned (.plain (OpenSpec.ofChange orderLiesSpec)) orderLiesCard

/-- THE TIED CARD OF 'docketlaw03.OrderBack'. -/
def orderBackCard : Claim7 := { stood := { row := orderBackRow, standIns := [], harness := (true, "5017537c5563664e43b24e5baac1578e20198482e6a952f28b378cc871f0b7c7"), looks := false }, kinds := [], alts := [], laidByText := true, laidKinds := [.data, .pinned], laidTests := true, laidLooks := .later }
def OrderBackCardSaid : Prop := Claim7.holds Tryd.pinned (.plain (OpenSpec.ofChange orderBackSpec)) orderBackCard

/-- THE TIED CARD OF 'docketlaw03.OrderPicks'. -/
def orderPicksCard : Claim7 := { stood := { row := orderPicksRow, standIns := [], harness := (true, "5017537c5563664e43b24e5baac1578e20198482e6a952f28b378cc871f0b7c7"), looks := false }, kinds := [], alts := [], laidByText := true, laidKinds := [.data, .pinned], laidTests := true, laidLooks := .later }
def OrderPicksCardSaid : Prop := Claim7.holds Tryd.pinned (.plain (OpenSpec.ofChange orderPicksSpec)) orderPicksCard

/-- THE SECOND FORM's CARD OF 'docketlaw03.OrderNames'. -/
def orderNamesUptoCard : Claim7 := { stood := { row := orderNamesUptoRow, standIns := [], harness := (true, "5017537c5563664e43b24e5baac1578e20198482e6a952f28b378cc871f0b7c7"), looks := false }, kinds := [], alts := [], laidByText := true, laidKinds := [.data, .pinned], laidTests := true, laidLooks := .later }
def OrderNamesUptoCardSaid : Prop := Claim7.holds Tryd.pinned (.plain (OpenSpec.upto orderNamesSpec)) orderNamesUptoCard

/-- THE SECOND FORM's CARD OF 'docketlaw03.OrderCompares'. -/
def orderComparesUptoCard : Claim7 := { stood := { row := orderComparesUptoRow, standIns := [], harness := (true, "5017537c5563664e43b24e5baac1578e20198482e6a952f28b378cc871f0b7c7"), looks := false }, kinds := [], alts := [], laidByText := true, laidKinds := [.data, .pinned], laidTests := true, laidLooks := .later }
def OrderComparesUptoCardSaid : Prop := Claim7.holds Tryd.pinned (.plain (OpenSpec.upto orderComparesSpec)) orderComparesUptoCard

/-- THE SECOND FORM's CARD OF 'docketlaw03.OrderBytes'. -/
def orderBytesUptoCard : Claim7 := { stood := { row := orderBytesUptoRow, standIns := [], harness := (true, "5017537c5563664e43b24e5baac1578e20198482e6a952f28b378cc871f0b7c7"), looks := false }, kinds := [], alts := [], laidByText := true, laidKinds := [.data, .pinned], laidTests := true, laidLooks := .later }
def OrderBytesUptoCardSaid : Prop := Claim7.holds Tryd.pinned (.plain (OpenSpec.upto orderBytesSpec)) orderBytesUptoCard

/-- THE SECOND FORM's CARD OF 'docketlaw03.OrderReads'. -/
def orderReadsUptoCard : Claim7 := { stood := { row := orderReadsUptoRow, standIns := [], harness := (true, "5017537c5563664e43b24e5baac1578e20198482e6a952f28b378cc871f0b7c7"), looks := false }, kinds := [], alts := [], laidByText := true, laidKinds := [.data, .pinned], laidTests := true, laidLooks := .later }
def OrderReadsUptoCardSaid : Prop := Claim7.holds Tryd.pinned (.plain (OpenSpec.upto orderReadsSpec)) orderReadsUptoCard

/-- THE SECOND FORM's CARD OF 'docketlaw03.OrderTotal'. -/
def orderTotalUptoCard : Claim7 := { stood := { row := orderTotalUptoRow, standIns := [], harness := (true, "5017537c5563664e43b24e5baac1578e20198482e6a952f28b378cc871f0b7c7"), looks := false }, kinds := [], alts := [], laidByText := true, laidKinds := [.data, .pinned], laidTests := true, laidLooks := .later }
def OrderTotalUptoCardSaid : Prop := Claim7.holds Tryd.pinned (.plain (OpenSpec.upto orderTotalSpec)) orderTotalUptoCard

/-- THE SECOND FORM's CARD OF 'docketlaw03.OrderLies'. -/
def orderLiesUptoCard : Claim7 := { stood := { row := orderLiesUptoRow, standIns := [], harness := (true, "5017537c5563664e43b24e5baac1578e20198482e6a952f28b378cc871f0b7c7"), looks := false }, kinds := [], alts := [], laidByText := true, laidKinds := [.data, .pinned], laidTests := true, laidLooks := .later }
def OrderLiesUptoCardSaid : Prop := Claim7.holds Tryd.pinned (.plain (OpenSpec.upto orderLiesSpec)) orderLiesUptoCard

/-- THE SECOND FORM's CARD OF 'docketlaw03.OrderBack'. -/
def orderBackUptoCard : Claim7 := { stood := { row := orderBackUptoRow, standIns := [], harness := (true, "5017537c5563664e43b24e5baac1578e20198482e6a952f28b378cc871f0b7c7"), looks := false }, kinds := [], alts := [], laidByText := true, laidKinds := [.data, .pinned], laidTests := true, laidLooks := .later }
def OrderBackUptoCardSaid : Prop := Claim7.holds Tryd.pinned (.plain (OpenSpec.upto orderBackSpec)) orderBackUptoCard

/-- THE SECOND FORM's CARD OF 'docketlaw03.OrderPicks'. -/
def orderPicksUptoCard : Claim7 := { stood := { row := orderPicksUptoRow, standIns := [], harness := (true, "5017537c5563664e43b24e5baac1578e20198482e6a952f28b378cc871f0b7c7"), looks := false }, kinds := [], alts := [], laidByText := true, laidKinds := [.data, .pinned], laidTests := true, laidLooks := .later }
def OrderPicksUptoCardSaid : Prop := Claim7.holds Tryd.pinned (.plain (OpenSpec.upto orderPicksSpec)) orderPicksUptoCard
end Rows
end Go.Proofs.YtjmhoccikbgigaaDoor
