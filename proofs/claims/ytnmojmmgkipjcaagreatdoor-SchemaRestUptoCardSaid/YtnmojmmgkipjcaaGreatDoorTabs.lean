/- The tables of package utf8 in a world that meets what the rows list. Conditions: none. -/
import Derived.Test.YtnmojmmgkipjcaaGreatDoorShelf
import Derived.Test.YtnmojmmgkipjcaaGreatDoorRowkit
import Derived.Lib.LaidIn
import Derived.Lib.LaidU8T
namespace Go.Proofs.YtnmojmmgkipjcaaGreatDoor
open Go.RowKit Go.Proofs.Lays Go.Shelf Go.Lib
theorem tabs_of {W : World} (hL0 : laidMetH Tryz.prog [("unicode/utf8.acceptRanges", Rows.laid_unicode_utf8_acceptRanges), ("unicode/utf8.first", Rows.laid_unicode_utf8_first)] W) : Lib.Utf8Tabs 0 1 W :=
  have hL : laidMet Tryz.prog [("unicode/utf8.acceptRanges", Rows.laid_unicode_utf8_acceptRanges), ("unicode/utf8.first", Rows.laid_unicode_utf8_first)] W := hL0
  have e1 : Rows.laid_unicode_utf8_first = firstData := by kernel_rfl
  have e2 : Rows.laid_unicode_utf8_acceptRanges = acceptData := by kernel_rfl
  have h1 : VarReads Tryz.prog W "unicode/utf8.first" firstData := by rw [← e1]; exact Lib.laidMet.reads hL (.tail _ (.head _))
  have h2 : VarReads Tryz.prog W "unicode/utf8.acceptRanges" acceptData := by rw [← e2]; exact Lib.laidMet.reads hL (.head _)
  utf8Tabs_of_readsT (U8Types.of196 Tryz.laysValid) ⟨by kernel_rfl, by kernel_rfl, by kernel_rfl, by kernel_rfl, by kernel_rfl, by kernel_rfl, by kernel_rfl⟩ h1 h2
end Go.Proofs.YtnmojmmgkipjcaaGreatDoor
