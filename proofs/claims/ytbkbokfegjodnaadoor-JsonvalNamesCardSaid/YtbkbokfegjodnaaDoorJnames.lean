/- The walk of the law JsonvalNames. Conditions: what lies in the package-level variables. -/
import Derived.Test.YtbkbokfegjodnaaDoorLivej
namespace Go.Proofs.YtbkbokfegjodnaaDoor
open Go.RowKit
set_option maxHeartbeats 4000000 in
theorem jsonvalNames_c (w : World) (hT : JTabs w) : Calls Tryd.prog 3 #[] w fun r w' => r = .returned (.bool true) ∧ Below w.heap.size w w' := by
  have hl := live_c w hT
  clear hT
  go_enter Tryd.func3, Tryd.ntmps3
  iterate 9 (go_wp2_with fail; refine (lnum_c _ _).mono ?_; rintro e w1 ⟨rfl, rfl⟩)
  go_wp2_with fail
  refine hl.mono ?_; rintro e w1 ⟨rfl, hb⟩
  go_wp2
  go_ret
  exact ⟨rfl, hb⟩
end Go.Proofs.YtbkbokfegjodnaaDoor
