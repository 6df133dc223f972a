/- The walk of the law WireNames. Conditions: what lies in the package-level variables. -/
import Derived.Test.YtkpickojeghppaaDoorWlive
namespace Go.Proofs.YtkpickojeghppaaDoor
open Go.RowKit
set_option maxRecDepth 20000 in
set_option maxHeartbeats 4000000 in
theorem wireNames_c (w : World) (hT : WTabs w) : Calls Tryd.prog 3 #[] w fun r w' => r = .returned (.bool true) ∧ Below w.heap.size w w' := by
  have HL := Lib.hid (live_c w hT)
  clear hT
  go_enter Tryd.func3, Tryd.ntmps3
  go_wp2_with (first
    | (go_at_call 11; refine (num_c _ _).mono ?_; rintro e w' ⟨rfl, rfl⟩)
    | (go_at_call 12; refine HL.out.mono ?_; rintro e w' ⟨rfl, hb⟩))
  go_ret
  exact ⟨rfl, hb⟩
end Go.Proofs.YtkpickojeghppaaDoor
