/- The walk of fits at every kind. Conditions: the tables of package utf8 lie as their texts lay them. -/
import Derived.Test.YtjmhoccikbgigaaDoorFits
namespace Go.Proofs.YtjmhoccikbgigaaDoor
open Go.RowKit
set_option maxHeartbeats 2000000 in
theorem fitsO_c (k n : Int) (h : k < 0 ∨ 6 < k) (s : ByteArray) (an ai : Option Addr) (ln cn li ci : Nat) (w : World) :
    Calls Tryd.prog 77 #[.agg #[.int .i64 k, .int .i64 n, .string s, .slice an ln cn, .slice ai li ci]] w fun e w' => e = .returned (.bool false) ∧ Below w.heap.size w w' := by
  obtain ⟨a0, a1, a2, a3, a4⟩ := cells5 w (.int .i64 k) (.int .i64 n) (.string s) (.slice an ln cn) (.slice ai li ci) 28
  have b0 : (k == 0) = false := by simp; omega
  have b1 : (k == 1) = false := by simp; omega
  have b2 : (k == 2) = false := by simp; omega
  have b3 : (k == 3) = false := by simp; omega
  have b4 : (k == 4) = false := by simp; omega
  have b5 : (k == 5) = false := by simp; omega
  have b6 : (k == 6) = false := by simp; omega
  clear h
  go_enter Tryd.func77, Tryd.ntmps77
  go_wp2
  go_quiet (fail)
  go_wp2
  go_ret
  exact ⟨rfl, below_drewN ((Below.refl _ _).alloc (Nat.le_refl _) _) _⟩
theorem fits_c (k n : Int) (s : ByteArray) (an ai : Option Addr) (ln cn li ci : Nat) (hln : ln ≤ 9223372036854775807) (hli : li ≤ 9223372036854775807) (hs : s.size ≤ 9223372036854775807) (w : World) (hT : Lib.Utf8Tabs 0 1 w) :
    Calls Tryd.prog 77 #[.agg #[.int .i64 k, .int .i64 n, .string s, .slice an ln cn, .slice ai li ci]] w fun e w' => e = .returned (.bool (fitsB k n s ln li)) ∧ Below w.heap.size w w' := by
  rcases (show k = 0 ∨ k = 1 ∨ k = 2 ∨ k = 3 ∨ k = 4 ∨ k = 5 ∨ k = 6 ∨ (k < 0 ∨ 6 < k) by omega) with rfl | rfl | rfl | rfl | rfl | rfl | rfl | h
  · exact fits0_c n s an ai ln cn li ci hln hli w
  · exact fits1_c n s an ai ln cn li ci hln hli w
  · exact fits2_c n s an ai ln cn li ci hln hli w
  · exact fits3_c n s an ai ln cn li ci hln hli w
  · exact fits4_c n s an ai ln cn li ci hs w hT
  · exact fits5_c n s an ai ln cn li ci hln hli w
  · exact fits6_c n s an ai ln cn li ci hln hli w
  · rw [show fitsB k n s ln li = false by
      unfold fitsB
      rw [if_neg (by omega), if_neg (by omega), if_neg (by omega), if_neg (by omega), if_neg (by omega)]]
    exact fitsO_c k n h s an ai ln cn li ci w
end Go.Proofs.YtjmhoccikbgigaaDoor
