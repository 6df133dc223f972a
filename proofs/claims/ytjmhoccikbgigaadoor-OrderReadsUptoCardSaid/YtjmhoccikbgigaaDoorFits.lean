/- The walk of fits. Conditions: the tables of package utf8 lie as their texts lay them. -/
import Derived.Test.YtjmhoccikbgigaaDoorLaidw
import Derived.Test.YtjmhoccikbgigaaDoorShelf
namespace Go.Proofs.YtjmhoccikbgigaaDoor
open Go.RowKit
/-- has a value nothing that its kind does not name? -/
def fitsB (k n : Int) (s : ByteArray) (ln li : Nat) : Bool :=
  if k = 0 ∨ k = 1 ∨ k = 2 then (n == 0) && s.toList.isEmpty && ((ln : Int) == 0) && ((li : Int) == 0)
  else if k = 3 then s.toList.isEmpty && ((ln : Int) == 0) && ((li : Int) == 0)
  else if k = 4 then (n == 0) && ((ln : Int) == 0) && ((li : Int) == 0) && Lib.validD s.data.toList
  else if k = 5 then (n == 0) && s.toList.isEmpty && ((ln : Int) == 0)
  else if k = 6 then (n == 0) && s.toList.isEmpty && ((ln : Int) == (li : Int))
  else false
set_option maxHeartbeats 2000000 in
theorem fits0_c (n : Int) (s : ByteArray) (an ai : Option Addr) (ln cn li ci : Nat) (_hln : ln ≤ 9223372036854775807) (_hli : li ≤ 9223372036854775807) (w : World) :
    Calls Tryd.prog 77 #[.agg #[.int .i64 0, .int .i64 n, .string s, .slice an ln cn, .slice ai li ci]] w fun e w' => e = .returned (.bool ((n == 0) && s.toList.isEmpty && ((ln : Int) == 0) && ((li : Int) == 0))) ∧ Below w.heap.size w w' := by
  obtain ⟨a0, a1, a2, a3, a4⟩ := cells5 w (.int .i64 0) (.int .i64 n) (.string s) (.slice an ln cn) (.slice ai li ci) 28
  have hb0 : Below w.heap.size w (w.alloc (.cells #[.int .i64 0, .int .i64 n, .string s, .slice an ln cn, .slice ai li ci] 28)) := (Below.refl _ _).alloc (Nat.le_refl _) _
  have HB := Lib.hid hb0
  clear hb0
  go_enter Tryd.func77, Tryd.ntmps77
  go_wp2
  go_quiet (fail)
  go_wp2
  all_goals go_ret
  all_goals refine ⟨ret_bool ?_, below_drewN ((Below.refl _ _).alloc (Nat.le_refl _) _) _⟩
  all_goals (clear a0 a1 a2 a3 a4 HB; simp_all)
set_option maxHeartbeats 2000000 in
theorem fits1_c (n : Int) (s : ByteArray) (an ai : Option Addr) (ln cn li ci : Nat) (_hln : ln ≤ 9223372036854775807) (_hli : li ≤ 9223372036854775807) (w : World) :
    Calls Tryd.prog 77 #[.agg #[.int .i64 1, .int .i64 n, .string s, .slice an ln cn, .slice ai li ci]] w fun e w' => e = .returned (.bool ((n == 0) && s.toList.isEmpty && ((ln : Int) == 0) && ((li : Int) == 0))) ∧ Below w.heap.size w w' := by
  obtain ⟨a0, a1, a2, a3, a4⟩ := cells5 w (.int .i64 1) (.int .i64 n) (.string s) (.slice an ln cn) (.slice ai li ci) 28
  have hb0 : Below w.heap.size w (w.alloc (.cells #[.int .i64 1, .int .i64 n, .string s, .slice an ln cn, .slice ai li ci] 28)) := (Below.refl _ _).alloc (Nat.le_refl _) _
  have HB := Lib.hid hb0
  clear hb0
  go_enter Tryd.func77, Tryd.ntmps77
  go_wp2
  go_quiet (fail)
  go_wp2
  all_goals go_ret
  all_goals refine ⟨ret_bool ?_, below_drewN ((Below.refl _ _).alloc (Nat.le_refl _) _) _⟩
  all_goals (clear a0 a1 a2 a3 a4 HB; simp_all)
set_option maxHeartbeats 2000000 in
theorem fits2_c (n : Int) (s : ByteArray) (an ai : Option Addr) (ln cn li ci : Nat) (_hln : ln ≤ 9223372036854775807) (_hli : li ≤ 9223372036854775807) (w : World) :
    Calls Tryd.prog 77 #[.agg #[.int .i64 2, .int .i64 n, .string s, .slice an ln cn, .slice ai li ci]] w fun e w' => e = .returned (.bool ((n == 0) && s.toList.isEmpty && ((ln : Int) == 0) && ((li : Int) == 0))) ∧ Below w.heap.size w w' := by
  obtain ⟨a0, a1, a2, a3, a4⟩ := cells5 w (.int .i64 2) (.int .i64 n) (.string s) (.slice an ln cn) (.slice ai li ci) 28
  have hb0 : Below w.heap.size w (w.alloc (.cells #[.int .i64 2, .int .i64 n, .string s, .slice an ln cn, .slice ai li ci] 28)) := (Below.refl _ _).alloc (Nat.le_refl _) _
  have HB := Lib.hid hb0
  clear hb0
  go_enter Tryd.func77, Tryd.ntmps77
  go_wp2
  go_quiet (fail)
  go_wp2
  all_goals go_ret
  all_goals refine ⟨ret_bool ?_, below_drewN ((Below.refl _ _).alloc (Nat.le_refl _) _) _⟩
  all_goals (clear a0 a1 a2 a3 a4 HB; simp_all)
set_option maxHeartbeats 2000000 in
theorem fits3_c (n : Int) (s : ByteArray) (an ai : Option Addr) (ln cn li ci : Nat) (_hln : ln ≤ 9223372036854775807) (_hli : li ≤ 9223372036854775807) (w : World) :
    Calls Tryd.prog 77 #[.agg #[.int .i64 3, .int .i64 n, .string s, .slice an ln cn, .slice ai li ci]] w fun e w' => e = .returned (.bool (s.toList.isEmpty && ((ln : Int) == 0) && ((li : Int) == 0))) ∧ Below w.heap.size w w' := by
  obtain ⟨a0, a1, a2, a3, a4⟩ := cells5 w (.int .i64 3) (.int .i64 n) (.string s) (.slice an ln cn) (.slice ai li ci) 28
  have hb0 : Below w.heap.size w (w.alloc (.cells #[.int .i64 3, .int .i64 n, .string s, .slice an ln cn, .slice ai li ci] 28)) := (Below.refl _ _).alloc (Nat.le_refl _) _
  have HB := Lib.hid hb0
  clear hb0
  go_enter Tryd.func77, Tryd.ntmps77
  go_wp2
  go_quiet (fail)
  go_wp2
  all_goals go_ret
  all_goals refine ⟨ret_bool ?_, below_drewN ((Below.refl _ _).alloc (Nat.le_refl _) _) _⟩
  all_goals (clear a0 a1 a2 a3 a4 HB; simp_all)
set_option maxHeartbeats 2000000 in
theorem fits5_c (n : Int) (s : ByteArray) (an ai : Option Addr) (ln cn li ci : Nat) (_hln : ln ≤ 9223372036854775807) (_hli : li ≤ 9223372036854775807) (w : World) :
    Calls Tryd.prog 77 #[.agg #[.int .i64 5, .int .i64 n, .string s, .slice an ln cn, .slice ai li ci]] w fun e w' => e = .returned (.bool ((n == 0) && s.toList.isEmpty && ((ln : Int) == 0))) ∧ Below w.heap.size w w' := by
  obtain ⟨a0, a1, a2, a3, a4⟩ := cells5 w (.int .i64 5) (.int .i64 n) (.string s) (.slice an ln cn) (.slice ai li ci) 28
  have hb0 : Below w.heap.size w (w.alloc (.cells #[.int .i64 5, .int .i64 n, .string s, .slice an ln cn, .slice ai li ci] 28)) := (Below.refl _ _).alloc (Nat.le_refl _) _
  have HB := Lib.hid hb0
  clear hb0
  go_enter Tryd.func77, Tryd.ntmps77
  go_wp2
  go_quiet (fail)
  go_wp2
  all_goals go_ret
  all_goals refine ⟨ret_bool ?_, below_drewN ((Below.refl _ _).alloc (Nat.le_refl _) _) _⟩
  all_goals (clear a0 a1 a2 a3 a4 HB; simp_all)
set_option maxHeartbeats 2000000 in
theorem fits6_c (n : Int) (s : ByteArray) (an ai : Option Addr) (ln cn li ci : Nat) (_hln : ln ≤ 9223372036854775807) (_hli : li ≤ 9223372036854775807) (w : World) :
    Calls Tryd.prog 77 #[.agg #[.int .i64 6, .int .i64 n, .string s, .slice an ln cn, .slice ai li ci]] w fun e w' => e = .returned (.bool ((n == 0) && s.toList.isEmpty && ((ln : Int) == (li : Int)))) ∧ Below w.heap.size w w' := by
  obtain ⟨a0, a1, a2, a3, a4⟩ := cells5 w (.int .i64 6) (.int .i64 n) (.string s) (.slice an ln cn) (.slice ai li ci) 28
  have hb0 : Below w.heap.size w (w.alloc (.cells #[.int .i64 6, .int .i64 n, .string s, .slice an ln cn, .slice ai li ci] 28)) := (Below.refl _ _).alloc (Nat.le_refl _) _
  have HB := Lib.hid hb0
  clear hb0
  go_enter Tryd.func77, Tryd.ntmps77
  go_wp2
  go_quiet (fail)
  go_wp2
  all_goals go_ret
  all_goals refine ⟨ret_bool ?_, below_drewN ((Below.refl _ _).alloc (Nat.le_refl _) _) _⟩
  all_goals (clear a0 a1 a2 a3 a4 HB; simp_all)
theorem utf8_below {w w' : World} {a b : Nat} (h : Lib.Utf8Tabs a b w) (hb : Below w.heap.size w w') : Lib.Utf8Tabs a b w' :=
  ⟨fun c hc => cell_below hb (h.1 c hc), fun i hi => ⟨cell_below hb (h.2 i hi).1, cell_below hb (h.2 i hi).2⟩⟩
set_option maxHeartbeats 2000000 in
theorem fits4_c (n : Int) (s : ByteArray) (an ai : Option Addr) (ln cn li ci : Nat) (hs : s.size ≤ 9223372036854775807) (w : World) (hT : Lib.Utf8Tabs 0 1 w) :
    Calls Tryd.prog 77 #[.agg #[.int .i64 4, .int .i64 n, .string s, .slice an ln cn, .slice ai li ci]] w fun e w' => e = .returned (.bool ((n == 0) && ((ln : Int) == 0) && ((li : Int) == 0) && Lib.validD s.data.toList)) ∧ Below w.heap.size w w' := by
  obtain ⟨a0, a1, a2, a3, a4⟩ := cells5 w (.int .i64 4) (.int .i64 n) (.string s) (.slice an ln cn) (.slice ai li ci) 28
  have HV := fun (W : World) (hW : Below w.heap.size w W) => Tryd.utf8_ValidString s W hs (utf8_below hT hW)
  have HVV := Lib.hid HV
  clear HV hT
  go_enter Tryd.func77, Tryd.ntmps77
  go_wp2
  go_quiet (fail)
  go_wp2_with fail
  all_goals first
    | (go_ret; refine ⟨ret_bool ?_, below_drewN ((Below.refl _ _).alloc (Nat.le_refl _) _) _⟩; clear a0 a1 a2 a3 a4 HVV; simp_all; done)
    | skip
  all_goals (refine (HVV.out _ (below_drewN ((Below.refl _ _).alloc (Nat.le_refl _) _) _)).mono ?_; rintro e w1 ⟨rfl, hb1⟩)
  all_goals have HB1 := Lib.hid hb1
  all_goals clear hb1
  all_goals go_wp2
  all_goals go_ret
  all_goals refine ⟨ret_bool ?_, (below_drewN ((Below.refl _ _).alloc (Nat.le_refl _) _) _).trans (HB1.out.mono (by simp))⟩
  all_goals (clear a0 a1 a2 a3 a4 HVV HB1; simp_all)
end Go.Proofs.YtjmhoccikbgigaaDoor
