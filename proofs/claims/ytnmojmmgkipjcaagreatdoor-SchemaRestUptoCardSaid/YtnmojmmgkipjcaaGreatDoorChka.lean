/- What Check answers, in plain Lean. Conditions: none. -/
import Derived.Test.YtnmojmmgkipjcaaGreatDoorJkit
import Derived.Test.YtnmojmmgkipjcaaGreatDoorShelf
import Derived.Test.YtnmojmmgkipjcaaGreatDoorOkt
import Derived.Test.YtnmojmmgkipjcaaGreatDoorUtfl
namespace Go.Proofs.YtnmojmmgkipjcaaGreatDoor
open Go.RowKit
/-- has a value nothing that its kind does not name? -/
def fitsB (k n : Int) (s : ByteArray) (ln li : Nat) : Bool :=
  if k = 0 ∨ k = 1 ∨ k = 2 then (n == 0) && s.toList.isEmpty && ((ln : Int) == 0) && ((li : Int) == 0)
  else if k = 3 then s.toList.isEmpty && ((ln : Int) == 0) && ((li : Int) == 0)
  else if k = 4 then (n == 0) && ((ln : Int) == 0) && ((li : Int) == 0) && Lib.validD s.data.toList
  else if k = 5 then (n == 0) && s.toList.isEmpty && ((ln : Int) == 0)
  else if k = 6 then (n == 0) && s.toList.isEmpty && ((ln : Int) == (li : Int))
  else false
set_option maxHeartbeats 2000000 in
theorem fits0_c (n : Int) (s : ByteArray) (an ai : Option Addr) (ln cn li ci : Nat) (_hln : ln ≤ 9223372036854775807) (_hli : li ≤ 9223372036854775807) (w : World) :
    Calls Tryz.prog 38 #[.agg #[.int .i64 0, .int .i64 n, .string s, .slice an ln cn, .slice ai li ci]] w fun e w' => e = .returned (.bool ((n == 0) && s.toList.isEmpty && ((ln : Int) == 0) && ((li : Int) == 0))) ∧ Below w.heap.size w w' := by
  obtain ⟨a0, a1, a2, a3, a4⟩ := cells5 w (.int .i64 0) (.int .i64 n) (.string s) (.slice an ln cn) (.slice ai li ci) 25
  have hb0 : Below w.heap.size w (w.alloc (.cells #[.int .i64 0, .int .i64 n, .string s, .slice an ln cn, .slice ai li ci] 25)) := (Below.refl _ _).alloc (Nat.le_refl _) _
  have HB := Lib.hid hb0
  clear hb0
  go_enter Tryz.func38, Tryz.ntmps38
  go_wp2
  go_quiet (fail)
  go_wp2
  all_goals go_ret
  all_goals refine ⟨ret_bool ?_, below_drewN ((Below.refl _ _).alloc (Nat.le_refl _) _) _⟩
  all_goals (clear a0 a1 a2 a3 a4 HB; simp_all)
set_option maxHeartbeats 2000000 in
theorem fits1_c (n : Int) (s : ByteArray) (an ai : Option Addr) (ln cn li ci : Nat) (_hln : ln ≤ 9223372036854775807) (_hli : li ≤ 9223372036854775807) (w : World) :
    Calls Tryz.prog 38 #[.agg #[.int .i64 1, .int .i64 n, .string s, .slice an ln cn, .slice ai li ci]] w fun e w' => e = .returned (.bool ((n == 0) && s.toList.isEmpty && ((ln : Int) == 0) && ((li : Int) == 0))) ∧ Below w.heap.size w w' := by
  obtain ⟨a0, a1, a2, a3, a4⟩ := cells5 w (.int .i64 1) (.int .i64 n) (.string s) (.slice an ln cn) (.slice ai li ci) 25
  have hb0 : Below w.heap.size w (w.alloc (.cells #[.int .i64 1, .int .i64 n, .string s, .slice an ln cn, .slice ai li ci] 25)) := (Below.refl _ _).alloc (Nat.le_refl _) _
  have HB := Lib.hid hb0
  clear hb0
  go_enter Tryz.func38, Tryz.ntmps38
  go_wp2
  go_quiet (fail)
  go_wp2
  all_goals go_ret
  all_goals refine ⟨ret_bool ?_, below_drewN ((Below.refl _ _).alloc (Nat.le_refl _) _) _⟩
  all_goals (clear a0 a1 a2 a3 a4 HB; simp_all)
set_option maxHeartbeats 2000000 in
theorem fits2_c (n : Int) (s : ByteArray) (an ai : Option Addr) (ln cn li ci : Nat) (_hln : ln ≤ 9223372036854775807) (_hli : li ≤ 9223372036854775807) (w : World) :
    Calls Tryz.prog 38 #[.agg #[.int .i64 2, .int .i64 n, .string s, .slice an ln cn, .slice ai li ci]] w fun e w' => e = .returned (.bool ((n == 0) && s.toList.isEmpty && ((ln : Int) == 0) && ((li : Int) == 0))) ∧ Below w.heap.size w w' := by
  obtain ⟨a0, a1, a2, a3, a4⟩ := cells5 w (.int .i64 2) (.int .i64 n) (.string s) (.slice an ln cn) (.slice ai li ci) 25
  have hb0 : Below w.heap.size w (w.alloc (.cells #[.int .i64 2, .int .i64 n, .string s, .slice an ln cn, .slice ai li ci] 25)) := (Below.refl _ _).alloc (Nat.le_refl _) _
  have HB := Lib.hid hb0
  clear hb0
  go_enter Tryz.func38, Tryz.ntmps38
  go_wp2
  go_quiet (fail)
  go_wp2
  all_goals go_ret
  all_goals refine ⟨ret_bool ?_, below_drewN ((Below.refl _ _).alloc (Nat.le_refl _) _) _⟩
  all_goals (clear a0 a1 a2 a3 a4 HB; simp_all)
set_option maxHeartbeats 2000000 in
theorem fits3_c (n : Int) (s : ByteArray) (an ai : Option Addr) (ln cn li ci : Nat) (_hln : ln ≤ 9223372036854775807) (_hli : li ≤ 9223372036854775807) (w : World) :
    Calls Tryz.prog 38 #[.agg #[.int .i64 3, .int .i64 n, .string s, .slice an ln cn, .slice ai li ci]] w fun e w' => e = .returned (.bool (s.toList.isEmpty && ((ln : Int) == 0) && ((li : Int) == 0))) ∧ Below w.heap.size w w' := by
  obtain ⟨a0, a1, a2, a3, a4⟩ := cells5 w (.int .i64 3) (.int .i64 n) (.string s) (.slice an ln cn) (.slice ai li ci) 25
  have hb0 : Below w.heap.size w (w.alloc (.cells #[.int .i64 3, .int .i64 n, .string s, .slice an ln cn, .slice ai li ci] 25)) := (Below.refl _ _).alloc (Nat.le_refl _) _
  have HB := Lib.hid hb0
  clear hb0
  go_enter Tryz.func38, Tryz.ntmps38
  go_wp2
  go_quiet (fail)
  go_wp2
  all_goals go_ret
  all_goals refine ⟨ret_bool ?_, below_drewN ((Below.refl _ _).alloc (Nat.le_refl _) _) _⟩
  all_goals (clear a0 a1 a2 a3 a4 HB; simp_all)
set_option maxHeartbeats 2000000 in
theorem fits5_c (n : Int) (s : ByteArray) (an ai : Option Addr) (ln cn li ci : Nat) (_hln : ln ≤ 9223372036854775807) (_hli : li ≤ 9223372036854775807) (w : World) :
    Calls Tryz.prog 38 #[.agg #[.int .i64 5, .int .i64 n, .string s, .slice an ln cn, .slice ai li ci]] w fun e w' => e = .returned (.bool ((n == 0) && s.toList.isEmpty && ((ln : Int) == 0))) ∧ Below w.heap.size w w' := by
  obtain ⟨a0, a1, a2, a3, a4⟩ := cells5 w (.int .i64 5) (.int .i64 n) (.string s) (.slice an ln cn) (.slice ai li ci) 25
  have hb0 : Below w.heap.size w (w.alloc (.cells #[.int .i64 5, .int .i64 n, .string s, .slice an ln cn, .slice ai li ci] 25)) := (Below.refl _ _).alloc (Nat.le_refl _) _
  have HB := Lib.hid hb0
  clear hb0
  go_enter Tryz.func38, Tryz.ntmps38
  go_wp2
  go_quiet (fail)
  go_wp2
  all_goals go_ret
  all_goals refine ⟨ret_bool ?_, below_drewN ((Below.refl _ _).alloc (Nat.le_refl _) _) _⟩
  all_goals (clear a0 a1 a2 a3 a4 HB; simp_all)
set_option maxHeartbeats 2000000 in
theorem fits6_c (n : Int) (s : ByteArray) (an ai : Option Addr) (ln cn li ci : Nat) (_hln : ln ≤ 9223372036854775807) (_hli : li ≤ 9223372036854775807) (w : World) :
    Calls Tryz.prog 38 #[.agg #[.int .i64 6, .int .i64 n, .string s, .slice an ln cn, .slice ai li ci]] w fun e w' => e = .returned (.bool ((n == 0) && s.toList.isEmpty && ((ln : Int) == (li : Int)))) ∧ Below w.heap.size w w' := by
  obtain ⟨a0, a1, a2, a3, a4⟩ := cells5 w (.int .i64 6) (.int .i64 n) (.string s) (.slice an ln cn) (.slice ai li ci) 25
  have hb0 : Below w.heap.size w (w.alloc (.cells #[.int .i64 6, .int .i64 n, .string s, .slice an ln cn, .slice ai li ci] 25)) := (Below.refl _ _).alloc (Nat.le_refl _) _
  have HB := Lib.hid hb0
  clear hb0
  go_enter Tryz.func38, Tryz.ntmps38
  go_wp2
  go_quiet (fail)
  go_wp2
  all_goals go_ret
  all_goals refine ⟨ret_bool ?_, below_drewN ((Below.refl _ _).alloc (Nat.le_refl _) _) _⟩
  all_goals (clear a0 a1 a2 a3 a4 HB; simp_all)
theorem utf8_below {w w' : World} {a b : Nat} (h : Lib.Utf8Tabs a b w) (hb : Below w.heap.size w w') : Lib.Utf8Tabs a b w' :=
  ⟨fun c hc => cell_below hb (h.1 c hc), fun i hi => ⟨cell_below hb (h.2 i hi).1, cell_below hb (h.2 i hi).2⟩⟩
set_option maxHeartbeats 2000000 in
theorem fits4_c (n : Int) (s : ByteArray) (an ai : Option Addr) (ln cn li ci : Nat) (hs : s.size ≤ 9223372036854775807) (w : World) (hT : Lib.Utf8Tabs 0 1 w) :
    Calls Tryz.prog 38 #[.agg #[.int .i64 4, .int .i64 n, .string s, .slice an ln cn, .slice ai li ci]] w fun e w' => e = .returned (.bool ((n == 0) && ((ln : Int) == 0) && ((li : Int) == 0) && Lib.validD s.data.toList)) ∧ Below w.heap.size w w' := by
  obtain ⟨a0, a1, a2, a3, a4⟩ := cells5 w (.int .i64 4) (.int .i64 n) (.string s) (.slice an ln cn) (.slice ai li ci) 25
  have HV := fun (W : World) (hW : Below w.heap.size w W) => Tryz.utf8_ValidString s W hs (utf8_below hT hW)
  have HVV := Lib.hid HV
  clear HV hT
  go_enter Tryz.func38, Tryz.ntmps38
  go_wp2
  go_quiet (fail)
  go_wp2_with fail
  all_goals first
    | (go_ret; refine ⟨ret_bool ?_, below_drewN ((Below.refl _ _).alloc (Nat.le_refl _) _) _⟩; clear a0 a1 a2 a3 a4 HVV; simp_all; done)
    | skip
  all_goals (refine (HVV.out _ (below_drewN ((Below.refl _ _).alloc (Nat.le_refl _) _) _)).mono ?_; rintro e w1 ⟨rfl, hb1⟩)
  all_goals have HB1 := Lib.hid hb1
  all_goals clear hb1
  all_goals go_wp2
  all_goals go_ret
  all_goals refine ⟨ret_bool ?_, (below_drewN ((Below.refl _ _).alloc (Nat.le_refl _) _) _).trans (HB1.out.mono (by simp))⟩
  all_goals (clear a0 a1 a2 a3 a4 HVV HB1; simp_all)
end Go.Proofs.YtnmojmmgkipjcaaGreatDoor
namespace Go.Proofs.YtnmojmmgkipjcaaGreatDoor
open Go.RowKit
set_option maxHeartbeats 2000000 in
theorem fitsO_c (k n : Int) (h : k < 0 ∨ 6 < k) (s : ByteArray) (an ai : Option Addr) (ln cn li ci : Nat) (w : World) :
    Calls Tryz.prog 38 #[.agg #[.int .i64 k, .int .i64 n, .string s, .slice an ln cn, .slice ai li ci]] w fun e w' => e = .returned (.bool false) ∧ Below w.heap.size w w' := by
  obtain ⟨a0, a1, a2, a3, a4⟩ := cells5 w (.int .i64 k) (.int .i64 n) (.string s) (.slice an ln cn) (.slice ai li ci) 25
  have b0 : (k == 0) = false := by simp; omega
  have b1 : (k == 1) = false := by simp; omega
  have b2 : (k == 2) = false := by simp; omega
  have b3 : (k == 3) = false := by simp; omega
  have b4 : (k == 4) = false := by simp; omega
  have b5 : (k == 5) = false := by simp; omega
  have b6 : (k == 6) = false := by simp; omega
  clear h
  go_enter Tryz.func38, Tryz.ntmps38
  go_wp2
  go_quiet (fail)
  go_wp2
  go_ret
  exact ⟨rfl, below_drewN ((Below.refl _ _).alloc (Nat.le_refl _) _) _⟩
theorem fits_c (k n : Int) (s : ByteArray) (an ai : Option Addr) (ln cn li ci : Nat) (hln : ln ≤ 9223372036854775807) (hli : li ≤ 9223372036854775807) (hs : s.size ≤ 9223372036854775807) (w : World) (hT : Lib.Utf8Tabs 0 1 w) :
    Calls Tryz.prog 38 #[.agg #[.int .i64 k, .int .i64 n, .string s, .slice an ln cn, .slice ai li ci]] w fun e w' => e = .returned (.bool (fitsB k n s ln li)) ∧ Below w.heap.size w w' := by
  rcases (show k = 0 ∨ k = 1 ∨ k = 2 ∨ k = 3 ∨ k = 4 ∨ k = 5 ∨ k = 6 ∨ (k < 0 ∨ 6 < k) by omega) with rfl | rfl | rfl | rfl | rfl | rfl | rfl | h
  · exact fits0_c n s an ai ln cn li ci hln hli w
  · exact fits1_c n s an ai ln cn li ci hln hli w
  · exact fits2_c n s an ai ln cn li ci hln hli w
  · exact fits3_c n s an ai ln cn li ci hln hli w
  · exact fits4_c n s an ai ln cn li ci hs w hT
  · exact fits5_c n s an ai ln cn li ci hln hli w
  · exact fits6_c n s an ai ln cn li ci hln hli w
  · rw [show fitsB k n s ln li = false by
      unfold fitsB
      rw [if_neg (by omega), if_neg (by omega), if_neg (by omega), if_neg (by omega), if_neg (by omega)]]
    exact fitsO_c k n h s an ai ln cn li ci w
end Go.Proofs.YtnmojmmgkipjcaaGreatDoor
namespace Go.Proofs.YtnmojmmgkipjcaaGreatDoor
open Go.RowKit
/-- how deep a value of a kind may stand -/
def mostD (k : Int) : Int := if k = 5 ∨ k = 6 then 63 else 64
mutual
/-- the first fault of a value at a depth; 0: none -/
def chk : JV → Int → Int
  | .mk k n s ns is, d =>
    if mostD k < d then 17
    else if fitsB k n s ns.length is.length = false then 18
    else chkL (decide (k = 6)) ns [] is d
def chkL : Bool → List ByteArray → List ByteArray → List JV → Int → Int
  | _, _, _, [], _ => 0
  | o, ns, seen, t :: r, d =>
    if o = true ∧ Lib.validD (ns.headD ByteArray.empty).data.toList = false then 18
    else if o = true ∧ hasB seen (ns.headD ByteArray.empty) = true then 16
    else if chk t (d + 1) = 0 then chkL o ns.tail (seen ++ [ns.headD ByteArray.empty]) r d else chk t (d + 1)
end
mutual
theorem chk_vals : ∀ (t : JV) (d : Int), chk t d = 0 ∨ chk t d = 16 ∨ chk t d = 17 ∨ chk t d = 18
  | .mk k n s ns is, d => by
    rw [chk]
    have := chkL_vals (decide (k = 6)) ns [] is d
    split
    · simp
    · split
      · simp
      · exact this
theorem chkL_vals : ∀ (o : Bool) (ns seen : List ByteArray) (is : List JV) (d : Int), chkL o ns seen is d = 0 ∨ chkL o ns seen is d = 16 ∨ chkL o ns seen is d = 17 ∨ chkL o ns seen is d = 18
  | _, _, _, [], _ => by simp [chkL]
  | o, ns, seen, t :: r, d => by
    rw [chkL]
    have h1 := chk_vals t (d + 1)
    have h2 := chkL_vals o ns.tail (seen ++ [ns.headD ByteArray.empty]) r d
    split
    · simp
    · split
      · simp
      · split
        · exact h2
        · exact h1
end
theorem fits_len {k n : Int} {s : ByteArray} {ln li : Nat} (h : fitsB k n s ln li = true) (hk : k = 6) : ln = li := by
  subst hk
  simp [fitsB] at h
  omega
mutual
theorem ok_chk : ∀ (t : JV) (d : Int), chk t d = 0 → okT t
  | .mk k n s ns is, d, h => by
    rw [chk] at h
    rw [okT]
    split at h
    · exact absurd h (by decide)
    · split at h
      · exact absurd h (by decide)
      · rename_i h2
        exact ⟨fun hk => by have := fits_len (by simpa using h2) hk; omega, ok_chkL _ _ _ _ _ h⟩
theorem ok_chkL : ∀ (o : Bool) (ns seen : List ByteArray) (is : List JV) (d : Int), chkL o ns seen is d = 0 → okTs is
  | _, _, _, [], _, _ => by rw [okTs]; trivial
  | o, ns, seen, t :: r, d, h => by
    rw [chkL] at h
    rw [okTs]
    split at h
    · exact absurd h (by decide)
    · split at h
      · exact absurd h (by decide)
      · split at h
        · rename_i h3
          exact ⟨ok_chk t (d + 1) h3, ok_chkL _ _ _ _ _ h⟩
        · contradiction
end
end Go.Proofs.YtnmojmmgkipjcaaGreatDoor
