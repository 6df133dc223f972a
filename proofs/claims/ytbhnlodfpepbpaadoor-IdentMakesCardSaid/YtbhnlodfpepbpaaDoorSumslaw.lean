/- The walk of IdentSums. Conditions: the tables hold their numbers; the two texts' lengths add up to an int. -/
import Derived.Test.YtbhnlodfpepbpaaDoorLive
import Derived.WalkSpells
import Derived.WalkLawsBesides
import Derived.Handy
import Derived.BigQuiet
namespace Go.Proofs.YtbhnlodfpepbpaaDoor
open Go.RowKit
attribute [local go_sem] bv_add bv_mul bv_sub bv_subc bv_xor bv_xor_byte bv_wrap_byte bv_ofInt u_beq u_bne c_1 add_sub_one unmix_mix mix_unmix bv_mul16
/-- the digit at whatever level -/
def digI (X : BitVec 64) (l : Int) : Int := if l < 0 ∨ 16 ≤ l then 0 else (digN X l.toNat : Int)
theorem digitAny_c (X : BitVec 64) (l : Int) (w : World) :
    Calls Tryd.prog 26 #[.int .u64 (u X), .int .i64 l] w fun e w' => e = .returned (.int .i64 (digI X l)) ∧ w' = w := by
  by_cases h : l < 0 ∨ 16 ≤ l
  · rw [show digI X l = 0 from if_pos h]; exact digitOut_c X l h w
  · rw [show digI X l = (digN X l.toNat : Int) from if_neg h]; exact digitI_c X l (by omega) (by omega) w
set_option maxHeartbeats 400000 in
theorem refDigitOut_c (X : BitVec 64) (l : Int) (hl : l < 0 ∨ 16 ≤ l) (w : World) :
    Calls Tryd.prog 27 #[.int .u64 (u X), .int .i64 (l : Int)] w fun e w' => e = .returned (.int .i64 0) ∧ w' = w := by
  rcases hl with h | h
  all_goals
    go_enter Tryd.func27, Tryd.ntmps27
    go_wp2
    go_ret
    exact ⟨rfl, rfl⟩
theorem refDigitAny_c (X : BitVec 64) (l : Int) (w : World) :
    Calls Tryd.prog 27 #[.int .u64 (u X), .int .i64 l] w fun e w' => e = .returned (.int .i64 (digI X l)) ∧ w' = w := by
  by_cases h : l < 0 ∨ 16 ≤ l
  · rw [show digI X l = 0 from if_pos h]; exact refDigitOut_c X l h w
  · rw [show digI X l = (digN X l.toNat : Int) from if_neg h]
    obtain ⟨n, rfl⟩ := Int.eq_ofNat_of_zero_le (show 0 ≤ l by omega)
    exact refDigit_c X n (by omega) w
theorem back_step (h : BitVec 64) (k : Nat) (hk : k < 16) : backN h (k + 1) = 16#64 * backN h k + BitVec.ofInt 64 (digN h (15 - k) : Int) := by
  rw [backN_succ h k hk, BitVec.mul_comm, BitVec.ofInt_natCast]
set_option maxHeartbeats 2000000 in
theorem sums_walk (A B : ByteArray) (n l : Int) (H : BitVec 64) (w : World) (t : Tabs w) (hA : A.size ≤ maxLen) (hB : B.size ≤ maxLen) (hAB : A.size + B.size ≤ 9223372036854775807) :
    Calls Tryd.prog 5 #[.agg #[.string A, .string B, .int .i64 n, .int .u64 (u H), .int .i64 l]] w fun e w' => e = .returned (.bool true) ∧ Below w.heap.size w w' := by
  have hadd := fun w => run_string_add_sum (P := Tryd.prog) w A B hAB
  have hab : (A ++ B).size ≤ maxLen := by rw [ByteArray.size_append]; unfold maxLen; omega
  have HAB := Lib.hid (show hashB hash0 (A ++ B).data.toList = hashB (hashB hash0 A.data.toList) B.data.toList by rw [ByteArray.data_append, Array.toList_append, hashB_append])
  generalize A ++ B = C at *
  go_enter Tryd.func5, Tryd.ntmps5
  go_wp2_with fail
  go_quiet (fail)
  have hb0 : Below w.heap.size w ((w.alloc (.cells #[.string A, .string B, .int .i64 n, .int .u64 (u H), .int .i64 l] 37)).drewN nq) := below_drewN ((Below.refl _ _).alloc (Nat.le_refl _) _) _
  have t1 := tabs_below t hb0
  go_wp2_with fail
  refine (hash_c A hA _).mono ?_; rintro e w1 ⟨rfl, rfl⟩
  go_wp2_with fail
  refine (refHash_c A hA _).mono ?_; rintro e w1 ⟨rfl, rfl⟩
  go_wp2_with fail
  refine (hashOn_c H A hA _).mono ?_; rintro e w1 ⟨rfl, rfl⟩
  go_wp2_with fail
  refine (refHashOn_c H A hA _).mono ?_; rintro e w1 ⟨rfl, rfl⟩
  go_wp2_with fail
  refine (stripe_c A hA n _).mono ?_; rintro e w1 ⟨rfl, rfl⟩
  go_wp2_with fail
  refine (refStripe_c A hA n _).mono ?_; rintro e w1 ⟨rfl, rfl⟩
  go_wp2_with fail
  refine (digitAny_c H l _).mono ?_; rintro e w1 ⟨rfl, rfl⟩
  go_wp2_with fail
  refine (refDigitAny_c H l _).mono ?_; rintro e w1 ⟨rfl, rfl⟩
  go_wp2_with fail
  go_loop [8, 9] (fun y i => ∃ k : Nat, k ≤ 16 ∧ i = .int .i64 (15 - (k : Int)) ∧ y = .int .u64 (u (backN H k))) (fun _ i => (1 + intOf i).toNat)
  case atStart => exact ⟨0, by omega, rfl, by rw [backN_zero]; rfl⟩
  case round =>
    obtain ⟨k, hk, rfl, rfl⟩ := hrel
    by_cases hlt : k < 16
    · have HS := Lib.hid (back_step H k hlt)
      have hd := digN_lt H (15 - k)
      go_wp2_with fail
      refine (digitI_c H (15 - (k : Int)) (by omega) (by omega) _).mono ?_
      rintro e w' ⟨rfl, rfl⟩
      rw [show (15 - (k : Int)).toNat = 15 - k by omega]
      generalize digN H (15 - k) = d at *
      generalize backN H k = Y at *
      go_wp2
      go_round
      case rel => exact ⟨k + 1, by omega, by go_num, by rw [HS.out, BitVec.ofInt_natCast]⟩
      case measure => simp [intOf]; omega
    · obtain rfl : k = 16 := by omega
      rw [backN_all]
      go_wp2_with fail
      refine (hash_c A hA _).mono ?_; rintro e w1 ⟨rfl, rfl⟩
      go_wp2_with fail
      refine (hashOn_c _ B hB _).mono ?_; rintro e w1 ⟨rfl, rfl⟩
      go_wp2_with fail
      refine (hash_c C hab _).mono ?_; rintro e w1 ⟨rfl, rfl⟩
      rw [HAB.out]
      go_wp2_with fail
      refine (live_c _ t1).mono ?_; rintro e w6 ⟨rfl, hb6⟩
      go_wp2
      go_ret
      exact ⟨rfl, below_trans hb0 hb6⟩
end Go.Proofs.YtbhnlodfpepbpaaDoor
