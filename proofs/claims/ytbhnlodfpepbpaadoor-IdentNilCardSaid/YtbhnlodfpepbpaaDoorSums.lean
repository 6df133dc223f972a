/- The walks of sums, stripes and digits; program and document. Conditions: lengths within what a string may have. -/
import Derived.Test.YtbhnlodfpepbpaaDoorWalks
import Derived.WalkSpells
import Derived.WalkLawsBesides
import Derived.Handy
namespace Go.Proofs.YtbhnlodfpepbpaaDoor
open Go.RowKit
attribute [local go_sem] bv_add bv_mul bv_sub bv_subc bv_xor bv_xor_byte bv_wrap_byte bv_ofInt bv_shr30 bv_shr27 bv_shr31 c_gap c_fa c_fb c_2 c_fnv u_beq u_bne
theorem and15 (n : Nat) (h : n < 18446744073709551616) : bits .and .u64 (n : Int) 15 = ((n % 16 : Nat) : Int) := by
  have h1 := u64_and_nat n 15 h (by decide)
  rw [nat_mask4] at h1
  exact h1
theorem digit_eq (X : BitVec 64) (l : Nat) : wrap64 (bits .and .u64 (u X / 2 ^ (4 * l)) 15) = (digN X l : Int) := by
  have e : u X / 2 ^ (4 * l) = ((X.toNat / 16 ^ l : Nat) : Int) := by
    unfold u
    rw [show (16 : Nat) ^ l = 2 ^ (4 * l) from by rw [show (16 : Nat) = 2 ^ 4 from rfl, ← Nat.pow_mul]]
    simp
  rw [e, and15 _ (Nat.lt_of_le_of_lt (Nat.div_le_self _ _) X.isLt)]
  have := digN_lt X l
  unfold digN at *
  exact IntWalk.wrap64_in _ (by omega)
set_option maxHeartbeats 400000 in
theorem digit_c (X : BitVec 64) (l : Nat) (hl : l < 16) (w : World) :
    Calls Tryd.prog 26 #[.int .u64 (u X), .int .i64 (l : Int)] w fun e w' => e = .returned (.int .i64 (digN X l : Int)) ∧ w' = w := by
  go_enter Tryd.func26, Tryd.ntmps26
  go_wp2
  go_ret
  exact ⟨by rw [digit_eq X l]; rfl, rfl⟩
set_option maxHeartbeats 400000 in
theorem digitOut_c (X : BitVec 64) (l : Int) (hl : l < 0 ∨ 16 ≤ l) (w : World) :
    Calls Tryd.prog 26 #[.int .u64 (u X), .int .i64 (l : Int)] w fun e w' => e = .returned (.int .i64 0) ∧ w' = w := by
  rcases hl with h | h
  all_goals
    go_enter Tryd.func26, Tryd.ntmps26
    go_wp2
    go_ret
    exact ⟨rfl, rfl⟩
theorem div_step (X : BitVec 64) (k : Nat) : X.toNat / 16 ^ (k + 1) = X.toNat / 16 ^ k / 16 := by
  rw [Nat.pow_succ, Nat.div_div_eq_div_mul]
set_option maxHeartbeats 400000 in
theorem refDigit_c (X : BitVec 64) (l : Nat) (hl : l < 16) (w : World) :
    Calls Tryd.prog 27 #[.int .u64 (u X), .int .i64 (l : Int)] w fun e w' => e = .returned (.int .i64 (digN X l : Int)) ∧ w' = w := by
  go_enter Tryd.func27, Tryd.ntmps27
  go_wp2
  go_loop [0, 5] (fun h i => ∃ k : Nat, k ≤ l ∧ i = .int .i64 k ∧ h = .int .u64 ((X.toNat / 16 ^ k : Nat) : Int)) (fun _ i => l - (intOf i).toNat)
  case atStart => exact ⟨0, by omega, rfl, by simp [u]⟩
  case round =>
    obtain ⟨k, hk, rfl, rfl⟩ := hrel
    have hd := div_step X k
    have hm : X.toNat / 16 ^ k % 16 = digN X k := rfl
    have hlt16 := digN_lt X k
    have hY : X.toNat / 16 ^ k < 18446744073709551616 := Nat.lt_of_le_of_lt (Nat.div_le_self _ _) X.isLt
    generalize X.toNat / 16 ^ k = Y at hd hm hY
    have HD := Lib.hid hd; clear hd
    have HM := Lib.hid hm; clear hm
    by_cases hlt : k < l
    · go_wp2
      go_round
      case rel => exact ⟨k + 1, by omega, by go_num, by rw [HD.out]; go_num⟩
      case measure => simp [intOf]; omega
    · obtain rfl : k = l := by omega
      go_wp2
      go_ret
      exact ⟨by rw [← HM.out]; exact ret_int (by omega), rfl⟩
theorem take_snoc (s : ByteArray) (k : Nat) (h : k < s.size) : s.data.toList.take (k + 1) = s.data.toList.take k ++ [s[k]] := by
  rw [List.take_succ_eq_append_getElem (by simpa using h)]; rfl
theorem hash_round (H : BitVec 64) (s : ByteArray) (k : Nat) (h : k < s.size) : hashB H (s.data.toList.take (k + 1)) = hstep (hashB H (s.data.toList.take k)) s[k] := by
  rw [take_snoc s k h, hashB_snoc]
theorem hash_end (H : BitVec 64) (s : ByteArray) : hashB H (s.data.toList.take s.size) = hashB H s.data.toList := by
  rw [List.take_of_length_le (by simp)]
set_option maxHeartbeats 400000 in
theorem hashOn_c (H : BitVec 64) (s : ByteArray) (hs : s.size ≤ maxLen) (w : World) :
    Calls Tryd.prog 22 #[.int .u64 (u H), .string s] w fun e w' => e = .returned (.int .u64 (u (hashB H s.data.toList))) ∧ w' = w := by
  unfold maxLen at hs
  go_enter Tryd.func22, Tryd.ntmps22
  go_wp2
  go_loop [0, 8] (fun h i => ∃ k : Nat, k ≤ s.size ∧ i = .int .i64 k ∧ h = .int .u64 (u (hashB H (s.data.toList.take k)))) (fun _ i => s.size - (intOf i).toNat)
  case atStart => exact ⟨0, by omega, rfl, rfl⟩
  case round =>
    obtain ⟨k, hk, rfl, rfl⟩ := hrel
    have HR := Lib.hid (hash_round H s k)
    by_cases hlt : k < s.size
    · generalize hashB H (s.data.toList.take k) = Y at HR
      go_wp2
      go_round
      case rel => exact ⟨k + 1, by omega, by go_num, by rw [HR.out hlt, hstep]⟩
      case measure => simp [intOf]; omega
    · obtain rfl : k = s.size := by omega
      rw [hash_end H s]
      go_wp2
      go_ret
      exact ⟨rfl, rfl⟩
set_option maxHeartbeats 400000 in
theorem refHashOn_c (H : BitVec 64) (s : ByteArray) (hs : s.size ≤ maxLen) (w : World) :
    Calls Tryd.prog 23 #[.int .u64 (u H), .string s] w fun e w' => e = .returned (.int .u64 (u (hashB H s.data.toList))) ∧ w' = w := by
  unfold maxLen at hs
  go_enter Tryd.func23, Tryd.ntmps23
  go_wp2
  go_loop [0, 5] (fun h i => ∃ k : Nat, k ≤ s.size ∧ i = .int .i64 k ∧ h = .int .u64 (u (hashB H (s.data.toList.take k)))) (fun _ i => s.size - (intOf i).toNat)
  case atStart => exact ⟨0, by omega, rfl, rfl⟩
  case round =>
    obtain ⟨k, hk, rfl, rfl⟩ := hrel
    have HR := Lib.hid (hash_round H s k)
    by_cases hlt : k < s.size
    · generalize hashB H (s.data.toList.take k) = Y at HR
      go_wp2
      go_round
      case rel => exact ⟨k + 1, by omega, by go_num, by rw [HR.out hlt, hstep]⟩
      case measure => simp [intOf]; omega
    · obtain rfl : k = s.size := by omega
      rw [hash_end H s]
      go_wp2
      go_ret
      exact ⟨rfl, rfl⟩
set_option maxHeartbeats 400000 in
theorem hash_c (s : ByteArray) (hs : s.size ≤ maxLen) (w : World) :
    Calls Tryd.prog 20 #[.string s] w fun e w' => e = .returned (.int .u64 (u (hashB hash0 s.data.toList))) ∧ w' = w := by
  go_enter Tryd.func20, Tryd.ntmps20
  go_wp2_with fail
  refine (show Calls Tryd.prog 22 #[.int .u64 14695981039346656037, .string s] w _ from hashOn_c hash0 s hs w).mono ?_
  rintro e w' ⟨rfl, rfl⟩
  go_wp2
  go_ret
  exact ⟨rfl, rfl⟩
set_option maxHeartbeats 400000 in
theorem refHash_c (s : ByteArray) (hs : s.size ≤ maxLen) (w : World) :
    Calls Tryd.prog 21 #[.string s] w fun e w' => e = .returned (.int .u64 (u (hashB hash0 s.data.toList))) ∧ w' = w := by
  go_enter Tryd.func21, Tryd.ntmps21
  go_wp2_with fail
  refine (show Calls Tryd.prog 23 #[.int .u64 14695981039346656037, .string s] w _ from refHashOn_c hash0 s hs w).mono ?_
  rintro e w' ⟨rfl, rfl⟩
  go_wp2
  go_ret
  exact ⟨rfl, rfl⟩
/-- the stripe of a text -/
def stripeN (l : List UInt8) (n : Int) : Int := if n < 1 ∨ 64 < n then 0 else u (hashB hash0 l) % n
set_option maxHeartbeats 400000 in
theorem stripe_c (s : ByteArray) (hs : s.size ≤ maxLen) (n : Int) (w : World) :
    Calls Tryd.prog 24 #[.string s, .int .i64 n] w fun e w' => e = .returned (.int .i64 (stripeN s.data.toList n)) ∧ w' = w := by
  by_cases h : n < 1 ∨ 64 < n
  · have e0 : stripeN s.data.toList n = 0 := by unfold stripeN; rw [if_pos h]
    rw [e0]
    rcases h with h | h
    all_goals
      go_enter Tryd.func24, Tryd.ntmps24
      go_wp2
      go_ret
      exact ⟨rfl, rfl⟩
  · have e0 : stripeN s.data.toList n = u (hashB hash0 s.data.toList) % n := by unfold stripeN; rw [if_neg h]
    rw [e0]
    have h1 : 1 ≤ n := by omega
    have h2 : n ≤ 64 := by omega
    clear h e0
    have hc := hash_c s hs w
    have hlo := u_lo (hashB hash0 s.data.toList)
    generalize u (hashB hash0 s.data.toList) = Y at *
    have ht : Y.tmod n = Y % n := Int.tmod_eq_emod_of_nonneg hlo
    have hb0 := Int.emod_nonneg Y (show n ≠ 0 by omega)
    have hb1 := Int.emod_lt_of_pos Y (show 0 < n by omega)
    go_enter Tryd.func24, Tryd.ntmps24
    go_wp2_with fail
    refine hc.mono ?_
    rintro e w' ⟨rfl, rfl⟩
    clear hc
    go_wp2
    go_ret
    exact ⟨rfl, rfl⟩
set_option maxHeartbeats 400000 in
theorem refStripe_c (s : ByteArray) (hs : s.size ≤ maxLen) (n : Int) (w : World) :
    Calls Tryd.prog 25 #[.string s, .int .i64 n] w fun e w' => e = .returned (.int .i64 (stripeN s.data.toList n)) ∧ w' = w := by
  by_cases h : n < 1 ∨ 64 < n
  · have e0 : stripeN s.data.toList n = 0 := by unfold stripeN; rw [if_pos h]
    rw [e0]
    rcases h with h | h
    all_goals
      go_enter Tryd.func25, Tryd.ntmps25
      go_wp2
      go_ret
      exact ⟨rfl, rfl⟩
  · have e0 : stripeN s.data.toList n = u (hashB hash0 s.data.toList) % n := by unfold stripeN; rw [if_neg h]
    rw [e0]
    have h1 : 1 ≤ n := by omega
    have h2 : n ≤ 64 := by omega
    clear h e0
    have hc := refHash_c s hs w
    have hlo := u_lo (hashB hash0 s.data.toList)
    generalize u (hashB hash0 s.data.toList) = Y at *
    have ht : Y.tmod n = Y % n := Int.tmod_eq_emod_of_nonneg hlo
    have hb0 := Int.emod_nonneg Y (show n ≠ 0 by omega)
    have hb1 := Int.emod_lt_of_pos Y (show 0 < n by omega)
    go_enter Tryd.func25, Tryd.ntmps25
    go_wp2_with fail
    refine hc.mono ?_
    rintro e w' ⟨rfl, rfl⟩
    clear hc
    go_wp2
    go_ret
    exact ⟨rfl, rfl⟩
end Go.Proofs.YtbhnlodfpepbpaaDoor
