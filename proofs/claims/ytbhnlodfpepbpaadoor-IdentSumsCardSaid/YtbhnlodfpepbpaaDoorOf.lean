/- The walk of the document's Of. Conditions: none. -/
import Derived.Test.YtbhnlodfpepbpaaDoorRefmade
import Derived.WalkSpells
import Derived.WalkLawsBesides
import Derived.Handy
namespace Go.Proofs.YtbhnlodfpepbpaaDoor
open Go.RowKit
attribute [local go_sem] bv_add bv_mul bv_sub bv_subc bv_xor bv_xor_byte bv_wrap_byte bv_ofInt u_beq u_bne c_1
theorem hexIxU (w : World) (d : Nat) (h : d < 16) : (Instr.index 9 (.string ⟨#[48, 49, 50, 51, 52, 53, 54, 55, 56, 57, 97, 98, 99, 100, 101, 102]⟩) (.int .u64 (d : Int))).run Tryd.prog w = .ok (.int .u8 ((hexd d).toNat : Int)) w := by
  rcases (show d = 0 ∨ d = 1 ∨ d = 2 ∨ d = 3 ∨ d = 4 ∨ d = 5 ∨ d = 6 ∨ d = 7 ∨ d = 8 ∨ d = 9 ∨ d = 10 ∨ d = 11 ∨ d = 12 ∨ d = 13 ∨ d = 14 ∨ d = 15 by omega) with rfl | rfl | rfl | rfl | rfl | rfl | rfl | rfl | rfl | rfl | rfl | rfl | rfl | rfl | rfl | rfl
  all_goals kernel_rfl
theorem enc_hex (d : Nat) (h : d < 16) : Utf8.encode ((hexd d).toNat : Int) = ⟨#[hexd d]⟩ := by
  rcases (show d = 0 ∨ d = 1 ∨ d = 2 ∨ d = 3 ∨ d = 4 ∨ d = 5 ∨ d = 6 ∨ d = 7 ∨ d = 8 ∨ d = 9 ∨ d = 10 ∨ d = 11 ∨ d = 12 ∨ d = 13 ∨ d = 14 ∨ d = 15 by omega) with rfl | rfl | rfl | rfl | rfl | rfl | rfl | rfl | rfl | rfl | rfl | rfl | rfl | rfl | rfl | rfl
  all_goals kernel_rfl
theorem conv_hex (d : Nat) (h : d < 16) (w : World) : (convert 5 9 (.int .u8 ((hexd d).toNat : Int))).run Tryd.prog w = .ok (.string ⟨#[hexd d]⟩) w := by
  rw [run_convert_int_string w 5 9 .u8 _ (by rw [Tryd.underlying5]; rfl) Tryd.underlying9, enc_hex d h]
theorem hex_at (d : Nat) (h : d < 16) (h' : d < (⟨#[48, 49, 50, 51, 52, 53, 54, 55, 56, 57, 97, 98, 99, 100, 101, 102]⟩ : ByteArray).size) : (⟨#[48, 49, 50, 51, 52, 53, 54, 55, 56, 57, 97, 98, 99, 100, 101, 102]⟩ : ByteArray)[d]'h' = hexd d := by
  have : ∀ e : Fin 16, (⟨#[48, 49, 50, 51, 52, 53, 54, 55, 56, 57, 97, 98, 99, 100, 101, 102]⟩ : ByteArray)[e.1]'e.2 = hexd e.1 := by decide
  exact this ⟨d, h⟩
theorem conv_hex_at (d : Nat) (h : d < 16) (h' : d < (⟨#[48, 49, 50, 51, 52, 53, 54, 55, 56, 57, 97, 98, 99, 100, 101, 102]⟩ : ByteArray).size) (w : World) : (convert 5 9 (.int .u8 (((⟨#[48, 49, 50, 51, 52, 53, 54, 55, 56, 57, 97, 98, 99, 100, 101, 102]⟩ : ByteArray)[d]'h').toNat : Int))).run Tryd.prog w = .ok (.string ⟨#[hexd d]⟩) w := by
  rw [hex_at d h h']; exact conv_hex d h w
theorem bytes_cons (c : UInt8) (l : List UInt8) : (⟨#[c]⟩ : ByteArray) ++ ⟨l.toArray⟩ = ⟨(c :: l).toArray⟩ := by
  apply ByteArray.ext
  simp [ByteArray.data_append]
theorem add_cons (c : UInt8) (l : List UInt8) (h : l.length ≤ 16) (w : World) : (Op.stringOp .add (⟨#[c]⟩ : ByteArray) ⟨l.toArray⟩).run Tryd.prog w = .ok (.string ⟨(c :: l).toArray⟩) w := by
  rw [run_string_add_sum w _ _ (by show 1 + l.toArray.size ≤ _; simp; omega), bytes_cons]
set_option maxHeartbeats 1000000 in
theorem of_c (S C : BitVec 64) (w : World) :
    Calls Tryd.prog 42 #[.int .u64 (u S), .int .u64 (u C)] w fun e w' => e = .returned (.string ⟨(idOf S C).toArray⟩) ∧ w' = w := by
  go_enter Tryd.func42, Tryd.ntmps42
  go_wp2_with (go_at_call 11; refine (refMix_c _ _).mono ?_; rintro e w' ⟨rfl, rfl⟩)
  generalize hZ : mixB (mixB S ^^^ C) = Z at *
  have HZ := Lib.hid hZ; clear hZ


  go_loop [5, 6, 7] (fun n s i => ∃ k : Nat, k ≤ 16 ∧ i = .int .i64 k ∧ n = .int .u64 ((Z.toNat / 16 ^ k : Nat) : Int) ∧ s = .string ⟨(hexFrom Z k).toArray⟩) (fun _ _ i => 16 - (intOf i).toNat)
  case atStart => exact ⟨0, by omega, rfl, by simp [u], rfl⟩
  case round =>
    obtain ⟨k, hk, rfl, rfl, rfl⟩ := hrel
    by_cases hlt : k < 16
    · have hd := div_step Z k
      have hm : Z.toNat / 16 ^ k % 16 = digN Z k := rfl
      have hlt16 := digN_lt Z k
      have hY : Z.toNat / 16 ^ k < 18446744073709551616 := Nat.lt_of_le_of_lt (Nat.div_le_self _ _) Z.isLt
      have hcv := conv_hex_at (digN Z k) hlt16
      have HF := Lib.hid (show hexFrom Z (k + 1) = hexd (digN Z k) :: hexFrom Z k from rfl)
      have hadd := fun w => add_cons (hexd (digN Z k)) (hexFrom Z k) (by rw [hexFrom_len]; omega) w
      generalize Z.toNat / 16 ^ k = Y at hd hm hY
      have HD := Lib.hid hd; clear hd
      generalize hexFrom Z k = l at *
      generalize digN Z k = D at *
      generalize hexd D = x at *
      go_wp2
      go_round
      case rel => exact ⟨k + 1, by omega, by go_num, by rw [HD.out]; go_num, by rw [HF.out]⟩
      case measure => simp [intOf]; omega
    · obtain rfl : k = 16 := by omega
      have HE := Lib.hid (show (103 :: hexFrom Z 16) = idOf S C by rw [idOf, HZ.out, hexFrom_all])
      have hadd := fun w => add_cons 103 (hexFrom Z 16) (by rw [hexFrom_len]; omega) w
      generalize hexFrom Z 16 = l at *
      generalize Z.toNat / 16 ^ 16 = y at *
      go_wp2
      go_ret
      exact ⟨by rw [← HE.out]; rfl, rfl⟩
end Go.Proofs.YtbhnlodfpepbpaaDoor
