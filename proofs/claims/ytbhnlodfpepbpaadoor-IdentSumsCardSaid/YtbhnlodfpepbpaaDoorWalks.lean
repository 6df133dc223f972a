/- The walks of package ident's numbers: Mix, Unmix, their parts; program and document. Conditions: the tables hold their numbers. -/
import Derived.Test.YtbhnlodfpepbpaaDoorRows
import Derived.Test.YtbhnlodfpepbpaaDoorBits
import Derived.WalkKit
import Derived.WalkSpells
import Derived.WalkLawsBesides
import Derived.Handy
import Derived.BigQuiet
import Derived.Test.YtbhnlodfpepbpaaDoorKit
namespace Go.Proofs.YtbhnlodfpepbpaaDoor
open Go.RowKit
attribute [local go_sem] bv_add bv_mul bv_sub bv_subc bv_xor bv_xor_byte bv_wrap_byte bv_ofInt bv_shr30 bv_shr27 bv_shr31 c_gap c_fa c_fb c_2 c_fnv u_beq u_bne
/-- The tables of package ident, in memory. -/
structure Tabs (w : World) : Prop where
  s0 : w.cell? ⟨0, 0, none⟩ = some (.int .u64 30)
  s1 : w.cell? ⟨0, 1, none⟩ = some (.int .u64 27)
  s2 : w.cell? ⟨0, 2, none⟩ = some (.int .u64 31)
  f0 : w.cell? ⟨1, 0, none⟩ = some (.int .u64 13787848793156543929)
  f1 : w.cell? ⟨1, 1, none⟩ = some (.int .u64 10723151780598845931)

set_option maxHeartbeats 400000 in
theorem refMix_c (X : BitVec 64) (w : World) :
    Calls Tryd.prog 11 #[.int .u64 (u X)] w fun e w' => e = .returned (.int .u64 (u (mixB X))) ∧ w' = w := by
  go_enter Tryd.func11, Tryd.ntmps11
  go_wp2
  go_ret
  exact ⟨rfl, rfl⟩
set_option maxHeartbeats 400000 in
theorem mix_c (X : BitVec 64) (w : World) (t : Tabs w) :
    Calls Tryd.prog 10 #[.int .u64 (u X)] w fun e w' => e = .returned (.int .u64 (u (mixB X))) ∧ w' = w := by
  obtain ⟨s0, s1, s2, f0, f1⟩ := t
  go_enter Tryd.func10, Tryd.ntmps10
  go_wp2
  go_ret
  exact ⟨rfl, rfl⟩
set_option maxHeartbeats 400000 in
theorem inverse_c (X : BitVec 64) (w : World) :
    Calls Tryd.prog 38 #[.int .u64 (u X)] w fun e w' => e = .returned (.int .u64 (u (rep (fun x => x * (2#64 - X * x)) 6 X))) ∧ w' = w := by
  go_enter Tryd.func38, Tryd.ntmps38
  go_wp2
  go_loop [3, 5] (fun x i => ∃ k : Nat, k ≤ 6 ∧ i = .int .i64 k ∧ x = .int .u64 (u (rep (fun x => x * (2#64 - X * x)) k X))) (fun _ i => 6 - (intOf i).toNat)
  case atStart => exact ⟨0, by omega, rfl, rfl⟩
  case round =>
    obtain ⟨k, hk, rfl, rfl⟩ := hrel
    have hs := rep_succ (fun x => x * (2#64 - X * x)) k X
    generalize hy : rep (fun x => x * (2#64 - X * x)) k X = Y at hs
    have HS := Lib.hid hs; clear hs
    have HY := Lib.hid hy; clear hy
    by_cases hlt : k < 6
    · go_wp2
      go_round
      case rel => exact ⟨k + 1, by omega, by go_num, by rw [HS.out]⟩
      case measure => simp [intOf]; omega
    · obtain rfl : k = 6 := by omega
      go_wp2
      go_ret
      exact ⟨by rw [HY.out]; rfl, rfl⟩
theorem k_lit (k : Nat) (h : k = 27 ∨ k = 30 ∨ k = 31) (X : BitVec 64) : u X / 2 ^ min k 64 = u (X >>> k) := by
  rcases h with rfl | rfl | rfl
  · exact bv_shr X 27
  · exact bv_shr X 30
  · exact bv_shr X 31
set_option maxHeartbeats 400000 in
theorem unshift_c (X : BitVec 64) (w : World) (b : Int) (k : Nat) (h : b = 27 ∧ k = 27 ∨ b = 30 ∧ k = 30 ∨ b = 31 ∧ k = 31) :
    Calls Tryd.prog 37 #[.int .u64 (u X), .int .u64 b] w fun e w' => e = .returned (.int .u64 (u (unsh X k 3))) ∧ w' = w := by
  rcases h with ⟨rfl, rfl⟩ | ⟨rfl, rfl⟩ | ⟨rfl, rfl⟩
  all_goals
    go_enter Tryd.func37, Tryd.ntmps37
    go_wp2
    go_rounds 4
    go_ret
    exact ⟨rfl, rfl⟩
set_option maxHeartbeats 400000 in
theorem refInverse_c (X : BitVec 64) (w : World) :
    Calls Tryd.prog 40 #[.int .u64 (u X)] w fun e w' => e = .returned (.int .u64 (u (rep (fun x => x * (2#64 - X * x)) 64 1#64))) ∧ w' = w := by
  go_enter Tryd.func40, Tryd.ntmps40
  go_wp2
  go_loop [3, 4] (fun x i => ∃ k : Nat, k ≤ 64 ∧ i = .int .i64 k ∧ x = .int .u64 (u (rep (fun x => x * (2#64 - X * x)) k 1#64))) (fun _ i => 64 - (intOf i).toNat)
  case atStart => exact ⟨0, by omega, rfl, rfl⟩
  case round =>
    obtain ⟨k, hk, rfl, rfl⟩ := hrel
    have hs := rep_succ (fun x => x * (2#64 - X * x)) k 1#64
    generalize hy : rep (fun x => x * (2#64 - X * x)) k 1#64 = Y at hs
    have HS := Lib.hid hs; clear hs
    have HY := Lib.hid hy; clear hy
    by_cases hlt : k < 64
    · go_wp2
      go_round
      case rel => exact ⟨k + 1, by omega, by go_num, by rw [HS.out]⟩
      case measure => simp [intOf]; omega
    · obtain rfl : k = 64 := by omega
      go_wp2
      go_ret
      exact ⟨by rw [HY.out]; rfl, rfl⟩
theorem refUnshift_round (X : BitVec 64) (k : Nat) (j : Nat) : ustep X k (unsh X k j) = unsh X k (j + 1) := (rep_succ (ustep X k) j X).symm
set_option maxHeartbeats 400000 in
theorem refUnshift27_c (X : BitVec 64) (w : World) :
    Calls Tryd.prog 39 #[.int .u64 (u X), .int .i64 27] w fun e w' => e = .returned (.int .u64 (u (unsh X 27 3))) ∧ w' = w := by
  go_enter Tryd.func39, Tryd.ntmps39
  go_wp2
  go_loop [5, 6] (fun x i => ∃ j : Nat, j ≤ 64 ∧ i = .int .i64 j ∧ x = .int .u64 (u (unsh X 27 j))) (fun _ i => 64 - (intOf i).toNat)
  case atStart => exact ⟨0, by omega, rfl, rfl⟩
  case round =>
    obtain ⟨j, hk, rfl, rfl⟩ := hrel
    have hs := refUnshift_round X 27 j
    generalize hy : unsh X 27 j = Y at hs
    have HS := Lib.hid hs; clear hs
    have HY := Lib.hid hy; clear hy
    by_cases hlt : j < 64
    · go_wp2
      go_round
      case rel => exact ⟨j + 1, by omega, by go_num, by rw [← HS.out]; rfl⟩
      case measure => simp [intOf]; omega
    · obtain rfl : j = 64 := by omega
      go_wp2
      go_ret
      exact ⟨by rw [← HY.out, unsh_same X 27 64 3 (by decide) (by decide)]; rfl, rfl⟩
set_option maxHeartbeats 400000 in
theorem refUnshift30_c (X : BitVec 64) (w : World) :
    Calls Tryd.prog 39 #[.int .u64 (u X), .int .i64 30] w fun e w' => e = .returned (.int .u64 (u (unsh X 30 3))) ∧ w' = w := by
  go_enter Tryd.func39, Tryd.ntmps39
  go_wp2
  go_loop [5, 6] (fun x i => ∃ j : Nat, j ≤ 64 ∧ i = .int .i64 j ∧ x = .int .u64 (u (unsh X 30 j))) (fun _ i => 64 - (intOf i).toNat)
  case atStart => exact ⟨0, by omega, rfl, rfl⟩
  case round =>
    obtain ⟨j, hk, rfl, rfl⟩ := hrel
    have hs := refUnshift_round X 30 j
    generalize hy : unsh X 30 j = Y at hs
    have HS := Lib.hid hs; clear hs
    have HY := Lib.hid hy; clear hy
    by_cases hlt : j < 64
    · go_wp2
      go_round
      case rel => exact ⟨j + 1, by omega, by go_num, by rw [← HS.out]; rfl⟩
      case measure => simp [intOf]; omega
    · obtain rfl : j = 64 := by omega
      go_wp2
      go_ret
      exact ⟨by rw [← HY.out, unsh_same X 30 64 3 (by decide) (by decide)]; rfl, rfl⟩
set_option maxHeartbeats 400000 in
theorem refUnshift31_c (X : BitVec 64) (w : World) :
    Calls Tryd.prog 39 #[.int .u64 (u X), .int .i64 31] w fun e w' => e = .returned (.int .u64 (u (unsh X 31 3))) ∧ w' = w := by
  go_enter Tryd.func39, Tryd.ntmps39
  go_wp2
  go_loop [5, 6] (fun x i => ∃ j : Nat, j ≤ 64 ∧ i = .int .i64 j ∧ x = .int .u64 (u (unsh X 31 j))) (fun _ i => 64 - (intOf i).toNat)
  case atStart => exact ⟨0, by omega, rfl, rfl⟩
  case round =>
    obtain ⟨j, hk, rfl, rfl⟩ := hrel
    have hs := refUnshift_round X 31 j
    generalize hy : unsh X 31 j = Y at hs
    have HS := Lib.hid hs; clear hs
    have HY := Lib.hid hy; clear hy
    by_cases hlt : j < 64
    · go_wp2
      go_round
      case rel => exact ⟨j + 1, by omega, by go_num, by rw [← HS.out]; rfl⟩
      case measure => simp [intOf]; omega
    · obtain rfl : j = 64 := by omega
      go_wp2
      go_ret
      exact ⟨by rw [← HY.out, unsh_same X 31 64 3 (by decide) (by decide)]; rfl, rfl⟩

theorem fbLit : u fb = 10723151780598845931 := rfl
theorem faLit : u fa = 13787848793156543929 := rfl
theorem inverseA_c (w : World) : Calls Tryd.prog 38 #[.int .u64 13787848793156543929] w fun e w' => e = .returned (.int .u64 (u ia)) ∧ w' = w := inverse_c fa w
theorem inverseB_c (w : World) : Calls Tryd.prog 38 #[.int .u64 10723151780598845931] w fun e w' => e = .returned (.int .u64 (u ib)) ∧ w' = w := inverse_c fb w
theorem refInvA : rep (fun x => x * (2#64 - fa * x)) 64 1#64 = ia := by decide +kernel
theorem refInvB : rep (fun x => x * (2#64 - fb * x)) 64 1#64 = ib := by decide +kernel
theorem refInverseA_c (w : World) : Calls Tryd.prog 40 #[.int .u64 13787848793156543929] w fun e w' => e = .returned (.int .u64 (u ia)) ∧ w' = w := by
  rw [← refInvA]; exact refInverse_c fa w
theorem refInverseB_c (w : World) : Calls Tryd.prog 40 #[.int .u64 10723151780598845931] w fun e w' => e = .returned (.int .u64 (u ib)) ∧ w' = w := by
  rw [← refInvB]; exact refInverse_c fb w
set_option maxHeartbeats 400000 in
theorem unmix_c (X : BitVec 64) (w : World) (t : Tabs w) :
    Calls Tryd.prog 12 #[.int .u64 (u X)] w fun e w' => e = .returned (.int .u64 (u (unmixB X))) ∧ ∃ n, w' = w.drewN n := by
  obtain ⟨s0, s1, s2, f0, f1⟩ := t
  go_enter Tryd.func12, Tryd.ntmps12
  go_wp2_with (go_at_call 37; refine (unshift_c _ _ _ 31 (by simp)).mono ?_; rintro e w' ⟨rfl, rfl⟩)
  go_quiet ((first | (go_at_call 38; exact quietS (inverseB_c _)) | (go_at_call 37; exact quietS (unshift_c _ _ _ 27 (by simp)))))
  go_wp2
  go_quiet ((first | (go_at_call 38; exact quietS2 (inverseA_c _)) | (go_at_call 37; exact quietS2 (unshift_c _ _ _ 30 (by simp)))))
  go_wp2
  go_ret
  exact ⟨rfl, _, rfl⟩
set_option maxHeartbeats 400000 in
theorem refUnmix_c (X : BitVec 64) (w : World) :
    Calls Tryd.prog 13 #[.int .u64 (u X)] w fun e w' => e = .returned (.int .u64 (u (unmixB X))) ∧ w' = w := by
  go_enter Tryd.func13, Tryd.ntmps13
  go_wp2_with fail
  refine (refUnshift31_c X _).mono ?_; rintro e w' ⟨rfl, rfl⟩
  go_wp2_with fail
  refine (refInverseB_c _).mono ?_; rintro e w' ⟨rfl, rfl⟩
  go_wp2_with fail
  refine (refUnshift27_c _ _).mono ?_; rintro e w' ⟨rfl, rfl⟩
  go_wp2_with fail
  refine (refInverseA_c _).mono ?_; rintro e w' ⟨rfl, rfl⟩
  go_wp2_with fail
  refine (refUnshift30_c _ _).mono ?_; rintro e w' ⟨rfl, rfl⟩
  go_wp2
  go_ret
  exact ⟨rfl, rfl⟩
end Go.Proofs.YtbhnlodfpepbpaaDoor
