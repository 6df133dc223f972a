/- The walks of IdentNil and IdentMeets. Conditions: the tables hold their numbers. -/
import Derived.Test.YtbhnlodfpepbpaaDoorLive
import Derived.WalkSpells
import Derived.WalkLawsBesides
import Derived.Handy
import Derived.BigQuiet
namespace Go.Proofs.YtbhnlodfpepbpaaDoor
open Go.RowKit
attribute [local go_sem] bv_add bv_mul bv_sub bv_subc bv_xor bv_xor_byte bv_wrap_byte bv_ofInt u_beq u_bne c_1 add_sub_one unmix_mix mix_unmix
set_option maxHeartbeats 1000000 in
theorem nil_walk (w : World) (t : Tabs w) :
    Calls Tryd.prog 7 #[] w fun e w' => e = .returned (.bool true) ∧ Below w.heap.size w w' := by
  go_enter Tryd.func7, Tryd.ntmps7
  go_wp2_with fail
  refine (nextNil_c _).mono ?_; rintro e w1 ⟨rfl, rfl⟩
  go_wp2_with fail
  refine (live_c _ t).mono ?_; rintro e w2 ⟨rfl, hb⟩
  go_wp2_with fail
  refine (num_c _ _).mono ?_; rintro e w3 ⟨rfl, rfl⟩
  go_wp2_with fail
  refine (counterNil_c _).mono ?_; rintro e w3 ⟨rfl, rfl⟩
  go_wp2
  go_ret
  exact ⟨rfl, hb⟩
theorem cells_new (S C : BitVec 64) (w : World) : (w.alloc (.cells #[.int .u64 (u S), .int .u64 (u C)] 65)).cell? ⟨w.heap.size, 0, none⟩ = some (.int .u64 (u S)) ∧
    (w.alloc (.cells #[.int .u64 (u S), .int .u64 (u C)] 65)).cell? ⟨w.heap.size, 1, none⟩ = some (.int .u64 (u C)) ∧
    (w.alloc (.cells #[.int .u64 (u S), .int .u64 (u C)] 65)).frozen? ⟨w.heap.size, 1, none⟩ = false := by
  refine ⟨by simp [go_sem], by simp [go_sem], by simp [go_sem]⟩
/-- A new maker, asked once. -/
theorem first_c (S C : BitVec 64) (w : World) (t : Tabs w) (hC : C ≠ last) :
    Calls Tryd.prog 16 #[.pointer (some ⟨w.heap.size, 0, none⟩)] (w.alloc (.cells #[.int .u64 (u S), .int .u64 (u C)] 65)) fun e w' =>
      e = .returned (.tuple #[.string ⟨(idOf S C).toArray⟩, .int .i64 0]) ∧ Below w.heap.size w w' := by
  obtain ⟨h0, h1, hf⟩ := cells_new S C w
  refine (next_c S C _ _ (tabs_below t ((Below.refl _ _).alloc (Nat.le_refl _) _)) hC h0 h1 hf).mono ?_
  rintro e w' ⟨rfl, hb⟩
  exact ⟨rfl, (((Below.refl _ _).alloc (Nat.le_refl _) _).setCell (Nat.le_refl _) _).trans (hb.mono (by simp))⟩
theorem firstLast_c (S C : BitVec 64) (w : World) (hC : C = last) :
    Calls Tryd.prog 16 #[.pointer (some ⟨w.heap.size, 0, none⟩)] (w.alloc (.cells #[.int .u64 (u S), .int .u64 (u C)] 65)) fun e w' =>
      e = .returned (.tuple #[.string ⟨#[]⟩, .int .i64 80]) ∧ Below w.heap.size w w' := by
  obtain ⟨h0, h1, hf⟩ := cells_new S C w
  subst hC
  refine (nextLast_c _ _ h1).mono ?_
  rintro e w' ⟨rfl, rfl⟩
  exact ⟨rfl, (Below.refl _ _).alloc (Nat.le_refl _) _⟩
theorem madeOf_c (S C : BitVec 64) (w : World) (t : Tabs w) (h : C ≠ last) :
    Calls Tryd.prog 18 #[.string ⟨(idOf S C).toArray⟩, .int .u64 (u S)] w fun e w' => e = .returned (.tuple #[.int .u64 (u C), .bool true]) ∧ ∃ n, w' = w.drewN n := by
  have h1 := made_c ⟨(idOf S C).toArray⟩ S w t (by rw [size_list, idOf_len]; unfold maxLen; decide)
  have e : madeB (⟨(idOf S C).toArray⟩ : ByteArray).data.toList S = (C, true) := made_idOf S C h
  rw [e] at h1
  exact h1
theorem idOf_c (S C : BitVec 64) (w : World) :
    Calls Tryd.prog 19 #[.string ⟨(idOf S C).toArray⟩] w fun e w' => e = .returned (.bool true) ∧ w' = w := by
  have h := id_c ⟨(idOf S C).toArray⟩ (by rw [size_list, idOf_len]; unfold maxLen; decide) w
  have e : idB (⟨(idOf S C).toArray⟩ : ByteArray).data.toList = true := id_idOf S C
  rw [e] at h
  exact h
theorem id_eq (S A B : BitVec 64) : (idOf S A == idOf S B) = (A == B) := by
  rw [Bool.eq_iff_iff, beq_iff_eq, beq_iff_eq]; exact idOf_inj
set_option maxHeartbeats 4000000 in
theorem meets_walk (S A B : BitVec 64) (w : World) (t : Tabs w) :
    Calls Tryd.prog 4 #[.int .u64 (u S), .int .u64 (u A), .int .u64 (u B)] w fun e w' => e = .returned (.bool true) ∧ Below w.heap.size w w' := by
  by_cases hA : A = last
  · by_cases hB : B = last
    · have fA : (u A != 18446744073709551615) = false := by simp only [bne, last_beq, hA]; simp
      have fB : (u B != 18446744073709551615) = false := by simp only [bne, last_beq, hB]; simp
      have hAH := Lib.hid hA
      have hBH := Lib.hid hB
      clear hA hB
      go_enter Tryd.func4, Tryd.ntmps4
      go_wp2_with fail
      refine (newMaker_c _ _ _).mono ?_; rintro e w1 ⟨rfl, rfl⟩
      go_wp2_with fail
      refine (firstLast_c S A _ hAH.out).mono ?_; rintro e w1 ⟨rfl, hb1⟩
      have t1 := tabs_below t hb1
      go_wp2_with fail
      refine (newMaker_c _ _ _).mono ?_; rintro e w2 ⟨rfl, rfl⟩
      go_wp2_with fail
      refine (firstLast_c S B _ hBH.out).mono ?_; rintro e w2 ⟨rfl, hb2⟩
      have t2 := tabs_below t1 hb2
      have hb := below_trans hb1 hb2
      go_wp2_with fail
      refine (num_c _ _).mono ?_; rintro e w3 ⟨rfl, rfl⟩
      go_wp2_with fail
      refine (num_c _ _).mono ?_; rintro e w3 ⟨rfl, rfl⟩
      go_wp2_with fail
      refine (num_c _ _).mono ?_; rintro e w3 ⟨rfl, rfl⟩
      go_wp2_with fail
      refine (live_c _ t2).mono ?_; rintro e w6 ⟨rfl, hb6⟩
      go_wp2
      go_ret
      exact ⟨rfl, below_trans hb hb6⟩
    · have fA : (u A != 18446744073709551615) = false := by simp only [bne, last_beq, hA]; simp
      have fB : (u B != 18446744073709551615) = true := by simp only [bne, last_beq]; simpa using hB
      have hAH := Lib.hid hA
      have hBH := Lib.hid hB
      clear hA hB
      go_enter Tryd.func4, Tryd.ntmps4
      go_wp2_with fail
      refine (newMaker_c _ _ _).mono ?_; rintro e w1 ⟨rfl, rfl⟩
      go_wp2_with fail
      refine (firstLast_c S A _ hAH.out).mono ?_; rintro e w1 ⟨rfl, hb1⟩
      have t1 := tabs_below t hb1
      go_wp2_with fail
      refine (newMaker_c _ _ _).mono ?_; rintro e w2 ⟨rfl, rfl⟩
      go_wp2_with fail
      refine (first_c S B _ t1 hBH.out).mono ?_; rintro e w2 ⟨rfl, hb2⟩
      have t2 := tabs_below t1 hb2
      have hb := below_trans hb1 hb2
      go_wp2_with fail
      refine (num_c _ _).mono ?_; rintro e w3 ⟨rfl, rfl⟩
      go_wp2_with fail
      refine (num_c _ _).mono ?_; rintro e w3 ⟨rfl, rfl⟩
      go_wp2_with fail
      refine (num_c _ _).mono ?_; rintro e w3 ⟨rfl, rfl⟩
      go_wp2_with fail
      refine (live_c _ t2).mono ?_; rintro e w6 ⟨rfl, hb6⟩
      go_wp2
      go_ret
      exact ⟨rfl, below_trans hb hb6⟩
  · by_cases hB : B = last
    · have fA : (u A != 18446744073709551615) = true := by simp only [bne, last_beq]; simpa using hA
      have fB : (u B != 18446744073709551615) = false := by simp only [bne, last_beq, hB]; simp
      have hAH := Lib.hid hA
      have hBH := Lib.hid hB
      clear hA hB
      go_enter Tryd.func4, Tryd.ntmps4
      go_wp2_with fail
      refine (newMaker_c _ _ _).mono ?_; rintro e w1 ⟨rfl, rfl⟩
      go_wp2_with fail
      refine (first_c S A _ t hAH.out).mono ?_; rintro e w1 ⟨rfl, hb1⟩
      have t1 := tabs_below t hb1
      go_wp2_with fail
      refine (newMaker_c _ _ _).mono ?_; rintro e w2 ⟨rfl, rfl⟩
      go_wp2_with fail
      refine (firstLast_c S B _ hBH.out).mono ?_; rintro e w2 ⟨rfl, hb2⟩
      have t2 := tabs_below t1 hb2
      have hb := below_trans hb1 hb2
      go_wp2_with fail
      refine (num_c _ _).mono ?_; rintro e w3 ⟨rfl, rfl⟩
      go_wp2_with fail
      refine (num_c _ _).mono ?_; rintro e w3 ⟨rfl, rfl⟩
      go_wp2_with fail
      refine (num_c _ _).mono ?_; rintro e w3 ⟨rfl, rfl⟩
      go_wp2_with fail
      refine (num_c _ _).mono ?_; rintro e w3 ⟨rfl, rfl⟩
      go_wp2_with fail
      refine (live_c _ t2).mono ?_; rintro e w6 ⟨rfl, hb6⟩
      go_wp2
      go_ret
      exact ⟨rfl, below_trans hb hb6⟩
    · have fA : (u A != 18446744073709551615) = true := by simp only [bne, last_beq]; simpa using hA
      have fB : (u B != 18446744073709551615) = true := by simp only [bne, last_beq]; simpa using hB
      have HE := id_eq S A B
      have hAH := Lib.hid hA
      have hBH := Lib.hid hB
      clear hA hB
      go_enter Tryd.func4, Tryd.ntmps4
      go_wp2_with fail
      refine (newMaker_c _ _ _).mono ?_; rintro e w1 ⟨rfl, rfl⟩
      go_wp2_with fail
      refine (first_c S A _ t hAH.out).mono ?_; rintro e w1 ⟨rfl, hb1⟩
      have t1 := tabs_below t hb1
      go_wp2_with fail
      refine (newMaker_c _ _ _).mono ?_; rintro e w2 ⟨rfl, rfl⟩
      go_wp2_with fail
      refine (first_c S B _ t1 hBH.out).mono ?_; rintro e w2 ⟨rfl, hb2⟩
      have t2 := tabs_below t1 hb2
      have hb := below_trans hb1 hb2
      go_wp2_with fail
      refine (num_c _ _).mono ?_; rintro e w3 ⟨rfl, rfl⟩
      go_wp2_with fail
      refine (num_c _ _).mono ?_; rintro e w3 ⟨rfl, rfl⟩
      go_wp2_with fail
      refine (num_c _ _).mono ?_; rintro e w3 ⟨rfl, rfl⟩
      go_wp2_with fail
      refine (num_c _ _).mono ?_; rintro e w3 ⟨rfl, rfl⟩
      go_wp2_with fail
      refine (madeOf_c S A _ t2 hAH.out).mono ?_; rintro e w4 ⟨rfl, n4, rfl⟩
      go_wp2_with fail
      refine (idOf_c S A _).mono ?_; rintro e w5 ⟨rfl, rfl⟩
      go_wp2_with fail
      refine (live_c _ (tabs_drewN t2 _)).mono ?_; rintro e w6 ⟨rfl, hb6⟩
      go_wp2
      go_ret
      exact ⟨rfl, below_trans (below_drewN hb _) hb6⟩
end Go.Proofs.YtbhnlodfpepbpaaDoor
