/- The walks of the document's maker, and of live. Conditions: the tables hold their numbers. -/
import Derived.Test.YtbhnlodfpepbpaaDoorOf
import Derived.WalkSpells
import Derived.WalkLawsBesides
import Derived.Handy
import Derived.BigQuiet
namespace Go.Proofs.YtbhnlodfpepbpaaDoor
open Go.RowKit
theorem add_sub_one (C : BitVec 64) : C + 1#64 - 1#64 = C := BitVec.add_sub_cancel C 1#64
attribute [local go_sem] bv_add bv_mul bv_sub bv_subc bv_xor bv_xor_byte bv_wrap_byte bv_ofInt u_beq u_bne c_1 add_sub_one
set_option maxHeartbeats 1000000 in
theorem refNext_c (S C : BitVec 64) (b : Nat) (w : World) (hC : C ≠ last)
    (h0 : w.cell? ⟨b, 0, none⟩ = some (.int .u64 (u S))) (h1 : w.cell? ⟨b, 1, none⟩ = some (.int .u64 (u C))) (hf : w.frozen? ⟨b, 1, none⟩ = false) :
    Calls Tryd.prog 28 #[.pointer (some ⟨b, 0, none⟩)] w fun e w' => e = .returned (.tuple #[.string ⟨(idOf S C).toArray⟩, .int .i64 0]) ∧ ∃ n, w' = (w.setCell ⟨b, 1, none⟩ (.int .u64 (u (C + 1#64)))).drewN n := by
  have hne : (u C == 18446744073709551615) = false := by rw [last_beq]; simpa using hC
  go_enter Tryd.func28, Tryd.ntmps28
  go_wp2
  go_quiet ((go_at_call 42; exact quietS (of_c _ _ _)))
  go_wp2
  go_ret2
  exact ⟨rfl, _, rfl⟩
set_option maxHeartbeats 400000 in
theorem refNextLast_c (b : Nat) (w : World) (h1 : w.cell? ⟨b, 1, none⟩ = some (.int .u64 18446744073709551615)) :
    Calls Tryd.prog 28 #[.pointer (some ⟨b, 0, none⟩)] w fun e w' => e = .returned (.tuple #[.string ⟨#[]⟩, .int .i64 80]) ∧ w' = w := by
  go_enter Tryd.func28, Tryd.ntmps28
  go_wp2
  go_ret2
  exact ⟨rfl, rfl⟩
theorem live_new (w : World) : Calls Tryd.prog 15 #[.int .u64 7, .int .u64 5] w fun e w' => e = .returned (.pointer (some ⟨w.heap.size, 0, none⟩)) ∧ w' = w.alloc (.cells #[.int .u64 (u 7#64), .int .u64 (u 5#64)] 65) := newMaker_c 7#64 5#64 w
theorem size_list (l : List UInt8) : (⟨l.toArray⟩ : ByteArray).size = l.length := by show l.toArray.size = _; simp
theorem idOf_len (s c : BitVec 64) : (idOf s c).length = 17 := by unfold idOf; rw [List.length_cons, hexTo_length]
theorem live_next (b : Nat) (w : World) (t : Tabs w) (h0 : w.cell? ⟨b, 0, none⟩ = some (.int .u64 (u 7#64))) (h1 : w.cell? ⟨b, 1, none⟩ = some (.int .u64 (u 5#64))) (hf : w.frozen? ⟨b, 1, none⟩ = false) :
    Calls Tryd.prog 16 #[.pointer (some ⟨b, 0, none⟩)] w fun e w' => e = .returned (.tuple #[.string ⟨(idOf 7#64 5#64).toArray⟩, .int .i64 0]) ∧ Below w.heap.size (w.setCell ⟨b, 1, none⟩ (.int .u64 (u (5#64 + 1#64)))) w' :=
  next_c 7#64 5#64 b w t (by decide) h0 h1 hf
theorem live_made (w : World) (t : Tabs w) :
    Calls Tryd.prog 18 #[.string ⟨(idOf 7#64 5#64).toArray⟩, .int .u64 7] w fun e w' => e = .returned (.tuple #[.int .u64 5, .bool true]) ∧ ∃ n, w' = w.drewN n := by
  have h := made_c ⟨(idOf 7#64 5#64).toArray⟩ 7#64 w t (by rw [size_list, idOf_len]; unfold maxLen; decide)
  have e : madeB (⟨(idOf 7#64 5#64).toArray⟩ : ByteArray).data.toList 7#64 = (5#64, true) := made_idOf 7#64 5#64 (by decide)
  rw [e] at h
  exact h
theorem live_id (w : World) :
    Calls Tryd.prog 19 #[.string ⟨(idOf 7#64 5#64).toArray⟩] w fun e w' => e = .returned (.bool true) ∧ w' = w := by
  have h := id_c ⟨(idOf 7#64 5#64).toArray⟩ (by rw [size_list, idOf_len]; unfold maxLen; decide) w
  have e : idB (⟨(idOf 7#64 5#64).toArray⟩ : ByteArray).data.toList = true := id_idOf 7#64 5#64
  rw [e] at h
  exact h
theorem live_hash (w : World) : Calls Tryd.prog 20 #[.string ⟨#[102, 111, 111, 98, 97, 114]⟩] w fun e w' => e = .returned (.int .u64 9625390261332436968) ∧ w' = w := by
  have h := hash_c ⟨#[102, 111, 111, 98, 97, 114]⟩ (by unfold maxLen; decide) w
  have e : u (hashB hash0 (⟨#[102, 111, 111, 98, 97, 114]⟩ : ByteArray).data.toList) = 9625390261332436968 := by decide +kernel
  rw [e] at h
  exact h
theorem live_mix (w : World) (t : Tabs w) : Calls Tryd.prog 10 #[.int .u64 0] w fun e w' => e = .returned (.int .u64 16294208416658607535) ∧ w' = w := by
  have h := mix_c 0#64 w t
  have e : u (mixB 0#64) = 16294208416658607535 := by decide +kernel
  rw [e] at h
  exact h
theorem live_name (w : World) : Calls Tryd.prog 34 #[.string ⟨#[97, 45, 49]⟩] w fun e w' => e = .returned (.bool true) ∧ w' = w := by
  have h := name_c ⟨#[97, 45, 49]⟩ (by unfold maxLen; decide) w
  have e : nameB (⟨#[97, 45, 49]⟩ : ByteArray).data.toList = true := by decide +kernel
  rw [e] at h
  exact h
theorem live_no_name (w : World) : Calls Tryd.prog 34 #[.string ⟨#[65]⟩] w fun e w' => e = .returned (.bool false) ∧ w' = w := by
  have h := name_c ⟨#[65]⟩ (by unfold maxLen; decide) w
  have e : nameB (⟨#[65]⟩ : ByteArray).data.toList = false := by decide +kernel
  rw [e] at h
  exact h
set_option maxHeartbeats 1000000 in
theorem live_c (w : World) (t : Tabs w) :
    Calls Tryd.prog 14 #[] w fun e w' => e = .returned (.bool true) ∧ Below w.heap.size w w' := by
  go_enter Tryd.func14, Tryd.ntmps14
  go_wp2_with fail
  refine (live_new _).mono ?_
  rintro e w1 ⟨rfl, rfl⟩
  have t1 : Tabs (w.alloc (.cells #[.int .u64 (u 7#64), .int .u64 (u 5#64)] 65)) := tabs_below t ((Below.refl _ _).alloc (Nat.le_refl _) _)
  go_wp2_with fail
  refine (live_next w.heap.size _ t1 (by simp [go_sem]) (by simp [go_sem]) (by simp [go_sem])).mono ?_
  rintro e w2 ⟨rfl, hb2⟩
  have hb : Below w.heap.size w w2 := (((Below.refl _ _).alloc (Nat.le_refl _) _).setCell (Nat.le_refl _) _).trans (hb2.mono (by simp))
  have t2 := tabs_below t hb
  clear hb2 t1
  have hm := live_made w2 t2
  have hi := live_id
  generalize idOf 7#64 5#64 = a at hm hi ⊢
  go_wp2_with fail
  refine hm.mono ?_
  rintro e w3 ⟨rfl, n3, rfl⟩
  clear hm
  go_wp2_with fail
  refine (num_c _ _).mono ?_
  rintro e w3 ⟨rfl, rfl⟩
  go_wp2_with fail
  refine (hi _).mono ?_
  rintro e w3 ⟨rfl, rfl⟩
  clear hi
  go_wp2_with fail
  refine (live_hash _).mono ?_
  rintro e w3 ⟨rfl, rfl⟩
  go_wp2_with fail
  refine (live_mix _ (tabs_drewN t2 _)).mono ?_
  rintro e w3 ⟨rfl, rfl⟩
  go_wp2_with fail
  refine (live_name _).mono ?_
  rintro e w3 ⟨rfl, rfl⟩
  go_wp2_with fail
  refine (live_no_name _).mono ?_
  rintro e w3 ⟨rfl, rfl⟩
  go_wp2
  go_ret
  exact ⟨rfl, below_drewN hb _⟩
end Go.Proofs.YtbhnlodfpepbpaaDoor
