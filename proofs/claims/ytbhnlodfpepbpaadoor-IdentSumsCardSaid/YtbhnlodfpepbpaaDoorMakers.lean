/- The walks of makers of ids: NewMaker and Next. Conditions: the tables hold their numbers, the counter is not the last. -/
import Derived.Test.YtbhnlodfpepbpaaDoorNamed
import Derived.WalkSpells
import Derived.WalkLawsBesides
import Derived.Handy
import Derived.Test.YtbhnlodfpepbpaaDoorBuf
import Derived.Deep.RegionWith
namespace Go.Proofs.YtbhnlodfpepbpaaDoor
open Go.RowKit
attribute [local go_sem] bv_add bv_mul bv_sub bv_subc bv_xor bv_xor_byte bv_wrap_byte bv_ofInt u_beq u_bne c_1
theorem Below.drewN_set (w : World) (n : Nat) (a : Addr) (x : Value) : Below w.heap.size (w.setCell a x) ((w.drewN n).setCell a x) :=
  ⟨rfl, rfl, rfl, Nat.le_refl _, fun _ _ => rfl⟩
theorem tabs_drewN {w : World} (t : Tabs w) (n : Nat) : Tabs (w.drewN n) := ⟨t.s0, t.s1, t.s2, t.f0, t.f1⟩
theorem tabs_below {w w' : World} (t : Tabs w) (h : Below w.heap.size w w') : Tabs w' := ⟨cell_below h t.s0, cell_below h t.s1, cell_below h t.s2, cell_below h t.f0, cell_below h t.f1⟩
set_option maxHeartbeats 400000 in
theorem newMaker_c (S C : BitVec 64) (w : World) :
    Calls Tryd.prog 15 #[.int .u64 (u S), .int .u64 (u C)] w fun e w' => e = .returned (.pointer (some ⟨w.heap.size, 0, none⟩)) ∧ w' = w.alloc (.cells #[.int .u64 (u S), .int .u64 (u C)] 65) := by
  go_enter Tryd.func15, Tryd.ntmps15
  go_wp2
  go_ret
  exact ⟨rfl, rfl⟩
set_option maxHeartbeats 400000 in
theorem nextNil_c (w : World) :
    Calls Tryd.prog 16 #[.pointer none] w fun e w' => e = .returned (.tuple #[.string ⟨#[]⟩, .int .i64 80]) ∧ w' = w := by
  go_enter Tryd.func16, Tryd.ntmps16
  go_wp2
  go_ret2
  exact ⟨rfl, rfl⟩
set_option maxHeartbeats 400000 in
theorem nextLast_c (b : Nat) (w : World) (hc : w.cell? ⟨b, 1, none⟩ = some (.int .u64 18446744073709551615)) :
    Calls Tryd.prog 16 #[.pointer (some ⟨b, 0, none⟩)] w fun e w' => e = .returned (.tuple #[.string ⟨#[]⟩, .int .i64 80]) ∧ w' = w := by
  go_enter Tryd.func16, Tryd.ntmps16
  go_wp2
  go_ret2
  exact ⟨rfl, rfl⟩
theorem digitI_c (X : BitVec 64) (l : Int) (h0 : 0 ≤ l) (h1 : l < 16) (w : World) :
    Calls Tryd.prog 26 #[.int .u64 (u X), .int .i64 l] w fun e w' => e = .returned (.int .i64 (digN X l.toNat : Int)) ∧ w' = w := by
  obtain ⟨n, rfl⟩ := Int.eq_ofNat_of_zero_le h0
  exact digit_c X n (by omega) w
theorem bty : ByteTy Tryd.prog 66 5 := ⟨Tryd.underlying66, Tryd.underlying5, by kernel_rfl⟩
theorem hexIx (w : World) (d : Nat) (h : d < 16) : (Instr.index 9 (.string ⟨#[48, 49, 50, 51, 52, 53, 54, 55, 56, 57, 97, 98, 99, 100, 101, 102]⟩) (.int .i64 (d : Int))).run Tryd.prog w = .ok (.int .u8 ((hexd d).toNat : Int)) w := by
  rcases (show d = 0 ∨ d = 1 ∨ d = 2 ∨ d = 3 ∨ d = 4 ∨ d = 5 ∨ d = 6 ∨ d = 7 ∨ d = 8 ∨ d = 9 ∨ d = 10 ∨ d = 11 ∨ d = 12 ∨ d = 13 ∨ d = 14 ∨ d = 15 by omega) with rfl | rfl | rfl | rfl | rfl | rfl | rfl | rfl | rfl | rfl | rfl | rfl | rfl | rfl | rfl | rfl
  all_goals kernel_rfl
theorem hexTo_succ (Z : BitVec 64) (k : Nat) : (103 : UInt8) :: hexTo Z (k + 1) = (103 :: hexTo Z k) ++ [hexd (digN Z (15 - k))] := rfl
theorem hexTo_len (Z : BitVec 64) (k : Nat) : (hexTo Z k).length = k := by
  induction k with
  | zero => rfl
  | succ k ih => simp [hexTo, ih]
set_option maxHeartbeats 1000000 in
theorem next_c (S C : BitVec 64) (b : Nat) (w : World) (t : Tabs w) (hC : C ≠ 18446744073709551615#64)
    (h0 : w.cell? ⟨b, 0, none⟩ = some (.int .u64 (u S))) (h1 : w.cell? ⟨b, 1, none⟩ = some (.int .u64 (u C))) (hf : w.frozen? ⟨b, 1, none⟩ = false) :
    Calls Tryd.prog 16 #[.pointer (some ⟨b, 0, none⟩)] w fun e w' => e = .returned (.tuple #[.string ⟨(idOf S C).toArray⟩, .int .i64 0]) ∧ Below w.heap.size (w.setCell ⟨b, 1, none⟩ (.int .u64 (u (C + 1#64)))) w' := by
  have hne : (u C == 18446744073709551615) = false := by
    rw [show (18446744073709551615 : Int) = u 18446744073709551615#64 from rfl, u_beq]; simpa using hC
  go_enter Tryd.func16, Tryd.ntmps16
  go_wp2
  have T := tabs_drewN t
  obtain ⟨s0, s1, s2, f0, f1⟩ := t
  go_quiet ((go_at_call 10; exact quietS (mix_c _ _ (T _))))
  go_wp2
  generalize hZ : mixB (mixB S ^^^ C) = Z at *
  have HZ := Lib.hid hZ; clear hZ
  have hstart : Below w.heap.size (w.setCell ⟨b, 1, none⟩ (.int .u64 (u (C + 1#64)))) (((w.drewN nq).setCell ⟨b, 1, none⟩ (.int .u64 (u (C + 1#64)))).alloc (.cells #[.int .u8 103] 5)) :=
    (Below.drewN_set w nq _ _).alloc (by simp) _
  have hbuf : Hid (Buf (((w.drewN nq).setCell ⟨b, 1, none⟩ (.int .u64 (u (C + 1#64)))).alloc (.cells #[.int .u8 103] 5)) w.heap.size 5 (.slice (some ⟨w.heap.size, 0, none⟩) 1 1) [103]) := by
    have := buf_lit (w := (w.drewN nq).setCell ⟨b, 1, none⟩ (.int .u64 (u (C + 1#64)))) (E := 5) (base := w.heap.size) (by simp) [103] (by unfold maxLen; decide)
    exact Lib.hid (by simpa [byteV] using this)
  go_loopw [5, 6] (fun v i wr => ∃ k : Nat, k ≤ 16 ∧ i = .int .i64 (15 - (k : Int)) ∧ Buf wr w.heap.size 5 v (103 :: hexTo Z k) ∧ Below w.heap.size (w.setCell ⟨b, 1, none⟩ (.int .u64 (u (C + 1#64)))) wr)
    (fun _ i _ => (1 + intOf i).toNat)
  case atStart => exact ⟨0, by omega, rfl, hbuf.out, hstart⟩
  case round =>
    obtain ⟨k, hk, rfl, hbf, hbl⟩ := hrel
    clear hstart
    have hsz : w.heap.size ≤ wr.heap.size := by have := hbl.size; simpa using this
    have hln := hexTo_len Z k
    have HLN := Lib.hid hln; clear hln
    by_cases hlt : k < 16
    · have hd0 : 0 ≤ 15 - (k : Int) := by omega
      go_wp2_with fail
      refine (digitI_c Z (15 - (k : Int)) (by omega) (by omega) _).mono ?_
      rintro e w' ⟨rfl, rfl⟩
      rw [show (15 - (k : Int)).toNat = 15 - k by omega]
      have hd := digN_lt Z (15 - k)
      have HS := Lib.hid (hexTo_succ Z k)
      have hx := fun w => hexIx w (digN Z (15 - k)) hd
      generalize digN Z (15 - k) = D at hd hx HS ⊢
      go_wp2_with (at_builtin; refine wpList_push bty rfl (.tmp 39) (.tmp 44) rfl w.heap.size _ _ rfl (buf_alloc hbf _) w'.heap.size (hexd D) rfl ?c1 ?c2 ?c3 ?c4)
      case c1 => simp [byteV]
      case c2 => simp only [List.length_cons, HLN.out]; omega
      case c3 => simp; omega
      case c4 =>
        intro v' w1 hb1 hl1
        have hbl1 := (hbl.alloc hsz (.cells #[byteV (hexd D)] 5)).trans hl1
        clear hl1 hbl hbf
        go_wp2
        go_roundw
        case rel => exact ⟨k + 1, by omega, by go_num, by rw [HS.out]; simpa using hb1, hbl1⟩
        case measure => simp [intOf]; omega
    · obtain rfl : k = 16 := by omega
      have hr := run_buf_string bty hbf 9 Tryd.underlying9
      go_wp2
      go_ret2
      exact ⟨by rw [idOf, HZ.out]; rfl, hbl⟩
end Go.Proofs.YtbhnlodfpepbpaaDoor
