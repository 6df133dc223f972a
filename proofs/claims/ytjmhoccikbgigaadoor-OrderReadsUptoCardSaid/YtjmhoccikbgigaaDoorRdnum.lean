/- The walks of a reader's number. Conditions: none. -/
import Derived.Test.YtjmhoccikbgigaaDoorRdl
namespace Go.Proofs.YtjmhoccikbgigaaDoor
open Go.RowKit
set_option maxHeartbeats 1000000 in
theorem of_c (n : Int) (w : World) : Calls Tryd.prog 82 #[.int .i64 n] w fun r w' => r = .returned (.agg #[.int .i64 3, .int .i64 n, .string ⟨#[]⟩, .slice none 0 0, .slice none 0 0]) ∧ Below w.heap.size w w' := by
  have hh := heap_alloc_new w (.cells #[.int .i64 0, .int .i64 0, .string ⟨#[]⟩, .slice none 0 0, .slice none 0 0] 28)
  have hb := (Below.refl w.heap.size w).alloc (Nat.le_refl _) (.cells #[.int .i64 0, .int .i64 0, .string ⟨#[]⟩, .slice none 0 0, .slice none 0 0] 28)
  have HH := Lib.hid hh
  have HB := Lib.hid hb
  clear hh hb
  go_enter Tryd.func82, Tryd.ntmps82
  go_wp2
  (try simp only [Exit.inBlock, Exit.then])
  have hh := heap_alloc_new w (.cells #[.int .i64 3, .int .i64 n, .string ⟨#[]⟩, .slice none 0 0, .slice none 0 0] 28)
  refine bodyPost_ret (results_cell_row rfl _ _ w.heap.size 28 _ (0, 0) _ (by rfl) hh Tryd.underlying28 rfl (by kernel_rfl)) rfl ?_
  exact ⟨rfl, (Below.refl _ _).alloc (Nat.le_refl _) _⟩
/-- a number's bytes, one more -/
def numF (N : Nat) (c : UInt8) : Nat := N % 72057594037927936 * 256 + c.toNat
def numP (bs : List UInt8) : Nat → Nat × St → Nat × St
  | 0, p => p
  | k + 1, p => numP bs k (numF p.1 (nextP bs p.2).1, (nextP bs p.2).2)
theorem numF_lt (N : Nat) (c : UInt8) : numF N c < 18446744073709551616 := by
  have := c.toNat_lt
  unfold numF
  omega
theorem numF_bits (N : Nat) (c : UInt8) : bits BinOp.or IntKind.u64 (IntKind.u64.wrap ((N : Int) * 256)) (IntKind.u64.wrap (c.toNat : Int)) = ((numF N c : Nat) : Int) := by
  have hc := c.toNat_lt
  have h0 : IntKind.u64.wrap (c.toNat : Int) = (c.toNat : Int) := by
    simp [IntKind.wrap, IntKind.signed, IntKind.bits]
    omega
  rw [h0]
  have h1 : IntKind.u64.wrap ((N : Int) * 256) = ((N % 72057594037927936 * 256 : Nat) : Int) := by
    simp [IntKind.wrap, IntKind.signed, IntKind.bits]
    omega
  rw [h1]
  have h2 : N % 72057594037927936 * 256 ||| c.toNat = numF N c := by
    unfold numF
    have := Nat.shiftLeft_add_eq_or_of_lt (i := 8) (b := c.toNat) (by omega) (N % 72057594037927936)
    rw [Nat.shiftLeft_eq] at this
    exact this.symm
  rw [← h2]
  have hx : N % 72057594037927936 * 256 < 2 ^ 64 := by omega
  generalize N % 72057594037927936 * 256 = x at *
  have hy : c.toNat < 2 ^ 64 := by omega
  have hxy : x ||| c.toNat < 2 ^ 64 := Nat.or_lt_two_pow hx hy
  have h3 : bits BinOp.or IntKind.u64 (x : Int) (c.toNat : Int) = IntKind.u64.wrap (((BitVec.ofInt 64 (x : Int) ||| BitVec.ofInt 64 (c.toNat : Int)).toNat : Nat) : Int) := rfl
  rw [h3, BitVec.ofInt_natCast, BitVec.ofInt_natCast, BitVec.toNat_or, BitVec.toNat_ofNat, BitVec.toNat_ofNat, Nat.mod_eq_of_lt hx, Nat.mod_eq_of_lt hy]
  generalize x ||| c.toNat = z at *
  simp [IntKind.wrap, IntKind.signed, IntKind.bits]
  omega
set_option maxHeartbeats 1000000 in
theorem number_c (R : Nat) (A : Option Addr) (cap : Nat) (bs : List UInt8) (s : St) (w : World) (h : RdAt w R A cap bs s) :
    Calls Tryd.prog 66 #[.pointer (some ⟨R, 0, none⟩)] w fun r w' =>
      r = .returned (.agg #[.int .i64 3, .int .i64 (((numP bs 8 (0, s)).1 : Int) - 9223372036854775808), .string ⟨#[]⟩, .slice none 0 0, .slice none 0 0]) ∧ RdAt w' R A cap bs (numP bs 8 (0, s)).2 ∧ Upd w w' (some R) (some R) := by
  have H := Lib.hid h
  clear h
  go_enter Tryd.func66, Tryd.ntmps66
  go_wp2
  have hb0 : Below w.heap.size w (w.alloc (.cells #[.int .i64 0, .int .i64 0, .string ⟨#[]⟩, .slice none 0 0, .slice none 0 0] 28)) := (Below.refl _ _).alloc (Nat.le_refl _) _
  have hbz := heap_alloc_new w (.cells #[.int .i64 0, .int .i64 0, .string ⟨#[]⟩, .slice none 0 0, .slice none 0 0] 28)
  go_loopw [3, 4] (fun n i wr => ∃ j : Nat, j ≤ 8 ∧ i = .int .i64 j ∧ ∃ N : Nat, N < 18446744073709551616 ∧ n = .int .u64 N ∧ ∃ s', Hid (numP bs 8 (0, s) = numP bs (8 - j) (N, s')) ∧ RdAt wr R A cap bs s' ∧ Hid (Upd (w.alloc (.cells #[.int .i64 0, .int .i64 0, .string ⟨#[]⟩, .slice none 0 0, .slice none 0 0] 28)) wr (some R) (some R))) (fun _ i _ => 8 - (intOf i).toNat)
  case atStart => exact ⟨0, by omega, rfl, 0, by omega, rfl, s, rfl, H.out.below hb0, Lib.hid (Upd.refl _ _)⟩
  case round =>
    obtain ⟨j, hj, rfl, N, hN, rfl, s', HQ, hrd, HU⟩ := hrel
    by_cases hlt : j < 8
    · go_wp2_with fail
      refine (next_c R A cap bs s' wr hrd).mono ?_; rintro e w1 ⟨rfl, hr1, hu1⟩
      have HQ2 := Lib.hid (HQ.out.trans (show _ = numP bs (8 - (j + 1)) (numF N (nextP bs s').1, (nextP bs s').2) by rw [show 8 - j = (8 - (j + 1)) + 1 by omega, numP]))
      have HR := Lib.hid (And.intro hr1 (HU.out.trans hu1))
      clear HQ HU hr1 hu1 hrd
      generalize (nextP bs s').1 = c at *
      generalize (nextP bs s').2 = s2 at *
      have hbt := numF_bits N c
      have hlt2 := numF_lt N c
      generalize numF N c = N2 at *
      go_wp2
      go_roundw
      case rel => exact ⟨j + 1, by omega, by go_num, N2, hlt2, rfl, s2, HQ2, HR.out.1, Lib.hid HR.out.2⟩
      case measure => simp [intOf]; omega
    · obtain rfl : j = 8 := by omega
      have HQ2 := Lib.hid (show numP bs 8 (0, s) = (N, s') from HQ.out)
      have hw : wrap64 (IntKind.u64.wrap ((N : Int) - 9223372036854775808)) = (N : Int) - 9223372036854775808 := by
        simp [wrap64, IntKind.wrap, IntKind.signed, IntKind.bits]
        omega
      have HW := Lib.hid hw
      clear hw HQ
      have hbe : (w.alloc (.cells #[.int .i64 0, .int .i64 0, .string ⟨#[]⟩, .slice none 0 0, .slice none 0 0] 28)).heap.size ≤ wr.heap.size := HU.out.grown.size
      simp only [World.size_alloc] at hbe
      have hne : R ≠ w.heap.size := fun e => by have := H.out.lt; omega
      have hz := (HU.out.block (k := w.heap.size) (by simp) (fun e => hne (Option.some.inj e))).trans hbz
      have z0 := cell_of_row wr w.heap.size 0 _ _ _ hz
      have z1 := cell_of_row wr w.heap.size 1 _ _ _ hz
      have z2 := cell_of_row wr w.heap.size 2 _ _ _ hz
      have z3 := cell_of_row wr w.heap.size 3 _ _ _ hz
      have z4 := cell_of_row wr w.heap.size 4 _ _ _ hz
      have y0 := frozen_of_row wr w.heap.size 0 _ _ hz
      have y1 := frozen_of_row wr w.heap.size 1 _ _ hz
      have y2 := frozen_of_row wr w.heap.size 2 _ _ hz
      have y3 := frozen_of_row wr w.heap.size 3 _ _ hz
      have y4 := frozen_of_row wr w.heap.size 4 _ _ hz
      have HZ := Lib.hid (And.intro hz (And.intro hrd HU.out))
      clear hz hrd HU hbz
      go_wp2_with fail
      rw [HW.out]
      refine (of_c _ wr).mono ?_; rintro e w1 ⟨rfl, hb1⟩
      have Z0 := cell_below hb1 z0
      have Z1 := cell_below hb1 z1
      have Z2 := cell_below hb1 z2
      have Z3 := cell_below hb1 z3
      have Z4 := cell_below hb1 z4
      have hlt := cell_lt z0
      have Y0 := (hb1.frozen (p := ⟨w.heap.size, 0, none⟩) hlt).trans y0
      have Y1 := (hb1.frozen (p := ⟨w.heap.size, 1, none⟩) hlt).trans y1
      have Y2 := (hb1.frozen (p := ⟨w.heap.size, 2, none⟩) hlt).trans y2
      have Y3 := (hb1.frozen (p := ⟨w.heap.size, 3, none⟩) hlt).trans y3
      have Y4 := (hb1.frozen (p := ⟨w.heap.size, 4, none⟩) hlt).trans y4
      have HB1 := Lib.hid hb1
      clear z0 z1 z2 z3 z4 y0 y1 y2 y3 y4 hb1
      go_wp2
      (try simp only [Exit.inBlock, Exit.then])
      have hh := (HB1.out.block w.heap.size hlt).trans HZ.out.1
      refine bodyPost_ret (results_cell_row rfl _ _ w.heap.size 28 _ (0, 0) _ (by rfl) (set5 hh) Tryd.underlying28 rfl (by kernel_rfl)) rfl ?_
      have hU : Upd w w1 (some R) (some R) := ((Upd.of_below hb0 _).trans HZ.out.2.2).trans (Upd.of_below HB1.out _)
      have hU2 := hU.trans_below (below_set5 (c0 := .int .i64 3) (c1 := .int .i64 ((N : Int) - 9223372036854775808)) (c2 := .string ⟨#[]⟩) (c3 := .slice none 0 0) (c4 := .slice none 0 0) (Below.refl w.heap.size w1) (Nat.le_refl _))
      exact ⟨by rw [HQ2.out], by rw [HQ2.out]; exact H.out.after hU2 (HZ.out.2.1.below HB1.out) (other_set5 hne), hU2⟩
end Go.Proofs.YtjmhoccikbgigaaDoor
