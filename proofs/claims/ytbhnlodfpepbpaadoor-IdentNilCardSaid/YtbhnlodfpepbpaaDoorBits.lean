/- Numbers of 64 bits in the walk: 'u X' is the number that the bits X are; the walk reckons with the bits themselves. Conditions: none. -/
import Derived.WalkKit
import Derived.Test.YtbhnlodfpepbpaaDoorPlain
namespace Go.Proofs.YtbhnlodfpepbpaaDoor
open Go.RowKit
def u (X : BitVec 64) : Int := (X.toNat : Int)
theorem u_lo (X : BitVec 64) : 0 ≤ u X := by unfold u; omega
theorem u_hi (X : BitVec 64) : u X < 18446744073709551616 := by unfold u; have := X.isLt; omega
theorem u_of (n : Int) (h0 : 0 ≤ n) (h1 : n < 18446744073709551616) : ∃ X : BitVec 64, n = u X :=
  ⟨BitVec.ofInt 64 n, by unfold u; rw [BitVec.toNat_ofInt]; omega⟩
theorem u_inj (X Y : BitVec 64) : (u X = u Y) ↔ X = Y := by
  unfold u; constructor
  · intro h; exact BitVec.eq_of_toNat_eq (by omega)
  · rintro rfl; rfl
theorem u_beq (X Y : BitVec 64) : (u X == u Y) = (X == Y) := by
  rw [Bool.eq_iff_iff, beq_iff_eq, beq_iff_eq, u_inj]
theorem u_bne (X Y : BitVec 64) : (u X != u Y) = (X != Y) := by
  simp only [bne, u_beq]
theorem u_toNat (X : BitVec 64) : (u X).toNat = X.toNat := by unfold u; omega
theorem bv_ofInt (X : BitVec 64) : BitVec.ofInt 64 (u X) = X := by
  unfold u; rw [BitVec.ofInt_natCast]; simp
theorem bv_wrap (n : Int) : IntKind.u64.wrap n = u (BitVec.ofInt 64 n) := by
  unfold u; rw [IntKind.wrap_u64, BitVec.toNat_ofInt]; omega
theorem bv_add (X : BitVec 64) (c : Int) : IntKind.u64.wrap (u X + c) = u (X + BitVec.ofInt 64 c) := by
  rw [bv_wrap, BitVec.ofInt_add, bv_ofInt]
theorem bv_mul (X : BitVec 64) (c : Int) : IntKind.u64.wrap (u X * c) = u (X * BitVec.ofInt 64 c) := by
  rw [bv_wrap, BitVec.ofInt_mul, bv_ofInt]
theorem bv_subc (X : BitVec 64) (c : Int) : IntKind.u64.wrap (c - u X) = u (BitVec.ofInt 64 c - X) := by
  rw [bv_wrap, Int.sub_eq_add_neg, BitVec.ofInt_add, BitVec.ofInt_neg, bv_ofInt, ← BitVec.sub_eq_add_neg]
theorem bv_sub (X : BitVec 64) (c : Int) : IntKind.u64.wrap (u X - c) = u (X - BitVec.ofInt 64 c) := by
  rw [bv_wrap, Int.sub_eq_add_neg, BitVec.ofInt_add, BitVec.ofInt_neg, bv_ofInt, ← BitVec.sub_eq_add_neg]
theorem bv_xor (X Y : BitVec 64) : bits .xor .u64 (u X) (u Y) = u (X ^^^ Y) := by
  unfold u; rw [bits_xor_u64_nat _ _ X.isLt Y.isLt, BitVec.toNat_xor]
theorem bv_xor_byte (X : BitVec 64) (b : UInt8) : bits .xor .u64 (u X) (b.toNat : Int) = u (X ^^^ BitVec.ofNat 64 b.toNat) := by
  have h := bv_xor X (BitVec.ofNat 64 b.toNat)
  rw [← h]
  congr 1
  unfold u
  rw [BitVec.toNat_ofNat]
  have := b.toNat_lt
  omega
theorem bv_wrap_byte (b : UInt8) : IntKind.u64.wrap (b.toNat : Int) = (b.toNat : Int) := by
  rw [IntKind.wrap_u64]; have := b.toNat_lt; omega
theorem bv_shr (X : BitVec 64) (k : Nat) : (u X / ((2 ^ k : Nat) : Int)) = u (X >>> k) := by
  unfold u; rw [BitVec.toNat_ushiftRight, Nat.shiftRight_eq_div_pow]; rfl
theorem bv_shr30 (X : BitVec 64) : (u X / (1073741824 : Int)) = u (X >>> 30) := bv_shr X 30
theorem bv_shr27 (X : BitVec 64) : (u X / (134217728 : Int)) = u (X >>> 27) := bv_shr X 27
theorem bv_shr31 (X : BitVec 64) : (u X / (2147483648 : Int)) = u (X >>> 31) := bv_shr X 31
theorem c_gap : BitVec.ofInt 64 11400714819323198485 = gap := rfl
theorem c_fa : BitVec.ofInt 64 13787848793156543929 = fa := rfl
theorem c_fb : BitVec.ofInt 64 10723151780598845931 = fb := rfl
theorem c_2 : BitVec.ofInt 64 2 = 2#64 := rfl
theorem c_1 : BitVec.ofInt 64 1 = 1#64 := rfl
theorem c_fnv : BitVec.ofInt 64 1099511628211 = 1099511628211#64 := rfl
theorem u_zero : u 0#64 = 0 := rfl
theorem u_one : u 1#64 = 1 := rfl
end Go.Proofs.YtbhnlodfpepbpaaDoor
