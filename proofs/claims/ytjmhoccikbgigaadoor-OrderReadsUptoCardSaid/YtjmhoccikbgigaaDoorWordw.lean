/- The walks of utf8.Valid and its word, over bytes. Conditions: the tables of package utf8 lie as their texts lay them. -/
import Derived.Test.YtjmhoccikbgigaaDoorLaidl
import Derived.Test.YtjmhoccikbgigaaDoorFits
import Derived.Lib.ValidAsc
import Derived.Lib.EndianBits
import Derived.Laws.BitsAllLaws
import Derived.Deep.DeepBigQuietO
import Derived.Deep.DeepMust
import Derived.Shelf.Unicode.WordAny
namespace Go.Proofs.YtjmhoccikbgigaaDoor
open Go.RowKit Go.Lib
def bytesV (l : List UInt8) : List Value := l.map fun c => .int .u8 (c.toNat : Int)
theorem lie_byte {w : World} {G o : Nat} {l : List UInt8} (h : Lie w G o (bytesV l)) (j : Nat) (hj : j < l.length) : w.cell? ⟨G, o + j, none⟩ = some (.int .u8 ((l[j]).toNat : Int)) := h j _ (by simp [bytesV, hj])
theorem lie_drop {w : World} {G o : Nat} {l : List UInt8} (h : Lie w G o (bytesV l)) (k : Nat) : Lie w G (o + k) (bytesV (l.drop k)) := fun j v hj => by
  have := h (k + j) v (by unfold bytesV at *; rw [List.map_drop, List.getElem?_drop] at hj; exact hj)
  rwa [← Nat.add_assoc] at this
theorem lie_below {w w' : World} {G o : Nat} {l : List UInt8} (h : Lie w G o (bytesV l)) (hb : Below w.heap.size w w') : Lie w' G o (bytesV l) := fun j v hj => cell_below hb (h j v hj)
/-- the number that the first eight bytes spell, the least first -/
def wd (l : List UInt8) : Nat := leNat (l.take 8)
theorem wd_lt {l : List UInt8} (h : 8 ≤ l.length) : wd l < 18446744073709551616 := by
  have h1 := leNat_lt (l.take 8)
  rw [List.length_take, Nat.min_eq_left h] at h1
  exact h1
theorem wd_mask {l : List UInt8} (h : 8 ≤ l.length) : (wd l &&& 9259542123273814144 = 0) ↔ ∀ b ∈ l.take 8, b.toNat < 128 := by
  have h1 := leNat_mask (l.take 8)
  rw [List.length_take, Nat.min_eq_left h, maskN8] at h1
  exact h1
theorem take8_cons (l : List UInt8) (h : 8 ≤ l.length) : l.take 8 = [l[0], l[1], l[2], l[3], l[4], l[5], l[6], l[7]] := by
  match l, h with
  | _ :: _ :: _ :: _ :: _ :: _ :: _ :: _ :: _, _ => simp
set_option maxRecDepth 100000 in
theorem and7' : ∀ X : Fin 256, bits .and .u8 ((X.val : Nat) : Int) 7 = ((X.val % 8 : Nat) : Int) := by decide
set_option maxHeartbeats 8000000 in
set_option maxRecDepth 100000 in
theorem word_c (G o c : Nat) (l : List UInt8) (h8 : 8 ≤ l.length) (w : World) (hl : Lie w G o (bytesV l)) :
    Calls Tryd.prog 89 #[.slice (some ⟨G, o, none⟩) l.length c] w fun e w' => e = .returned (.int .u64 (wd l)) ∧ ∃ q, w' = w.drewN q := by
  have HW := Lib.hid (show wd l = leNat [l[0], l[1], l[2], l[3], l[4], l[5], l[6], l[7]] by unfold wd; rw [take8_cons l h8])
  have b0 := lie_byte hl 0 (by omega)
  have b1 := lie_byte hl 1 (by omega)
  have b2 := lie_byte hl 2 (by omega)
  have b3 := lie_byte hl 3 (by omega)
  have b4 := lie_byte hl 4 (by omega)
  have b5 := lie_byte hl 5 (by omega)
  have b6 := lie_byte hl 6 (by omega)
  have b7 := lie_byte hl 7 (by omega)
  have t0 := (l[0]).toNat_lt
  have t1 := (l[1]).toNat_lt
  have t2 := (l[2]).toNat_lt
  have t3 := (l[3]).toNat_lt
  have t4 := (l[4]).toNat_lt
  have t5 := (l[5]).toNat_lt
  have t6 := (l[6]).toNat_lt
  have t7 := (l[7]).toNat_lt
  have q0 : (0 : Int) < (l.length : Int) := by omega
  have q1 : (1 : Int) < (l.length : Int) := by omega
  have q2 : (2 : Int) < (l.length : Int) := by omega
  have q3 : (3 : Int) < (l.length : Int) := by omega
  have q4 : (4 : Int) < (l.length : Int) := by omega
  have q5 : (5 : Int) < (l.length : Int) := by omega
  have q6 : (6 : Int) < (l.length : Int) := by omega
  have q7 : (7 : Int) < (l.length : Int) := by omega
  rw [Nat.add_zero] at b0
  clear hl
  generalize l[0] = x0 at *
  generalize l[1] = x1 at *
  generalize l[2] = x2 at *
  generalize l[3] = x3 at *
  generalize l[4] = x4 at *
  generalize l[5] = x5 at *
  generalize l[6] = x6 at *
  generalize l[7] = x7 at *
  generalize l.length = n at *
  have hv : ((leNat [x0, x1, x2, x3, x4, x5, x6, x7] : Nat) : Int) = (x0.toNat : Int) + (x1.toNat : Int) * 256 + (x2.toNat : Int) * 65536 + (x3.toNat : Int) * 16777216 + (x4.toNat : Int) * 4294967296 + (x5.toNat : Int) * 1099511627776 + (x6.toNat : Int) * 281474976710656 + (x7.toNat : Int) * 72057594037927936 := by
    simp only [leNat]
    push_cast
    omega
  have HV := Lib.hid hv
  clear hv
  go_enter Tryd.func89, Tryd.ntmps89
  go_wp2
  go_quiet (fail)
  go_wp2
  go_ret
  refine ⟨?_, _, rfl⟩
  rw [HW.out]
  simp (disch := omega) only [u64_or8, u64_or16, u64_or24, u64_or32, u64_or40, u64_or48, u64_or56]
  rw [HV.out]
  rfl
end Go.Proofs.YtjmhoccikbgigaaDoor
