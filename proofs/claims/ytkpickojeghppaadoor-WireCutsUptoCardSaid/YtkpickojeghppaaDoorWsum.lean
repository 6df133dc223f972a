/- The walks of the sum, program and document. Conditions: none. -/
import Derived.Test.YtkpickojeghppaaDoorProg
import Derived.Test.YtkpickojeghppaaDoorSlab
import Derived.Test.YtkpickojeghppaaDoorWplain
namespace Go.Proofs.YtkpickojeghppaaDoor
open Go.RowKit
def bytesV (l : List UInt8) : List Value := l.map fun c => .int .u8 (c.toNat : Int)
theorem bytesV_len (l : List UInt8) : (bytesV l).length = l.length := by simp [bytesV]
/-- the bytes l lie behind the address A -/
def BytesIn (w : World) (A : Option Addr) (l : List UInt8) : Prop := l = [] ∨ ∃ G o, A = some ⟨G, o, none⟩ ∧ w.rangeAt G o (bytesV l)
theorem range_byte {w : World} {G o : Nat} {l : List UInt8} (h : w.rangeAt G o (bytesV l)) (j : Nat) (hj : j < l.length) : w.cell? ⟨G, o + j, none⟩ = some (.int .u8 ((l[j]).toNat : Int)) := h j _ (by simp [bytesV, hj])
theorem BytesIn.same {w w' : World} {A : Option Addr} {l : List UInt8} (h : BytesIn w A l) (hb : ∀ G o, A = some ⟨G, o, none⟩ → w'.heap[G]? = w.heap[G]?) : BytesIn w' A l := by
  rcases h with h | ⟨G, o, rfl, h⟩
  · exact .inl h
  · exact .inr ⟨G, o, rfl, rangeAt_same h (hb G o rfl)⟩
theorem BytesIn.below {w w' : World} {A : Option Addr} {l : List UInt8} (h : BytesIn w A l) (hb : Below w.heap.size w w') : BytesIn w' A l := by
  cases l with
  | nil => exact .inl rfl
  | cons c l =>
    rcases h with h | ⟨G, o, rfl, h⟩
    · cases h
    · refine .inr ⟨G, o, rfl, rangeAt_same h (hb.block G ?_)⟩
      have := h 0 _ (by simp [bytesV]; rfl)
      exact cell_lt this
theorem wrap_u32 (n : Int) : IntKind.u32.wrap n = n % 4294967296 := by simp [IntKind.wrap, IntKind.bits, IntKind.signed]
theorem bits_xor_u32_nat (a b : Nat) (ha : a < 4294967296) (hb : b < 4294967296) : bits .xor .u32 (a : Int) (b : Int) = ((a ^^^ b : Nat) : Int) := by
  have hx : a ^^^ b < 2 ^ 32 := Nat.xor_lt_two_pow (by omega) (by omega)
  have h1 : (BitVec.ofInt 32 (a : Int)).toNat = a := by
    rw [BitVec.ofInt_natCast, BitVec.toNat_ofNat]; exact Nat.mod_eq_of_lt (by omega)
  have h2 : (BitVec.ofInt 32 (b : Int)).toNat = b := by
    rw [BitVec.ofInt_natCast, BitVec.toNat_ofNat]; exact Nat.mod_eq_of_lt (by omega)
  show IntKind.u32.wrap ((BitVec.ofInt 32 (a : Int) ^^^ BitVec.ofInt 32 (b : Int)).toNat : Int) = _
  rw [BitVec.toNat_xor, h1, h2, wrap_u32]
  omega
theorem bits_and_u32_one (a : Nat) (ha : a < 4294967296) : bits .and .u32 (a : Int) 1 = ((a % 2 : Nat) : Int) := by
  have h1 : (BitVec.ofInt 32 (a : Int)).toNat = a := by
    rw [BitVec.ofInt_natCast, BitVec.toNat_ofNat]; exact Nat.mod_eq_of_lt (by omega)
  have h2 : (BitVec.ofInt 32 (1 : Int)).toNat = 1 := by decide
  show IntKind.u32.wrap ((BitVec.ofInt 32 (a : Int) &&& BitVec.ofInt 32 (1 : Int)).toNat : Int) = _
  rw [BitVec.toNat_and, h1, h2, wrap_u32, Nat.and_one_is_mod]
  omega
theorem bits_not_u32 (y : Nat) (hy : y < 4294967296) : bits .xor .u32 IntKind.u32.max (y : Int) = ((4294967295 - y : Nat) : Int) := by
  have h1 : (BitVec.ofInt 32 (y : Int)).toNat = y := by
    rw [BitVec.ofInt_natCast, BitVec.toNat_ofNat]; exact Nat.mod_eq_of_lt (by omega)
  have h2 : BitVec.ofInt 32 IntKind.u32.max = BitVec.allOnes 32 := by decide
  show IntKind.u32.wrap ((BitVec.ofInt 32 IntKind.u32.max ^^^ BitVec.ofInt 32 (y : Int)).toNat : Int) = _
  rw [h2, BitVec.allOnes_xor, BitVec.toNat_not, h1, wrap_u32]
  omega
theorem crcFrom_take (c : Nat) (l : List UInt8) (k : Nat) (h : k < l.length) : crcFrom c (l.take (k + 1)) = crcByte (crcFrom c (l.take k)) l[k] := by
  rw [List.take_succ_eq_append_getElem h, crcFrom_append]; rfl
set_option maxRecDepth 20000 in
set_option maxHeartbeats 2000000 in
theorem sum_c (A : Option Addr) (c : Nat) (l : List UInt8) (hl : l.length ≤ maxLen) (w : World) (h : BytesIn w A l) :
    Calls Tryd.prog 18 #[.slice A l.length c] w fun e w' => e = .returned (.int .u32 (crc l : Int)) ∧ w' = w := by
  unfold maxLen at hl
  have H := Lib.hid h
  clear h
  go_enter Tryd.func18, Tryd.ntmps18
  go_wp2
  go_loop [3, 5, 8] (fun x _ i => ∃ (k y : Nat), k ≤ l.length ∧ i = .int .i64 k ∧ x = .int .u32 (y : Int) ∧ y < 4294967296 ∧ Hid (y = crcFrom 4294967295 (l.take k))) (fun _ _ i => l.length - (intOf i).toNat)
  case atStart => exact ⟨0, 4294967295, Nat.zero_le _, rfl, rfl, by omega, Lib.hid (by simp [crcFrom])⟩
  case round =>
    obtain ⟨k, y, hk, rfl, rfl, hy, HY⟩ := hrel
    by_cases hlt : k < l.length
    · obtain ⟨G, o, rfl, hr⟩ : ∃ G o, A = some ⟨G, o, none⟩ ∧ w.rangeAt G o (bytesV l) := by
        rcases H.out with h | h
        · rw [h] at hlt; simp at hlt
        · exact h
      have hc := range_byte hr k hlt
      have HT := Lib.hid (crcFrom_take 4294967295 l k hlt)
      have hb := (l[k]).toNat_lt
      have hx := bits_xor_u32_nat y (l[k]).toNat hy (by omega)
      have hwb : IntKind.u32.wrap ((l[k]).toNat : Int) = ((l[k]).toNat : Int) := by rw [wrap_u32]; omega
      have hz : y ^^^ (l[k]).toNat < 4294967296 := Nat.xor_lt_two_pow (n := 32) (by omega) (by omega)
      have HB := Lib.hid (show crcByte y l[k] = crcBits 8 (y ^^^ (l[k]).toNat) from rfl)
      clear hr
      generalize (y ^^^ (l[k]).toNat) = z at *
      generalize l[k] = b at *
      have HTK := Lib.hid (show crcFrom 4294967295 (l.take (k + 1)) = crcBits 8 z by rw [HT.out, ← HY.out]; exact HB.out)
      clear HT HY HB
      go_wp2
      go_loop [3, 16] (fun x j => ∃ (n v : Nat), n ≤ 8 ∧ j = .int .i64 n ∧ x = .int .u32 (v : Int) ∧ v < 4294967296 ∧ Hid (crcBits (8 - n) v = crcBits 8 z)) (fun _ j => 8 - (intOf j).toNat)
      case atStart => exact ⟨0, z, by omega, rfl, rfl, hz, Lib.hid rfl⟩
      case round =>
        obtain ⟨n, v, hn, rfl, rfl, hv, HV⟩ := hrel
        by_cases hn8 : n < 8
        · obtain ⟨m, hm⟩ : ∃ m, 8 - n = m + 1 := ⟨7 - n, by omega⟩
          have HV2 := Lib.hid (show crcBits m (crcBit v) = crcBits 8 z by have := HV.out; rw [hm] at this; exact this)
          have HM := Lib.hid (show 8 - (n + 1) = m by omega)
          have ha := bits_and_u32_one v hv
          clear hm HV
          by_cases hp : v % 2 = 1
          · have HC := Lib.hid (show crcBit v = (v / 2) ^^^ 2197175160 from if_pos hp)
            have hlt2 : (v / 2) ^^^ 2197175160 < 4294967296 := Nat.xor_lt_two_pow (n := 32) (by omega) (by omega)
            have hx : bits .xor .u32 ((v : Int) / 2) 2197175160 = (((v / 2) ^^^ 2197175160 : Nat) : Int) := bits_xor_u32_nat (v / 2) 2197175160 (by omega) (by omega)
            generalize (v / 2) ^^^ 2197175160 = z2 at *
            rw [hp] at ha
            have ha' : bits .and .u32 (v : Int) 1 = 1 := ha
            clear ha hp
            go_wp2
            go_round
            case rel => exact ⟨n + 1, z2, by omega, by go_num, rfl, hlt2, Lib.hid (by rw [HM.out, ← HC.out]; exact HV2.out)⟩
            case measure => simp [intOf]; omega
          · have HC := Lib.hid (show crcBit v = v / 2 from if_neg hp)
            rw [show v % 2 = 0 by omega] at ha
            have ha' : bits .and .u32 (v : Int) 1 = 0 := ha
            clear ha hp
            go_wp2
            go_round
            case rel => exact ⟨n + 1, v / 2, by omega, by go_num, rfl, by omega, Lib.hid (by rw [HM.out, ← HC.out]; exact HV2.out)⟩
            case measure => simp [intOf]; omega
        · obtain rfl : n = 8 := by omega
          go_wp2
          go_round
          case rel => exact ⟨k + 1, v, by omega, by go_num, rfl, hv, Lib.hid (by rw [HTK.out, ← HV.out]; rfl)⟩
          case measure => simp [intOf]; omega
    · obtain rfl : k = l.length := by omega
      have HY' := Lib.hid (show y = crcFrom 4294967295 l by have := HY.out; rwa [List.take_length] at this)
      have HE := Lib.hid (show 4294967295 - y = crc l by have := HY'.out; unfold crc; rw [← this])
      have hn := bits_not_u32 y hy
      clear HY
      go_wp2
      go_ret
      exact ⟨by rw [← HE.out]; rfl, rfl⟩
set_option maxRecDepth 20000 in
set_option maxHeartbeats 2000000 in
theorem refSum_c (A : Option Addr) (c : Nat) (l : List UInt8) (hl : l.length ≤ maxLen) (w : World) (h : BytesIn w A l) :
    Calls Tryd.prog 19 #[.slice A l.length c] w fun e w' => e = .returned (.int .u32 (crc l : Int)) ∧ w' = w := by
  unfold maxLen at hl
  have H := Lib.hid h
  clear h
  go_enter Tryd.func19, Tryd.ntmps19
  go_wp2
  go_loop [3, 4, 5] (fun x i _ => ∃ (k y : Nat), k ≤ l.length ∧ i = .int .i64 k ∧ x = .int .u32 (y : Int) ∧ y < 4294967296 ∧ Hid (y = crcFrom 4294967295 (l.take k))) (fun _ i _ => l.length - (intOf i).toNat)
  case atStart => exact ⟨0, 4294967295, Nat.zero_le _, rfl, rfl, by omega, Lib.hid (by simp [crcFrom])⟩
  case round =>
    obtain ⟨k, y, hk, rfl, rfl, hy, HY⟩ := hrel
    by_cases hlt : k < l.length
    · obtain ⟨G, o, rfl, hr⟩ : ∃ G o, A = some ⟨G, o, none⟩ ∧ w.rangeAt G o (bytesV l) := by
        rcases H.out with h | h
        · rw [h] at hlt; simp at hlt
        · exact h
      have hc := range_byte hr k hlt
      have HT := Lib.hid (crcFrom_take 4294967295 l k hlt)
      have hb := (l[k]).toNat_lt
      have hx := bits_xor_u32_nat y (l[k]).toNat hy (by omega)
      have hwb : IntKind.u32.wrap ((l[k]).toNat : Int) = ((l[k]).toNat : Int) := by rw [wrap_u32]; omega
      have hz : y ^^^ (l[k]).toNat < 4294967296 := Nat.xor_lt_two_pow (n := 32) (by omega) (by omega)
      have HB := Lib.hid (show crcByte y l[k] = crcBits 8 (y ^^^ (l[k]).toNat) from rfl)
      clear hr
      generalize (y ^^^ (l[k]).toNat) = z at *
      generalize l[k] = b at *
      have HTK := Lib.hid (show crcFrom 4294967295 (l.take (k + 1)) = crcBits 8 z by rw [HT.out, ← HY.out]; exact HB.out)
      clear HT HY HB
      go_wp2
      go_loop [3, 5] (fun x j => ∃ (n v : Nat), n ≤ 8 ∧ j = .int .i64 n ∧ x = .int .u32 (v : Int) ∧ v < 4294967296 ∧ Hid (crcBits (8 - n) v = crcBits 8 z)) (fun _ j => 8 - (intOf j).toNat)
      case atStart => exact ⟨0, z, by omega, rfl, rfl, hz, Lib.hid rfl⟩
      case round =>
        obtain ⟨n, v, hn, rfl, rfl, hv, HV⟩ := hrel
        by_cases hn8 : n < 8
        · obtain ⟨m, hm⟩ : ∃ m, 8 - n = m + 1 := ⟨7 - n, by omega⟩
          have HV2 := Lib.hid (show crcBits m (crcBit v) = crcBits 8 z by have := HV.out; rw [hm] at this; exact this)
          have HM := Lib.hid (show 8 - (n + 1) = m by omega)
          clear hm HV
          by_cases hp : v % 2 = 1
          · have HC := Lib.hid (show crcBit v = (v / 2) ^^^ 2197175160 from if_pos hp)
            have hlt2 : (v / 2) ^^^ 2197175160 < 4294967296 := Nat.xor_lt_two_pow (n := 32) (by omega) (by omega)
            have hx : bits .xor .u32 ((v : Int) / 2) 2197175160 = (((v / 2) ^^^ 2197175160 : Nat) : Int) := bits_xor_u32_nat (v / 2) 2197175160 (by omega) (by omega)
            generalize (v / 2) ^^^ 2197175160 = z2 at *
            have ha : ((v : Int).tmod 2) = 1 := by rw [Int.tmod_eq_emod_of_nonneg (by omega)]; omega
            have ha' : ((v : Int) % 2) = 1 := by omega
            clear hp
            go_wp2
            go_round
            case rel => exact ⟨n + 1, z2, by omega, by go_num, rfl, hlt2, Lib.hid (by rw [HM.out, ← HC.out]; exact HV2.out)⟩
            case measure => simp [intOf]; omega
          · have HC := Lib.hid (show crcBit v = v / 2 from if_neg hp)
            have ha : ((v : Int).tmod 2) = 0 := by rw [Int.tmod_eq_emod_of_nonneg (by omega)]; omega
            have ha' : ((v : Int) % 2) = 0 := by omega
            clear hp
            go_wp2
            go_round
            case rel => exact ⟨n + 1, v / 2, by omega, by go_num, rfl, by omega, Lib.hid (by rw [HM.out, ← HC.out]; exact HV2.out)⟩
            case measure => simp [intOf]; omega
        · obtain rfl : n = 8 := by omega
          go_wp2
          go_round
          case rel => exact ⟨k + 1, v, by omega, by go_num, rfl, hv, Lib.hid (by rw [HTK.out, ← HV.out]; rfl)⟩
          case measure => simp [intOf]; omega
    · obtain rfl : k = l.length := by omega
      have HY' := Lib.hid (show y = crcFrom 4294967295 l by have := HY.out; rwa [List.take_length] at this)
      have HE := Lib.hid (show 4294967295 - y = crc l by have := HY'.out; unfold crc; rw [← this])
      have hn := bits_not_u32 y hy
      clear HY
      go_wp2
      go_ret
      exact ⟨by rw [← HE.out]; rfl, rfl⟩
end Go.Proofs.YtkpickojeghppaaDoor
