/- The walk of the document's laid at a number. Conditions: what is there already has less than 2 to the 46 bytes. -/
import Derived.Test.YtjmhoccikbgigaaDoorLaidint
namespace Go.Proofs.YtjmhoccikbgigaaDoor
open Go.RowKit
set_option maxHeartbeats 2000000 in
theorem refLaidInt_c (n : Int) (hn : -9223372036854775808 ≤ n ∧ n ≤ 9223372036854775807) (s : ByteArray) (an ai : Option Addr) (ln cn li ci : Nat) (w : World) (v : Value) (l : List UInt8) (hv : Byts w v l) (hl : l.length < 70000000000000) :
    Calls Tryd.prog 45 #[v, .agg #[.int .i64 3, .int .i64 n, .string s, .slice an ln cn, .slice ai li ci]] w fun e w' => ∃ v', e = .returned v' ∧ Byts w' v' (l ++ 16 :: encN n) ∧ Upd w w' v.ownBlock v'.ownBlock := by
  obtain ⟨a0, a1, a2, a3, a4⟩ := cells5 w (.int .i64 3) (.int .i64 n) (.string s) (.slice an ln cn) (.slice ai li ci) 28
  have hb0 : Below w.heap.size w (w.alloc (.cells #[.int .i64 3, .int .i64 n, .string s, .slice an ln cn, .slice ai li ci] 28)) := (Below.refl _ _).alloc (Nat.le_refl _) _
  have hv0 := byts_kept hv hb0
  have hu0 := Upd.of_below hb0 v.ownBlock
  clear a2 a3 a4
  have hvne : v.ownBlock ≠ some w.heap.size := fun e => by have := Row.lt hv e; omega
  have hb1 : Below (w.alloc (.cells #[.int .i64 3, .int .i64 n, .string s, .slice an ln cn, .slice ai li ci] 28)).heap.size (w.alloc (.cells #[.int .i64 3, .int .i64 n, .string s, .slice an ln cn, .slice ai li ci] 28)) ((w.alloc (.cells #[.int .i64 3, .int .i64 n, .string s, .slice an ln cn, .slice ai li ci] 28)).alloc (.cells #[.int .u8 16] 5)) := (Below.refl _ _).alloc (Nat.le_refl _) _
  have hv1 := byts_kept hv0 hb1
  have hu1 := hu0.trans (Upd.of_below hb1 v.ownBlock)
  have A1 := cell_below hb1 a1
  have hcell : ((w.alloc (.cells #[.int .i64 3, .int .i64 n, .string s, .slice an ln cn, .slice ai li ci] 28)).alloc (.cells #[.int .u8 16] 5)).cell? ⟨w.heap.size + 1, 0, none⟩ = some (.int .u8 16) := by simp [go_sem]
  go_enter Tryd.func45, Tryd.ntmps45
  go_wp2_with (at_builtin; refine wpList_byte rfl _ _ rfl v l rfl hv1 _ _ 16 rfl hcell rfl (by omega) ?_; intro v1 w1 hv2 hu2; have r1 := hu2.cell A1 hvne; have HU := Lib.hid (hu1.trans hu2); have HV := Lib.hid hv2; clear hu2 hv2 hcell A1 hu1 hv1 hb1)
  have hw : IntKind.u64.wrap (IntKind.u64.wrap n + 9223372036854775808) = (((n + 9223372036854775808).toNat : Nat) : Int) := by
    simp [IntKind.wrap, IntKind.signed, IntKind.bits]
    omega
  have hB : ∀ j : Nat, byteN n j = UInt8.ofNat ((n + 9223372036854775808).toNat / 2 ^ (8 * (7 - j))) := fun _ => rfl
  rw [hw]
  have hN : (n + 9223372036854775808).toNat < 18446744073709551616 := by omega
  clear hw
  generalize (n + 9223372036854775808).toNat = N at *
  have HB := Lib.hid hB
  clear hB
  go_loopw [0, 6] (fun b i wr => ∃ j : Nat, j ≤ 8 ∧ i = .int .i64 (7 - j) ∧ Byts wr b (l ++ 16 :: (List.range j).map (byteN n)) ∧ Hid (Upd w wr v.ownBlock b.ownBlock)) (fun _ i _ => (intOf i + 1).toNat)
  case atStart => exact ⟨0, by omega, rfl, HV.out, HU⟩
  case round =>
    clear HU HV r1
    obtain ⟨j, hj, rfl, hv, HU⟩ := hrel
    by_cases hlt : j < 8
    · have HL := Lib.hid (show l ++ 16 :: (List.range (j + 1)).map (byteN n) = (l ++ 16 :: (List.range j).map (byteN n)) ++ [byteN n j] by rw [encN_snoc]; simp)
      have hlen : (l ++ 16 :: (List.range j).map (byteN n)).length < 70368744177664 := by simp; omega
      generalize l ++ 16 :: (List.range j).map (byteN n) = l' at *
      rcases (show j = 0 ∨ j = 1 ∨ j = 2 ∨ j = 3 ∨ j = 4 ∨ j = 5 ∨ j = 6 ∨ j = 7 by omega) with rfl | rfl | rfl | rfl | rfl | rfl | rfl | rfl
      · have HC := Lib.hid (show ((N : Int) / 72057594037927936) = ((byteN n 0).toNat : Int) by rw [HB.out, UInt8.toNat_ofNat']; omega)
        have hb1 : Below wr.heap.size wr (wr.alloc (.cells #[.int .u8 ((N : Int) / 72057594037927936)] 5)) := (Below.refl _ _).alloc (Nat.le_refl _) _
        have hv2 := byts_kept hv hb1
        have hcell : (wr.alloc (.cells #[.int .u8 ((N : Int) / 72057594037927936)] 5)).cell? ⟨wr.heap.size, 0, none⟩ = some (.int .u8 ((N : Int) / 72057594037927936)) := by simp [go_sem]
        go_wp2_with (at_builtin; refine wpList_byte rfl _ _ rfl u0 l' rfl hv2 _ _ (byteN n 0) rfl hcell HC.out hlen ?_; intro v2 w2 hv3 hu3; have HV3 := Lib.hid hv3; have HU3 := Lib.hid ((HU.out.trans (Upd.of_below hb1 _)).trans hu3); clear hu3 hv3 hcell hv2 hb1 hv)
        go_roundw
        case rel => exact ⟨1, by omega, by go_num, by rw [HL.out]; exact HV3.out, HU3⟩
        case measure => simp [intOf]
      · have HC := Lib.hid (show ((N : Int) / 281474976710656 % 256) = ((byteN n 1).toNat : Int) by rw [HB.out, UInt8.toNat_ofNat']; omega)
        have hb1 : Below wr.heap.size wr (wr.alloc (.cells #[.int .u8 ((N : Int) / 281474976710656 % 256)] 5)) := (Below.refl _ _).alloc (Nat.le_refl _) _
        have hv2 := byts_kept hv hb1
        have hcell : (wr.alloc (.cells #[.int .u8 ((N : Int) / 281474976710656 % 256)] 5)).cell? ⟨wr.heap.size, 0, none⟩ = some (.int .u8 ((N : Int) / 281474976710656 % 256)) := by simp [go_sem]
        go_wp2_with (at_builtin; refine wpList_byte rfl _ _ rfl u0 l' rfl hv2 _ _ (byteN n 1) rfl hcell HC.out hlen ?_; intro v2 w2 hv3 hu3; have HV3 := Lib.hid hv3; have HU3 := Lib.hid ((HU.out.trans (Upd.of_below hb1 _)).trans hu3); clear hu3 hv3 hcell hv2 hb1 hv)
        go_roundw
        case rel => exact ⟨2, by omega, by go_num, by rw [HL.out]; exact HV3.out, HU3⟩
        case measure => simp [intOf]
      · have HC := Lib.hid (show ((N : Int) / 1099511627776 % 256) = ((byteN n 2).toNat : Int) by rw [HB.out, UInt8.toNat_ofNat']; omega)
        have hb1 : Below wr.heap.size wr (wr.alloc (.cells #[.int .u8 ((N : Int) / 1099511627776 % 256)] 5)) := (Below.refl _ _).alloc (Nat.le_refl _) _
        have hv2 := byts_kept hv hb1
        have hcell : (wr.alloc (.cells #[.int .u8 ((N : Int) / 1099511627776 % 256)] 5)).cell? ⟨wr.heap.size, 0, none⟩ = some (.int .u8 ((N : Int) / 1099511627776 % 256)) := by simp [go_sem]
        go_wp2_with (at_builtin; refine wpList_byte rfl _ _ rfl u0 l' rfl hv2 _ _ (byteN n 2) rfl hcell HC.out hlen ?_; intro v2 w2 hv3 hu3; have HV3 := Lib.hid hv3; have HU3 := Lib.hid ((HU.out.trans (Upd.of_below hb1 _)).trans hu3); clear hu3 hv3 hcell hv2 hb1 hv)
        go_roundw
        case rel => exact ⟨3, by omega, by go_num, by rw [HL.out]; exact HV3.out, HU3⟩
        case measure => simp [intOf]
      · have HC := Lib.hid (show ((N : Int) / 4294967296 % 256) = ((byteN n 3).toNat : Int) by rw [HB.out, UInt8.toNat_ofNat']; omega)
        have hb1 : Below wr.heap.size wr (wr.alloc (.cells #[.int .u8 ((N : Int) / 4294967296 % 256)] 5)) := (Below.refl _ _).alloc (Nat.le_refl _) _
        have hv2 := byts_kept hv hb1
        have hcell : (wr.alloc (.cells #[.int .u8 ((N : Int) / 4294967296 % 256)] 5)).cell? ⟨wr.heap.size, 0, none⟩ = some (.int .u8 ((N : Int) / 4294967296 % 256)) := by simp [go_sem]
        go_wp2_with (at_builtin; refine wpList_byte rfl _ _ rfl u0 l' rfl hv2 _ _ (byteN n 3) rfl hcell HC.out hlen ?_; intro v2 w2 hv3 hu3; have HV3 := Lib.hid hv3; have HU3 := Lib.hid ((HU.out.trans (Upd.of_below hb1 _)).trans hu3); clear hu3 hv3 hcell hv2 hb1 hv)
        go_roundw
        case rel => exact ⟨4, by omega, by go_num, by rw [HL.out]; exact HV3.out, HU3⟩
        case measure => simp [intOf]
      · have HC := Lib.hid (show ((N : Int) / 16777216 % 256) = ((byteN n 4).toNat : Int) by rw [HB.out, UInt8.toNat_ofNat']; omega)
        have hb1 : Below wr.heap.size wr (wr.alloc (.cells #[.int .u8 ((N : Int) / 16777216 % 256)] 5)) := (Below.refl _ _).alloc (Nat.le_refl _) _
        have hv2 := byts_kept hv hb1
        have hcell : (wr.alloc (.cells #[.int .u8 ((N : Int) / 16777216 % 256)] 5)).cell? ⟨wr.heap.size, 0, none⟩ = some (.int .u8 ((N : Int) / 16777216 % 256)) := by simp [go_sem]
        go_wp2_with (at_builtin; refine wpList_byte rfl _ _ rfl u0 l' rfl hv2 _ _ (byteN n 4) rfl hcell HC.out hlen ?_; intro v2 w2 hv3 hu3; have HV3 := Lib.hid hv3; have HU3 := Lib.hid ((HU.out.trans (Upd.of_below hb1 _)).trans hu3); clear hu3 hv3 hcell hv2 hb1 hv)
        go_roundw
        case rel => exact ⟨5, by omega, by go_num, by rw [HL.out]; exact HV3.out, HU3⟩
        case measure => simp [intOf]
      · have HC := Lib.hid (show ((N : Int) / 65536 % 256) = ((byteN n 5).toNat : Int) by rw [HB.out, UInt8.toNat_ofNat']; omega)
        have hb1 : Below wr.heap.size wr (wr.alloc (.cells #[.int .u8 ((N : Int) / 65536 % 256)] 5)) := (Below.refl _ _).alloc (Nat.le_refl _) _
        have hv2 := byts_kept hv hb1
        have hcell : (wr.alloc (.cells #[.int .u8 ((N : Int) / 65536 % 256)] 5)).cell? ⟨wr.heap.size, 0, none⟩ = some (.int .u8 ((N : Int) / 65536 % 256)) := by simp [go_sem]
        go_wp2_with (at_builtin; refine wpList_byte rfl _ _ rfl u0 l' rfl hv2 _ _ (byteN n 5) rfl hcell HC.out hlen ?_; intro v2 w2 hv3 hu3; have HV3 := Lib.hid hv3; have HU3 := Lib.hid ((HU.out.trans (Upd.of_below hb1 _)).trans hu3); clear hu3 hv3 hcell hv2 hb1 hv)
        go_roundw
        case rel => exact ⟨6, by omega, by go_num, by rw [HL.out]; exact HV3.out, HU3⟩
        case measure => simp [intOf]
      · have HC := Lib.hid (show ((N : Int) / 256 % 256) = ((byteN n 6).toNat : Int) by rw [HB.out, UInt8.toNat_ofNat']; omega)
        have hb1 : Below wr.heap.size wr (wr.alloc (.cells #[.int .u8 ((N : Int) / 256 % 256)] 5)) := (Below.refl _ _).alloc (Nat.le_refl _) _
        have hv2 := byts_kept hv hb1
        have hcell : (wr.alloc (.cells #[.int .u8 ((N : Int) / 256 % 256)] 5)).cell? ⟨wr.heap.size, 0, none⟩ = some (.int .u8 ((N : Int) / 256 % 256)) := by simp [go_sem]
        go_wp2_with (at_builtin; refine wpList_byte rfl _ _ rfl u0 l' rfl hv2 _ _ (byteN n 6) rfl hcell HC.out hlen ?_; intro v2 w2 hv3 hu3; have HV3 := Lib.hid hv3; have HU3 := Lib.hid ((HU.out.trans (Upd.of_below hb1 _)).trans hu3); clear hu3 hv3 hcell hv2 hb1 hv)
        go_roundw
        case rel => exact ⟨7, by omega, by go_num, by rw [HL.out]; exact HV3.out, HU3⟩
        case measure => simp [intOf]
      · have HC := Lib.hid (show ((N : Int) % 256) = ((byteN n 7).toNat : Int) by rw [HB.out, UInt8.toNat_ofNat']; omega)
        have hb1 : Below wr.heap.size wr (wr.alloc (.cells #[.int .u8 ((N : Int) % 256)] 5)) := (Below.refl _ _).alloc (Nat.le_refl _) _
        have hv2 := byts_kept hv hb1
        have hcell : (wr.alloc (.cells #[.int .u8 ((N : Int) % 256)] 5)).cell? ⟨wr.heap.size, 0, none⟩ = some (.int .u8 ((N : Int) % 256)) := by simp [go_sem]
        go_wp2_with (at_builtin; refine wpList_byte rfl _ _ rfl u0 l' rfl hv2 _ _ (byteN n 7) rfl hcell HC.out hlen ?_; intro v2 w2 hv3 hu3; have HV3 := Lib.hid hv3; have HU3 := Lib.hid ((HU.out.trans (Upd.of_below hb1 _)).trans hu3); clear hu3 hv3 hcell hv2 hb1 hv)
        go_roundw
        case rel => exact ⟨8, by omega, by go_num, by rw [HL.out]; exact HV3.out, HU3⟩
        case measure => simp [intOf]
    · obtain rfl : j = 8 := by omega
      go_wp2
      go_ret
      exact ⟨_, rfl, hv, HU.out⟩
end Go.Proofs.YtjmhoccikbgigaaDoor
