/- The walks of text: program and document. Conditions: what is there and what comes in has less than 2 to the 45 bytes. -/
import Derived.Test.YtjmhoccikbgigaaDoorLaidint
namespace Go.Proofs.YtjmhoccikbgigaaDoor
open Go.RowKit
/-- a text's bytes without the end -/
def flat (s : List UInt8) : List UInt8 := s.flatMap fun c => if c = 0 then [0, 255] else [c]
theorem flat_len (s : List UInt8) : (flat s).length ≤ 2 * s.length := by
  induction s with
  | nil => simp [flat]
  | cons c r ih =>
    have : flat (c :: r) = (if c = 0 then [0, 255] else [c]) ++ flat r := rfl
    rw [this, List.length_append, List.length_cons]
    split <;> simp <;> omega
theorem flat_snoc (s : List UInt8) (c : UInt8) : flat (s ++ [c]) = flat s ++ (if c = 0 then [0, 255] else [c]) := by
  simp [flat]
theorem take_snoc (s : ByteArray) (k : Nat) (h : k < s.size) : s.data.toList.take (k + 1) = s.data.toList.take k ++ [s[k]] := by
  rw [List.take_succ_eq_append_getElem (by simpa using h)]
  rfl
set_option maxHeartbeats 2000000 in
theorem text_c (v : Value) (l : List UInt8) (s : ByteArray) (w : World) (hv : Byts w v l) (hl : l.length < 17592186044416) (hs : s.size < 17592186044416) :
    Calls Tryd.prog 61 #[v, .string s] w fun e w' => ∃ v', e = .returned v' ∧ Byts w' v' (l ++ encT s.data.toList) ∧ Upd w w' v.ownBlock v'.ownBlock := by
  go_enter Tryd.func61, Tryd.ntmps61
  go_wp2
  go_loopw [0, 8] (fun b i wr => ∃ k : Nat, k ≤ s.size ∧ i = .int .i64 k ∧ Byts wr b (l ++ flat (s.data.toList.take k)) ∧ Hid (Upd w wr v.ownBlock b.ownBlock)) (fun _ i _ => s.size - (intOf i).toNat)
  case atStart => exact ⟨0, by omega, rfl, by simpa [flat] using hv, Lib.hid (Upd.refl _ _)⟩
  case round =>
    clear hv
    obtain ⟨k, hk, rfl, hv, HU⟩ := hrel
    have hlen : (l ++ flat (s.data.toList.take k)).length < 60000000000000 := by
      have h1 := flat_len (s.data.toList.take k)
      rw [List.length_append]
      have h2 : (s.data.toList.take k).length ≤ s.size := by rw [List.length_take]; omega
      omega
    by_cases hlt : k < s.size
    · have HS := Lib.hid (show l ++ flat (s.data.toList.take (k + 1)) = (l ++ flat (s.data.toList.take k)) ++ (if s[k] = 0 then [0, 255] else [s[k]]) by rw [take_snoc s k hlt, flat_snoc, List.append_assoc])
      generalize l ++ flat (s.data.toList.take k) = l' at *
      have hb1 : Below wr.heap.size wr (wr.alloc (.cells #[.int .u8 (s[k].toNat : Int)] 5)) := (Below.refl _ _).alloc (Nat.le_refl _) _
      have hv2 := byts_kept hv hb1
      have hcell : (wr.alloc (.cells #[.int .u8 (s[k].toNat : Int)] 5)).cell? ⟨wr.heap.size, 0, none⟩ = some (.int .u8 (s[k].toNat : Int)) := by simp [go_sem]
      by_cases hz : s[k] = 0
      · have HZ := Lib.hid hz
        have hzb : ((s[k].toNat : Int) == 0) = true := by rw [hz]; rfl
        clear hz
        go_wp2_with (at_builtin; first
          | (refine wpList_byte rfl _ _ rfl v2 (l' ++ [s[k]]) rfl hv4 _ _ 255 rfl hcell2 rfl (by rw [List.length_append]; simp; omega) ?_; intro v5 w5 hv5 hu5; have HU5 := Lib.hid ((HU3.out.trans (Upd.of_below hb4 _)).trans hu5); have HV5 := Lib.hid hv5)
          | (refine wpList_byte rfl _ _ rfl u0 l' rfl hv2 _ _ s[k] rfl hcell rfl (by omega) ?_; intro v2 w2 hv3 hu3; have HU3 := Lib.hid ((HU.out.trans (Upd.of_below hb1 _)).trans hu3); have hb4 := (Below.refl w2.heap.size w2).alloc (Nat.le_refl _) (.cells #[.int .u8 255] 5); have hv4 := byts_kept hv3 hb4; have hcell2 : (w2.alloc (.cells #[.int .u8 255] 5)).cell? ⟨w2.heap.size, 0, none⟩ = some (.int .u8 255) := (by simp [go_sem])))
        go_roundw
        case rel => exact ⟨k + 1, by omega, by go_num, by rw [HS.out, if_pos HZ.out]; have := HV5.out; rw [HZ.out] at this; simpa using this, HU5⟩
        case measure => simp [intOf]; omega
      · have HZ := Lib.hid hz
        have hzb : ((s[k].toNat : Int) == 0) = false := by
          rw [beq_eq_false_iff_ne]
          intro e
          exact hz (UInt8.toNat_inj.1 (by simpa using e))
        clear hz
        go_wp2_with (at_builtin; refine wpList_byte rfl _ _ rfl u0 l' rfl hv2 _ _ s[k] rfl hcell rfl (by omega) ?_; intro v2 w2 hv3 hu3; have HU3 := Lib.hid ((HU.out.trans (Upd.of_below hb1 _)).trans hu3); have HV3 := Lib.hid hv3)
        go_roundw
        case rel => exact ⟨k + 1, by omega, by go_num, by rw [HS.out, if_neg HZ.out]; exact HV3.out, HU3⟩
        case measure => simp [intOf]; omega
    · obtain rfl : k = s.size := by omega
      have hte : s.data.toList.take s.size = s.data.toList := List.take_of_length_le (by simp)
      rw [hte] at hv hlen
      have hb1 : Below wr.heap.size wr (wr.alloc (.cells #[.int .u8 0, .int .u8 1] 5)) := (Below.refl _ _).alloc (Nat.le_refl _) _
      have hv2 := byts_kept hv hb1
      have hcell : (wr.alloc (.cells #[.int .u8 0, .int .u8 1] 5)).cell? ⟨wr.heap.size, 0, none⟩ = some (.int .u8 0) := by simp [go_sem]
      have hcell2 : (wr.alloc (.cells #[.int .u8 0, .int .u8 1] 5)).cell? ⟨wr.heap.size, 1, none⟩ = some (.int .u8 1) := by simp [go_sem]
      clear hte
      go_wp2_with (at_builtin; refine wpList_bytes2 rfl _ _ rfl u0 _ rfl hv2 _ 0 1 rfl hcell hcell2 (by omega) ?_; intro v2 w2 hv3 hu3; have HU3 := Lib.hid ((HU.out.trans (Upd.of_below hb1 _)).trans hu3); have HV3 := Lib.hid hv3)
      go_ret
      exact ⟨_, rfl, by have := HV3.out; rw [List.append_assoc] at this; exact this, HU3.out⟩
set_option maxHeartbeats 2000000 in
theorem refText_c (v : Value) (l : List UInt8) (s : ByteArray) (w : World) (hv : Byts w v l) (hl : l.length < 17592186044416) (hs : s.size < 17592186044416) :
    Calls Tryd.prog 63 #[v, .string s] w fun e w' => ∃ v', e = .returned v' ∧ Byts w' v' (l ++ encT s.data.toList) ∧ Upd w w' v.ownBlock v'.ownBlock := by
  go_enter Tryd.func63, Tryd.ntmps63
  go_wp2
  go_loopw [0, 5] (fun b i wr => ∃ k : Nat, k ≤ s.size ∧ i = .int .i64 k ∧ Byts wr b (l ++ flat (s.data.toList.take k)) ∧ Hid (Upd w wr v.ownBlock b.ownBlock)) (fun _ i _ => s.size - (intOf i).toNat)
  case atStart => exact ⟨0, by omega, rfl, by simpa [flat] using hv, Lib.hid (Upd.refl _ _)⟩
  case round =>
    clear hv
    obtain ⟨k, hk, rfl, hv, HU⟩ := hrel
    have hlen : (l ++ flat (s.data.toList.take k)).length < 60000000000000 := by
      have h1 := flat_len (s.data.toList.take k)
      rw [List.length_append]
      have h2 : (s.data.toList.take k).length ≤ s.size := by rw [List.length_take]; omega
      omega
    by_cases hlt : k < s.size
    · have HS := Lib.hid (show l ++ flat (s.data.toList.take (k + 1)) = (l ++ flat (s.data.toList.take k)) ++ (if s[k] = 0 then [0, 255] else [s[k]]) by rw [take_snoc s k hlt, flat_snoc, List.append_assoc])
      generalize l ++ flat (s.data.toList.take k) = l' at *
      have hb1 : Below wr.heap.size wr (wr.alloc (.cells #[.int .u8 (s[k].toNat : Int)] 5)) := (Below.refl _ _).alloc (Nat.le_refl _) _
      have hv2 := byts_kept hv hb1
      have hcell : (wr.alloc (.cells #[.int .u8 (s[k].toNat : Int)] 5)).cell? ⟨wr.heap.size, 0, none⟩ = some (.int .u8 (s[k].toNat : Int)) := by simp [go_sem]
      by_cases hz : s[k] = 0
      · have HZ := Lib.hid hz
        have hzb : ((s[k].toNat : Int) == 0) = true := by rw [hz]; rfl
        clear hz
        go_wp2_with (at_builtin; first
          | (refine wpList_byte rfl _ _ rfl v2 (l' ++ [s[k]]) rfl hv4 _ _ 255 rfl hcell2 rfl (by rw [List.length_append]; simp; omega) ?_; intro v5 w5 hv5 hu5; have HU5 := Lib.hid ((HU3.out.trans (Upd.of_below hb4 _)).trans hu5); have HV5 := Lib.hid hv5)
          | (refine wpList_byte rfl _ _ rfl u0 l' rfl hv2 _ _ s[k] rfl hcell rfl (by omega) ?_; intro v2 w2 hv3 hu3; have HU3 := Lib.hid ((HU.out.trans (Upd.of_below hb1 _)).trans hu3); have hb4 := (Below.refl w2.heap.size w2).alloc (Nat.le_refl _) (.cells #[.int .u8 255] 5); have hv4 := byts_kept hv3 hb4; have hcell2 : (w2.alloc (.cells #[.int .u8 255] 5)).cell? ⟨w2.heap.size, 0, none⟩ = some (.int .u8 255) := (by simp [go_sem])))
        go_roundw
        case rel => exact ⟨k + 1, by omega, by go_num, by rw [HS.out, if_pos HZ.out]; have := HV5.out; rw [HZ.out] at this; simpa using this, HU5⟩
        case measure => simp [intOf]; omega
      · have HZ := Lib.hid hz
        have hzb : ((s[k].toNat : Int) == 0) = false := by
          rw [beq_eq_false_iff_ne]
          intro e
          exact hz (UInt8.toNat_inj.1 (by simpa using e))
        clear hz
        go_wp2_with (at_builtin; refine wpList_byte rfl _ _ rfl u0 l' rfl hv2 _ _ s[k] rfl hcell rfl (by omega) ?_; intro v2 w2 hv3 hu3; have HU3 := Lib.hid ((HU.out.trans (Upd.of_below hb1 _)).trans hu3); have HV3 := Lib.hid hv3)
        go_roundw
        case rel => exact ⟨k + 1, by omega, by go_num, by rw [HS.out, if_neg HZ.out]; exact HV3.out, HU3⟩
        case measure => simp [intOf]; omega
    · obtain rfl : k = s.size := by omega
      have hte : s.data.toList.take s.size = s.data.toList := List.take_of_length_le (by simp)
      rw [hte] at hv hlen
      have hb1 : Below wr.heap.size wr (wr.alloc (.cells #[.int .u8 0, .int .u8 1] 5)) := (Below.refl _ _).alloc (Nat.le_refl _) _
      have hv2 := byts_kept hv hb1
      have hcell : (wr.alloc (.cells #[.int .u8 0, .int .u8 1] 5)).cell? ⟨wr.heap.size, 0, none⟩ = some (.int .u8 0) := by simp [go_sem]
      have hcell2 : (wr.alloc (.cells #[.int .u8 0, .int .u8 1] 5)).cell? ⟨wr.heap.size, 1, none⟩ = some (.int .u8 1) := by simp [go_sem]
      clear hte
      go_wp2_with (at_builtin; refine wpList_bytes2 rfl _ _ rfl u0 _ rfl hv2 _ 0 1 rfl hcell hcell2 (by omega) ?_; intro v2 w2 hv3 hu3; have HU3 := Lib.hid ((HU.out.trans (Upd.of_below hb1 _)).trans hu3); have HV3 := Lib.hid hv3)
      go_ret
      exact ⟨_, rfl, by have := HV3.out; rw [List.append_assoc] at this; exact this, HU3.out⟩
end Go.Proofs.YtjmhoccikbgigaaDoor
