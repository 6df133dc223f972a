/- The walk of the document's Unpack. Conditions: the bytes are at most 2 to the 40. -/
import Derived.Test.YtkpickojeghppaaDoorWunp
import Derived.Deep.LoopGhost
import Derived.Deep.RegionHeld3
namespace Go.Proofs.YtkpickojeghppaaDoor
open Go.RowKit
theorem numb_drop (l : List UInt8) (k : Nat) (h : k ≤ l.length) : numb (l.drop k) 0 = numb l k := by
  have := numb_right (l.take k) (l.drop k) 0
  rw [List.take_append_drop, List.length_take, Nat.min_eq_left h, Nat.add_zero] at this
  exact this.symm
/-- number(b[k:]) -/
theorem refNumber_at (G o cap : Nat) (l : List UInt8) (k : Nat) (hk : k + 4 ≤ l.length) (hl : l.length ≤ 1099511627776) (w : World) (hr : w.rangeAt G o (bytesV l)) :
    Calls Tryd.prog 53 #[.slice (some ⟨G, o + k, none⟩) (l.length - k) (cap - k)] w fun e w' => e = .returned (.int .u32 (numb l k : Int)) ∧ ∃ m, w' = w.drewN m := by
  have hd := rangeAt_drop hr k
  have := refNumber_c G (o + k) (cap - k) (l.drop k) (by rw [List.length_drop]; omega) (by rw [List.length_drop]; omega) w (by rw [show bytesV (l.drop k) = (bytesV l).drop k by simp [bytesV, List.map_drop]]; exact hd)
  rw [List.length_drop, numb_drop l k (by omega)] at this
  exact this
theorem headOk_succ (l : List UInt8) (k : Nat) (h : k < l.length) (hk : k < 4) (ho : headOk l k = true) (hc : l[k] = magicL[k]'hk) : headOk l (k + 1) = true := by
  unfold headOk at *
  rw [beq_iff_eq] at *
  rw [List.take_succ_eq_append_getElem h, List.take_succ_eq_append_getElem (show k < magicL.length from hk), ho, hc]
  rfl
theorem headOk_turn (l : List UInt8) (k n : Nat) (h : k < l.length) (hk : k < 4) (hn : k < n) (hc : l[k] ≠ magicL[k]'hk) : headOk l n = false := by
  unfold headOk
  rw [beq_eq_false_iff_ne]
  intro e
  apply hc
  have h1 : (l.take n)[k]? = (magicL.take n)[k]? := by rw [e]
  rw [List.getElem?_take, List.getElem?_take, if_pos hn, if_pos hn, List.getElem?_eq_getElem h, List.getElem?_eq_getElem (show k < magicL.length from hk)] at h1
  exact Option.some.inj h1
set_option maxRecDepth 20000 in
set_option maxHeartbeats 16000000 in
theorem refUnpack_some (G o cap : Nat) (l : List UInt8) (h0 : 0 < l.length) (hl : l.length ≤ 1099511627776) (hc : l.length ≤ cap) (w : World) (h : w.rangeAt G o (bytesV l)) :
    Calls Tryd.prog 16 #[.slice (some ⟨G, o, none⟩) l.length cap] w (UnPost (unpack l) w) := by
  have hb0 : Below w.heap.size w (w.alloc (.cells #[.int .u32 0, .int .u32 0, .int .i64 0, .string ⟨#[]⟩, .bool false] 27)) := (Below.refl _ _).alloc (Nat.le_refl _) _
  have HR := Lib.hid (fun (n : Nat) => (fun j v hj => cell_below (below_drewN hb0 n) (h j v hj) : ((w.alloc (.cells #[.int .u32 0, .int .u32 0, .int .i64 0, .string ⟨#[]⟩, .bool false] 27)).drewN n).rangeAt G o (bytesV l)))
  have HA := Lib.hid (fun j v hj => cell_below hb0 (h j v hj) : (w.alloc (.cells #[.int .u32 0, .int .u32 0, .int .i64 0, .string ⟨#[]⟩, .bool false] 27)).rangeAt G o (bytesV l))
  have HRW := Lib.hid (fun (W : World) (hW : Below w.heap.size w W) => (fun j v hj => cell_below hW (h j v hj) : W.rangeAt G o (bytesV l)))
  clear h
  go_enter Tryd.func16, Tryd.ntmps16
  go_wp2
  go_loopg [6] 5 (fun gk i wr => ∃ (k m : Nat), k ≤ 4 ∧ k ≤ l.length ∧ 4 - k < gk ∧ i = .int .i64 k ∧ wr = (w.alloc (.cells #[.int .u32 0, .int .u32 0, .int .i64 0, .string ⟨#[]⟩, .bool false] 27)).drewN m ∧ Hid (headOk l k = true))
  case atStart => exact ⟨0, 0, by omega, by omega, by omega, rfl, rfl, Lib.hid rfl⟩
  case round =>
    obtain ⟨k, m, hk4, hkl, hgk, rfl, rfl, HK⟩ := hrel
    by_cases hgo : k < 4 ∧ k < l.length
    · obtain ⟨hlt4, hltl⟩ := hgo
      have hcell := range_byte HA.out k hltl
      have HS := Lib.hid (headOk_succ l k hltl hlt4 HK.out)
      have HT := Lib.hid (fun (hc : l[k] ≠ magicL[k]'hlt4) => unpack_bad (l := l) (n := min l.length 4) rfl (headOk_turn l k _ hltl hlt4 (by omega) hc))
      have hcases : k = 0 ∨ k = 1 ∨ k = 2 ∨ k = 3 := by omega
      clear HK
      rcases hcases with rfl | rfl | rfl | rfl
      · have HS' := Lib.hid (show l[0] = 100 → headOk l 1 = true from HS.out)
        have HT' := Lib.hid (show l[0] ≠ 100 → unpack l = .bad 280 from HT.out)
        have hcell' : (w.alloc (.cells #[.int .u32 0, .int .u32 0, .int .i64 0, .string ⟨#[]⟩, .bool false] 27)).cell? ⟨G, o, none⟩ = some (.int .u8 ((l[0]).toNat : Int)) := hcell
        clear HS HT hcell
        by_cases hb : l[0] = 100
        · have HS2 := Lib.hid (HS'.out hb)
          have hbf : (((l[0]).toNat : Int) != (((⟨#[100, 107, 116, 49]⟩ : ByteArray)[0]'(by decide)).toNat : Int)) = false := by rw [hb]; rfl
          clear HS' HT' hb
          go_wp2
          go_quiet (fail)
          go_wp2
          go_roundg (gk - 1)
          case measure => omega
          case rel => exact ⟨1, _, by omega, by omega, by omega, rfl, rfl, HS2⟩
        · have HU := Lib.hid (HT'.out hb)
          have hbn : (((l[0]).toNat : Int) != (((⟨#[100, 107, 116, 49]⟩ : ByteArray)[0]'(by decide)).toNat : Int)) = true := bne_of (byte_ne (d := 100) hb)
          clear HS' HT' hb
          go_wp2
          go_quiet (fail)
          have HH := Lib.hid (show ((w.alloc (.cells #[.int .u32 0, .int .u32 0, .int .i64 0, .string ⟨#[]⟩, .bool false] 27)).drewN (m + nq)).heap[w.heap.size]? = some (.cells #[.int .u32 0, .int .u32 0, .int .i64 0, .string ⟨#[]⟩, .bool false] 27 (0, 0)) from by first | exact heap_alloc_new w _ | (rw [heap_drewN]; exact heap_alloc_new w _))
          go_wp2
          (try simp only [Exit.inBlock, Exit.then])
          refine bodyPost_ret (results_cell2 rfl _ _ w.heap.size 27 _ (0, 0) _ (by rfl) (set5 HH.out) Tryd.underlying27 rfl (by kernel_rfl)) rfl ?_
          exact ⟨by rw [HU.out]; rfl, below_set5 (by repeat (first | with_reducible exact Below.refl _ _ | with_reducible refine below_drewN ?_ _ | with_reducible refine Below.drew ?_ | with_reducible refine Below.alloc ?_ (by first | (simp; done) | (simp; omega)) _ | with_reducible refine Below.setCell ?_ (by first | (simp; done) | (simp; omega)) _)) (Nat.le_refl _)⟩
      · have HS' := Lib.hid (show l[1] = 107 → headOk l 2 = true from HS.out)
        have HT' := Lib.hid (show l[1] ≠ 107 → unpack l = .bad 280 from HT.out)
        have hcell' : (w.alloc (.cells #[.int .u32 0, .int .u32 0, .int .i64 0, .string ⟨#[]⟩, .bool false] 27)).cell? ⟨G, o + 1, none⟩ = some (.int .u8 ((l[1]).toNat : Int)) := hcell
        clear HS HT hcell
        by_cases hb : l[1] = 107
        · have HS2 := Lib.hid (HS'.out hb)
          have hbf : (((l[1]).toNat : Int) != (((⟨#[100, 107, 116, 49]⟩ : ByteArray)[1]'(by decide)).toNat : Int)) = false := by rw [hb]; rfl
          clear HS' HT' hb
          go_wp2
          go_quiet (fail)
          go_wp2
          go_roundg (gk - 1)
          case measure => omega
          case rel => exact ⟨2, _, by omega, by omega, by omega, rfl, rfl, HS2⟩
        · have HU := Lib.hid (HT'.out hb)
          have hbn : (((l[1]).toNat : Int) != (((⟨#[100, 107, 116, 49]⟩ : ByteArray)[1]'(by decide)).toNat : Int)) = true := bne_of (byte_ne (d := 107) hb)
          clear HS' HT' hb
          go_wp2
          go_quiet (fail)
          have HH := Lib.hid (show ((w.alloc (.cells #[.int .u32 0, .int .u32 0, .int .i64 0, .string ⟨#[]⟩, .bool false] 27)).drewN (m + nq)).heap[w.heap.size]? = some (.cells #[.int .u32 0, .int .u32 0, .int .i64 0, .string ⟨#[]⟩, .bool false] 27 (0, 0)) from by first | exact heap_alloc_new w _ | (rw [heap_drewN]; exact heap_alloc_new w _))
          go_wp2
          (try simp only [Exit.inBlock, Exit.then])
          refine bodyPost_ret (results_cell2 rfl _ _ w.heap.size 27 _ (0, 0) _ (by rfl) (set5 HH.out) Tryd.underlying27 rfl (by kernel_rfl)) rfl ?_
          exact ⟨by rw [HU.out]; rfl, below_set5 (by repeat (first | with_reducible exact Below.refl _ _ | with_reducible refine below_drewN ?_ _ | with_reducible refine Below.drew ?_ | with_reducible refine Below.alloc ?_ (by first | (simp; done) | (simp; omega)) _ | with_reducible refine Below.setCell ?_ (by first | (simp; done) | (simp; omega)) _)) (Nat.le_refl _)⟩
      · have HS' := Lib.hid (show l[2] = 116 → headOk l 3 = true from HS.out)
        have HT' := Lib.hid (show l[2] ≠ 116 → unpack l = .bad 280 from HT.out)
        have hcell' : (w.alloc (.cells #[.int .u32 0, .int .u32 0, .int .i64 0, .string ⟨#[]⟩, .bool false] 27)).cell? ⟨G, o + 2, none⟩ = some (.int .u8 ((l[2]).toNat : Int)) := hcell
        clear HS HT hcell
        by_cases hb : l[2] = 116
        · have HS2 := Lib.hid (HS'.out hb)
          have hbf : (((l[2]).toNat : Int) != (((⟨#[100, 107, 116, 49]⟩ : ByteArray)[2]'(by decide)).toNat : Int)) = false := by rw [hb]; rfl
          clear HS' HT' hb
          go_wp2
          go_quiet (fail)
          go_wp2
          go_roundg (gk - 1)
          case measure => omega
          case rel => exact ⟨3, _, by omega, by omega, by omega, rfl, rfl, HS2⟩
        · have HU := Lib.hid (HT'.out hb)
          have hbn : (((l[2]).toNat : Int) != (((⟨#[100, 107, 116, 49]⟩ : ByteArray)[2]'(by decide)).toNat : Int)) = true := bne_of (byte_ne (d := 116) hb)
          clear HS' HT' hb
          go_wp2
          go_quiet (fail)
          have HH := Lib.hid (show ((w.alloc (.cells #[.int .u32 0, .int .u32 0, .int .i64 0, .string ⟨#[]⟩, .bool false] 27)).drewN (m + nq)).heap[w.heap.size]? = some (.cells #[.int .u32 0, .int .u32 0, .int .i64 0, .string ⟨#[]⟩, .bool false] 27 (0, 0)) from by first | exact heap_alloc_new w _ | (rw [heap_drewN]; exact heap_alloc_new w _))
          go_wp2
          (try simp only [Exit.inBlock, Exit.then])
          refine bodyPost_ret (results_cell2 rfl _ _ w.heap.size 27 _ (0, 0) _ (by rfl) (set5 HH.out) Tryd.underlying27 rfl (by kernel_rfl)) rfl ?_
          exact ⟨by rw [HU.out]; rfl, below_set5 (by repeat (first | with_reducible exact Below.refl _ _ | with_reducible refine below_drewN ?_ _ | with_reducible refine Below.drew ?_ | with_reducible refine Below.alloc ?_ (by first | (simp; done) | (simp; omega)) _ | with_reducible refine Below.setCell ?_ (by first | (simp; done) | (simp; omega)) _)) (Nat.le_refl _)⟩
      · have HS' := Lib.hid (show l[3] = 49 → headOk l 4 = true from HS.out)
        have HT' := Lib.hid (show l[3] ≠ 49 → unpack l = .bad 280 from HT.out)
        have hcell' : (w.alloc (.cells #[.int .u32 0, .int .u32 0, .int .i64 0, .string ⟨#[]⟩, .bool false] 27)).cell? ⟨G, o + 3, none⟩ = some (.int .u8 ((l[3]).toNat : Int)) := hcell
        clear HS HT hcell
        by_cases hb : l[3] = 49
        · have HS2 := Lib.hid (HS'.out hb)
          have hbf : (((l[3]).toNat : Int) != (((⟨#[100, 107, 116, 49]⟩ : ByteArray)[3]'(by decide)).toNat : Int)) = false := by rw [hb]; rfl
          clear HS' HT' hb
          go_wp2
          go_quiet (fail)
          go_wp2
          go_roundg (gk - 1)
          case measure => omega
          case rel => exact ⟨4, _, by omega, by omega, by omega, rfl, rfl, HS2⟩
        · have HU := Lib.hid (HT'.out hb)
          have hbn : (((l[3]).toNat : Int) != (((⟨#[100, 107, 116, 49]⟩ : ByteArray)[3]'(by decide)).toNat : Int)) = true := bne_of (byte_ne (d := 49) hb)
          clear HS' HT' hb
          go_wp2
          go_quiet (fail)
          have HH := Lib.hid (show ((w.alloc (.cells #[.int .u32 0, .int .u32 0, .int .i64 0, .string ⟨#[]⟩, .bool false] 27)).drewN (m + nq)).heap[w.heap.size]? = some (.cells #[.int .u32 0, .int .u32 0, .int .i64 0, .string ⟨#[]⟩, .bool false] 27 (0, 0)) from by first | exact heap_alloc_new w _ | (rw [heap_drewN]; exact heap_alloc_new w _))
          go_wp2
          (try simp only [Exit.inBlock, Exit.then])
          refine bodyPost_ret (results_cell2 rfl _ _ w.heap.size 27 _ (0, 0) _ (by rfl) (set5 HH.out) Tryd.underlying27 rfl (by kernel_rfl)) rfl ?_
          exact ⟨by rw [HU.out]; rfl, below_set5 (by repeat (first | with_reducible exact Below.refl _ _ | with_reducible refine below_drewN ?_ _ | with_reducible refine Below.drew ?_ | with_reducible refine Below.alloc ?_ (by first | (simp; done) | (simp; omega)) _ | with_reducible refine Below.setCell ?_ (by first | (simp; done) | (simp; omega)) _)) (Nat.le_refl _)⟩
    · rcases Nat.lt_or_ge k 4 with hk | hk
      · obtain rfl : k = l.length := by omega
        have HU := Lib.hid ((unpack_head (n := l.length) (by omega) HK.out).trans (if_pos (by omega)))
        clear HK hgo hk4 hkl
        have HH := Lib.hid (show ((w.alloc (.cells #[.int .u32 0, .int .u32 0, .int .i64 0, .string ⟨#[]⟩, .bool false] 27)).drewN m).heap[w.heap.size]? = some (.cells #[.int .u32 0, .int .u32 0, .int .i64 0, .string ⟨#[]⟩, .bool false] 27 (0, 0)) from by first | exact heap_alloc_new w _ | (rw [heap_drewN]; exact heap_alloc_new w _))
        go_wp2
        (try simp only [Exit.inBlock, Exit.then])
        refine bodyPost_ret (results_cell2 rfl _ _ w.heap.size 27 _ (0, 0) _ (by rfl) (set5 HH.out) Tryd.underlying27 rfl (by kernel_rfl)) rfl ?_
        exact ⟨by rw [HU.out]; rfl, below_set5 (by repeat (first | with_reducible exact Below.refl _ _ | with_reducible refine below_drewN ?_ _ | with_reducible refine Below.drew ?_ | with_reducible refine Below.alloc ?_ (by first | (simp; done) | (simp; omega)) _ | with_reducible refine Below.setCell ?_ (by first | (simp; done) | (simp; omega)) _)) (Nat.le_refl _)⟩
      · obtain rfl : k = 4 := by omega
        have HU0 := Lib.hid (unpack_head (n := 4) (by omega) HK.out)
        clear HK hgo hk4 hk
        by_cases h8 : l.length < 8
        · have HU := Lib.hid (HU0.out.trans (if_pos h8))
          clear HU0
          have HH := Lib.hid (show ((w.alloc (.cells #[.int .u32 0, .int .u32 0, .int .i64 0, .string ⟨#[]⟩, .bool false] 27)).drewN m).heap[w.heap.size]? = some (.cells #[.int .u32 0, .int .u32 0, .int .i64 0, .string ⟨#[]⟩, .bool false] 27 (0, 0)) from by first | exact heap_alloc_new w _ | (rw [heap_drewN]; exact heap_alloc_new w _))
          go_wp2
          (try simp only [Exit.inBlock, Exit.then])
          refine bodyPost_ret (results_cell2 rfl _ _ w.heap.size 27 _ (0, 0) _ (by rfl) (set5 HH.out) Tryd.underlying27 rfl (by kernel_rfl)) rfl ?_
          exact ⟨by rw [HU.out]; rfl, below_set5 (by repeat (first | with_reducible exact Below.refl _ _ | with_reducible refine below_drewN ?_ _ | with_reducible refine Below.drew ?_ | with_reducible refine Below.alloc ?_ (by first | (simp; done) | (simp; omega)) _ | with_reducible refine Below.setCell ?_ (by first | (simp; done) | (simp; omega)) _)) (Nat.le_refl _)⟩
        have HN := Lib.hid (fun (j n : Nat) (hj : j + 4 ≤ l.length) => refNumber_at G o cap l j hj hl _ (HR.out n))
        have h4 := fun (n : Nat) => HN.out 4 n (by omega)
        have HU1 := Lib.hid (HU0.out.trans (if_neg h8))
        have HWT := Lib.hid (fun (h1 : numb l 4 ≤ l.length) (h2 : 24 ≤ numb l 4) => (whole_take l (numb l 4) h1 h2))
        have hlt4 := numb_lt l 4
        generalize numb l 4 = z at *
        have H4 := Lib.hid h4
        clear h4 HU0
        go_wp2_with fail
        refine (H4.out m).mono ?_; rintro e w2 ⟨rfl, m1, rfl⟩
        by_cases hz : 131072 < z
        · have HU := Lib.hid (HU1.out.trans (if_pos hz))
          have HH := Lib.hid (show ((w.alloc (.cells #[.int .u32 0, .int .u32 0, .int .i64 0, .string ⟨#[]⟩, .bool false] 27)).drewN (m + m1)).heap[w.heap.size]? = some (.cells #[.int .u32 0, .int .u32 0, .int .i64 0, .string ⟨#[]⟩, .bool false] 27 (0, 0)) from by first | exact heap_alloc_new w _ | (rw [heap_drewN]; exact heap_alloc_new w _))
          go_wp2
          (try simp only [Exit.inBlock, Exit.then])
          refine bodyPost_ret (results_cell2 rfl _ _ w.heap.size 27 _ (0, 0) _ (by rfl) (set5 HH.out) Tryd.underlying27 rfl (by kernel_rfl)) rfl ?_
          exact ⟨by rw [HU.out]; rfl, below_set5 (by repeat (first | with_reducible exact Below.refl _ _ | with_reducible refine below_drewN ?_ _ | with_reducible refine Below.drew ?_ | with_reducible refine Below.alloc ?_ (by first | (simp; done) | (simp; omega)) _ | with_reducible refine Below.setCell ?_ (by first | (simp; done) | (simp; omega)) _)) (Nat.le_refl _)⟩
        by_cases hz2 : z < 24
        · have HU := Lib.hid (HU1.out.trans ((if_neg hz).trans (if_pos hz2)))
          have HH := Lib.hid (show ((w.alloc (.cells #[.int .u32 0, .int .u32 0, .int .i64 0, .string ⟨#[]⟩, .bool false] 27)).drewN (m + m1)).heap[w.heap.size]? = some (.cells #[.int .u32 0, .int .u32 0, .int .i64 0, .string ⟨#[]⟩, .bool false] 27 (0, 0)) from by first | exact heap_alloc_new w _ | (rw [heap_drewN]; exact heap_alloc_new w _))
          go_wp2
          (try simp only [Exit.inBlock, Exit.then])
          refine bodyPost_ret (results_cell2 rfl _ _ w.heap.size 27 _ (0, 0) _ (by rfl) (set5 HH.out) Tryd.underlying27 rfl (by kernel_rfl)) rfl ?_
          exact ⟨by rw [HU.out]; rfl, below_set5 (by repeat (first | with_reducible exact Below.refl _ _ | with_reducible refine below_drewN ?_ _ | with_reducible refine Below.drew ?_ | with_reducible refine Below.alloc ?_ (by first | (simp; done) | (simp; omega)) _ | with_reducible refine Below.setCell ?_ (by first | (simp; done) | (simp; omega)) _)) (Nat.le_refl _)⟩
        by_cases hz3 : l.length < z
        · have HU := Lib.hid (HU1.out.trans ((if_neg hz).trans ((if_neg hz2).trans (if_pos hz3))))
          have HH := Lib.hid (show ((w.alloc (.cells #[.int .u32 0, .int .u32 0, .int .i64 0, .string ⟨#[]⟩, .bool false] 27)).drewN (m + m1)).heap[w.heap.size]? = some (.cells #[.int .u32 0, .int .u32 0, .int .i64 0, .string ⟨#[]⟩, .bool false] 27 (0, 0)) from by first | exact heap_alloc_new w _ | (rw [heap_drewN]; exact heap_alloc_new w _))
          go_wp2
          (try simp only [Exit.inBlock, Exit.then])
          refine bodyPost_ret (results_cell2 rfl _ _ w.heap.size 27 _ (0, 0) _ (by rfl) (set5 HH.out) Tryd.underlying27 rfl (by kernel_rfl)) rfl ?_
          exact ⟨by rw [HU.out]; rfl, below_set5 (by repeat (first | with_reducible exact Below.refl _ _ | with_reducible refine below_drewN ?_ _ | with_reducible refine Below.drew ?_ | with_reducible refine Below.alloc ?_ (by first | (simp; done) | (simp; omega)) _ | with_reducible refine Below.setCell ?_ (by first | (simp; done) | (simp; omega)) _)) (Nat.le_refl _)⟩
        have HU2 := Lib.hid (HU1.out.trans ((if_neg hz).trans ((if_neg hz2).trans (if_neg hz3))))
        have h16 := HN.out 16 (m + m1) (by omega)
        have h20 := fun (n : Nat) => HN.out 20 n (by omega)
        have h8a := fun (n : Nat) => HN.out 8 n (by omega)
        have h12 := fun (n : Nat) => HN.out 12 n (by omega)
        have H20 := Lib.hid h20
        have H8 := Lib.hid h8a
        have H12 := Lib.hid h12
        clear H4 HU1 h20 h8a h12
        go_wp2_with fail
        refine h16.mono ?_; rintro e w2 ⟨rfl, m2, rfl⟩
        clear h16
        go_wp2_with fail
        refine (H20.out (m + m1 + m2)).mono ?_; rintro e w2 ⟨rfl, m3, rfl⟩
        clear H20
        unfold whole at HU2
        have hlt16 := numb_lt l 16
        have hlt20 := numb_lt l 20
        by_cases hk1 : numb l 16 < 1 ∨ 6 < numb l 16
        · have HU := Lib.hid (HU2.out.trans (if_pos hk1))
          generalize numb l 16 = kd at *
          generalize numb l 20 = fl at *
          clear HU2
          rcases hk1 with hk1 | hk1
          · skip
            have HH := Lib.hid (show ((w.alloc (.cells #[.int .u32 0, .int .u32 0, .int .i64 0, .string ⟨#[]⟩, .bool false] 27)).drewN (m + m1 + m2 + m3)).heap[w.heap.size]? = some (.cells #[.int .u32 0, .int .u32 0, .int .i64 0, .string ⟨#[]⟩, .bool false] 27 (0, 0)) from by first | exact heap_alloc_new w _ | (rw [heap_drewN]; exact heap_alloc_new w _))
            go_wp2
            (try simp only [Exit.inBlock, Exit.then])
            refine bodyPost_ret (results_cell2 rfl _ _ w.heap.size 27 _ (0, 0) _ (by rfl) (set5 HH.out) Tryd.underlying27 rfl (by kernel_rfl)) rfl ?_
            exact ⟨by rw [HU.out]; rfl, below_set5 (by repeat (first | with_reducible exact Below.refl _ _ | with_reducible refine below_drewN ?_ _ | with_reducible refine Below.drew ?_ | with_reducible refine Below.alloc ?_ (by first | (simp; done) | (simp; omega)) _ | with_reducible refine Below.setCell ?_ (by first | (simp; done) | (simp; omega)) _)) (Nat.le_refl _)⟩
          · have hk1' : ¬ kd < 1 := by omega
            have HH := Lib.hid (show ((w.alloc (.cells #[.int .u32 0, .int .u32 0, .int .i64 0, .string ⟨#[]⟩, .bool false] 27)).drewN (m + m1 + m2 + m3)).heap[w.heap.size]? = some (.cells #[.int .u32 0, .int .u32 0, .int .i64 0, .string ⟨#[]⟩, .bool false] 27 (0, 0)) from by first | exact heap_alloc_new w _ | (rw [heap_drewN]; exact heap_alloc_new w _))
            go_wp2
            (try simp only [Exit.inBlock, Exit.then])
            refine bodyPost_ret (results_cell2 rfl _ _ w.heap.size 27 _ (0, 0) _ (by rfl) (set5 HH.out) Tryd.underlying27 rfl (by kernel_rfl)) rfl ?_
            exact ⟨by rw [HU.out]; rfl, below_set5 (by repeat (first | with_reducible exact Below.refl _ _ | with_reducible refine below_drewN ?_ _ | with_reducible refine Below.drew ?_ | with_reducible refine Below.alloc ?_ (by first | (simp; done) | (simp; omega)) _ | with_reducible refine Below.setCell ?_ (by first | (simp; done) | (simp; omega)) _)) (Nat.le_refl _)⟩
        have HU3 := Lib.hid (HU2.out.trans (if_neg hk1))
        have k1 : ¬ numb l 16 < 1 := fun e => hk1 (.inl e)
        have k2 : ¬ 6 < numb l 16 := fun e => hk1 (.inr e)
        clear HU2 hk1
        by_cases hf : 1 < numb l 20
        · have HU := Lib.hid (HU3.out.trans (if_pos hf))
          generalize numb l 16 = kd at *
          generalize numb l 20 = fl at *
          have HH := Lib.hid (show ((w.alloc (.cells #[.int .u32 0, .int .u32 0, .int .i64 0, .string ⟨#[]⟩, .bool false] 27)).drewN (m + m1 + m2 + m3)).heap[w.heap.size]? = some (.cells #[.int .u32 0, .int .u32 0, .int .i64 0, .string ⟨#[]⟩, .bool false] 27 (0, 0)) from by first | exact heap_alloc_new w _ | (rw [heap_drewN]; exact heap_alloc_new w _))
          go_wp2
          (try simp only [Exit.inBlock, Exit.then])
          refine bodyPost_ret (results_cell2 rfl _ _ w.heap.size 27 _ (0, 0) _ (by rfl) (set5 HH.out) Tryd.underlying27 rfl (by kernel_rfl)) rfl ?_
          exact ⟨by rw [HU.out]; rfl, below_set5 (by repeat (first | with_reducible exact Below.refl _ _ | with_reducible refine below_drewN ?_ _ | with_reducible refine Below.drew ?_ | with_reducible refine Below.alloc ?_ (by first | (simp; done) | (simp; omega)) _ | with_reducible refine Below.setCell ?_ (by first | (simp; done) | (simp; omega)) _)) (Nat.le_refl _)⟩
        have HU4 := Lib.hid (HU3.out.trans (if_neg hf))
        clear HU3
        have zs : IntKind.u32.wrap ((z : Int) - 4) = (z : Int) - 4 := by rw [wrap_u32]; omega
        have zn : ((z : Int) - 4).toNat = z - 4 := by omega
        have zp : 0 ≤ (z : Int) - 4 := by omega
        have zl : (z : Int) - 4 ≤ (l.length : Int) := by omega
        have zc : (z : Int) - 4 ≤ (cap : Int) := by omega
        by_cases f1 : numb l 20 = 1
        · have HU5 := Lib.hid (HU4.out.trans (if_pos f1))
          clear HU4
          by_cases h28 : z < 28
          · have HU := Lib.hid (HU5.out.trans (if_pos h28))
            generalize numb l 16 = kd at *
            generalize numb l 20 = fl at *
            subst f1
            clear HU5 zs zn zp zl zc
            have HH := Lib.hid (show ((w.alloc (.cells #[.int .u32 0, .int .u32 0, .int .i64 0, .string ⟨#[]⟩, .bool false] 27)).drewN (m + m1 + m2 + m3)).heap[w.heap.size]? = some (.cells #[.int .u32 0, .int .u32 0, .int .i64 0, .string ⟨#[]⟩, .bool false] 27 (0, 0)) from by first | exact heap_alloc_new w _ | (rw [heap_drewN]; exact heap_alloc_new w _))
            go_wp2
            (try simp only [Exit.inBlock, Exit.then])
            refine bodyPost_ret (results_cell2 rfl _ _ w.heap.size 27 _ (0, 0) _ (by rfl) (set5 HH.out) Tryd.underlying27 rfl (by kernel_rfl)) rfl ?_
            exact ⟨by rw [HU.out]; rfl, below_set5 (by repeat (first | with_reducible exact Below.refl _ _ | with_reducible refine below_drewN ?_ _ | with_reducible refine Below.drew ?_ | with_reducible refine Below.alloc ?_ (by first | (simp; done) | (simp; omega)) _ | with_reducible refine Below.setCell ?_ (by first | (simp; done) | (simp; omega)) _)) (Nat.le_refl _)⟩
          have HU6 := Lib.hid (HU5.out.trans (if_neg h28))
          have HSUM := Lib.hid (fun (n : Nat) => show Calls Tryd.prog 19 #[.slice (some ⟨G, o, none⟩) (z - 4) cap] ((w.alloc (.cells #[.int .u32 0, .int .u32 0, .int .i64 0, .string ⟨#[]⟩, .bool false] 27)).drewN n) _ from by
            have := refSum_c (some ⟨G, o, none⟩) cap (l.take (z - 4)) (by rw [List.length_take]; unfold maxLen; omega) ((w.alloc (.cells #[.int .u32 0, .int .u32 0, .int .i64 0, .string ⟨#[]⟩, .bool false] 27)).drewN n) (.inr ⟨G, o, rfl, by
              have hr := rangeAt_take (HR.out n) (z - 4)
              rw [show bytesV (l.take (z - 4)) = (bytesV l).take (z - 4) by simp [bytesV, List.map_take]]; exact hr⟩)
            rw [List.length_take, Nat.min_eq_left (by omega)] at this
            exact this)
          have HEND := Lib.hid (fun (n : Nat) => HN.out (z - 4) n (by omega))
          clear HU5
          have hclt := crc_lt (l.take (z - 4))
          have hnlt := numb_lt l (z - 4)
          by_cases hcr : crc (l.take (z - 4)) = numb l (z - 4)
          · have HU := Lib.hid (HU6.out.trans (if_neg (fun e => e hcr)))
            have i8lt := numb_lt l 8
            have i12lt := numb_lt l 12
            have HCR := Lib.hid hcr
            rw [← hcr] at HEND hnlt
            obtain ⟨bd, hbd⟩ : ∃ b, bodyOf l 24 (z - 4) = b := ⟨_, rfl⟩
            rw [hbd] at HU
            have H8W := Lib.hid (fun (W : World) (hW : Below w.heap.size w W) => refNumber_at G o cap l 8 (by omega) hl W (HRW.out W hW))
            have H12W := Lib.hid (fun (W : World) (hW : Below w.heap.size w W) => refNumber_at G o cap l 12 (by omega) hl W (HRW.out W hW))
            have HCV := Lib.hid (fun (W : World) (hW : Below w.heap.size w W) => show (convert 28 9 (.slice (some ⟨G, o + 24, none⟩) (z - 4 - 24) (cap - 24))).run Tryd.prog W = .ok (.string bd) W by rw [← hbd]; exact conv_bytes (HRW.out W hW) 24 (z - 4) (z - 4 - 24) (cap - 24) (by omega) (by omega) rfl)
            have nc8 : ¬ cap = 8 := by omega
            have nc12 : ¬ cap = 12 := by omega
            have nc24 : ¬ cap = 24 := by omega
            have li8 : (8 : Int) ≤ (l.length : Int) := by omega
            have li12 : (12 : Int) ≤ (l.length : Int) := by omega
            have zi24 : (24 : Int) ≤ (z : Int) - 4 := by omega
            have zil : (z : Int) ≤ (l.length : Int) := by omega
            have zic : (z : Int) ≤ (cap : Int) := by omega
            have wz : IntKind.i64.wrap (z : Int) = (z : Int) := IntWalk.i64_in _ (by omega)
            have z28 : (28 : Int) ≤ (z : Int) := by omega
            have zb28 : decide ((z : Int) < 28) = false := decide_eq_false (by omega)
            clear HU6 hcr hbd
            generalize crc (l.take (z - 4)) = cr at *
            generalize numb l 16 = kd at *
            generalize numb l 20 = fl at *
            subst f1
            generalize numb l 8 = i8 at *
            generalize numb l 12 = i12 at *
            have wk : IntKind.i64.wrap (kd : Int) = (kd : Int) := IntWalk.i64_in _ (by omega)
            go_wp2
            go_quiet ((first | (go_at_call 19; first | exact quietS (HSUM.out _) | exact quietS2 (HSUM.out _)) | (go_at_call 53; first | exact quietD (HEND.out _) | exact quietD2 (HEND.out _))))
            go_wp2
            go_region_held3 (fun W => (convert 28 9 (.slice (some ⟨G, o + 24, none⟩) (z - 4 - 24) (cap - 24))).run Tryd.prog W = .ok (.string bd) W)
              (exact HCV.out _ (by repeat (first | with_reducible exact Below.refl _ _ | with_reducible refine below_drewN ?_ _ | with_reducible refine Below.drew ?_ | with_reducible refine Below.alloc ?_ (by first | (simp; done) | (simp; omega)) _ | with_reducible refine Below.setCell ?_ (by first | (simp; done) | (simp; omega)) _)))
              ((first | (go_at_call 53; with_reducible refine (H8W.out _ (by repeat (first | with_reducible exact Below.refl _ _ | with_reducible refine below_drewN ?_ _ | with_reducible refine Below.drew ?_ | with_reducible refine Below.alloc ?_ (by first | (simp; done) | (simp; omega)) _ | with_reducible refine Below.setCell ?_ (by first | (simp; done) | (simp; omega)) _))).mono ?_; rintro e wz ⟨rfl, q8, rfl⟩) | (go_at_call 53; with_reducible refine (H12W.out _ (by repeat (first | with_reducible exact Below.refl _ _ | with_reducible refine below_drewN ?_ _ | with_reducible refine Below.drew ?_ | with_reducible refine Below.alloc ?_ (by first | (simp; done) | (simp; omega)) _ | with_reducible refine Below.setCell ?_ (by first | (simp; done) | (simp; omega)) _))).mono ?_; rintro e wz ⟨rfl, q12, rfl⟩)))
            have HH := Lib.hid (show ((w.alloc (.cells #[.int .u32 0, .int .u32 0, .int .i64 0, .string ⟨#[]⟩, .bool false] 27)).drewN (m + m1 + m2 + m3 + nq + 1 + q8 + q12)).heap[w.heap.size]? = some (.cells #[.int .u32 0, .int .u32 0, .int .i64 0, .string ⟨#[]⟩, .bool false] 27 (0, 0)) from by first | exact heap_alloc_new w _ | (rw [heap_drewN]; exact heap_alloc_new w _))
            go_wp2
            (try simp only [Exit.inBlock, Exit.then])
            refine bodyPost_ret (results_cell2 rfl _ _ w.heap.size 27 _ (0, 0) _ (by rfl) (set5 HH.out) Tryd.underlying27 rfl (by kernel_rfl)) rfl ?_
            exact ⟨by rw [HU.out]; rfl, below_set5 (by repeat (first | with_reducible exact Below.refl _ _ | with_reducible refine below_drewN ?_ _ | with_reducible refine Below.drew ?_ | with_reducible refine Below.alloc ?_ (by first | (simp; done) | (simp; omega)) _ | with_reducible refine Below.setCell ?_ (by first | (simp; done) | (simp; omega)) _)) (Nat.le_refl _)⟩
          · have HU := Lib.hid (HU6.out.trans (if_pos hcr))
            have hbn : ((crc (l.take (z - 4)) : Int) != (numb l (z - 4) : Int)) = true := by rw [bne_iff_ne]; omega
            generalize crc (l.take (z - 4)) = cr at *
            generalize numb l (z - 4) = nb at *
            generalize numb l 16 = kd at *
            generalize numb l 20 = fl at *
            subst f1
            clear HU6 hcr
            go_wp2
            go_quiet ((first | (go_at_call 19; first | exact quietS (HSUM.out _) | exact quietS2 (HSUM.out _)) | (go_at_call 53; first | exact quietD (HEND.out _) | exact quietD2 (HEND.out _))))
            have HH := Lib.hid (show ((w.alloc (.cells #[.int .u32 0, .int .u32 0, .int .i64 0, .string ⟨#[]⟩, .bool false] 27)).drewN (m + m1 + m2 + m3 + nq)).heap[w.heap.size]? = some (.cells #[.int .u32 0, .int .u32 0, .int .i64 0, .string ⟨#[]⟩, .bool false] 27 (0, 0)) from by first | exact heap_alloc_new w _ | (rw [heap_drewN]; exact heap_alloc_new w _))
            go_wp2
            (try simp only [Exit.inBlock, Exit.then])
            refine bodyPost_ret (results_cell2 rfl _ _ w.heap.size 27 _ (0, 0) _ (by rfl) (set5 HH.out) Tryd.underlying27 rfl (by kernel_rfl)) rfl ?_
            exact ⟨by rw [HU.out]; rfl, below_set5 (by repeat (first | with_reducible exact Below.refl _ _ | with_reducible refine below_drewN ?_ _ | with_reducible refine Below.drew ?_ | with_reducible refine Below.alloc ?_ (by first | (simp; done) | (simp; omega)) _ | with_reducible refine Below.setCell ?_ (by first | (simp; done) | (simp; omega)) _)) (Nat.le_refl _)⟩
        · have HU := Lib.hid (HU4.out.trans (if_neg f1))
          have f0 : numb l 20 = 0 := by omega
          clear HU4 f1 zs zn zp zl zc
          have i8lt := numb_lt l 8
          have i12lt := numb_lt l 12
          obtain ⟨bd, hbd⟩ : ∃ b, bodyOf l 24 z = b := ⟨_, rfl⟩
          rw [hbd] at HU
          have H8W := Lib.hid (fun (W : World) (hW : Below w.heap.size w W) => refNumber_at G o cap l 8 (by omega) hl W (HRW.out W hW))
          have H12W := Lib.hid (fun (W : World) (hW : Below w.heap.size w W) => refNumber_at G o cap l 12 (by omega) hl W (HRW.out W hW))
          have HBD := Lib.hid hbd
          clear hbd
          by_cases hcap : cap = 24
          · subst hcap
            obtain rfl : z = 24 := by omega
            have hlen := Lib.hid (show l.length = 24 by omega)
            have HCV := Lib.hid (fun (W : World) (hW : Below w.heap.size w W) => show (convert 28 9 (.slice (some ⟨G, o, none⟩) (24 - 24) (24 - 24))).run Tryd.prog W = .ok (.string bd) W by
              rw [← HBD.out, show bodyOf l 24 24 = ⟨#[]⟩ by unfold bodyOf; rw [List.drop_of_length_le (by rw [List.length_take]; omega)]]
              exact run_convert_bytes_nil0 W G o)
            have li8 : (8 : Int) ≤ (l.length : Int) := by omega
            have li12 : (12 : Int) ≤ (l.length : Int) := by omega
            have li24 : (24 : Int) ≤ (l.length : Int) := by omega
            generalize numb l 16 = kd at *
            generalize numb l 20 = fl at *
            subst f0
            generalize numb l 8 = i8 at *
            generalize numb l 12 = i12 at *
            have wk : IntKind.i64.wrap (kd : Int) = (kd : Int) := IntWalk.i64_in _ (by omega)
            go_wp2
            go_quiet (fail)
            go_wp2
            go_region_held3 (fun W => (convert 28 9 (.slice (some ⟨G, o, none⟩) (24 - 24) (24 - 24))).run Tryd.prog W = .ok (.string bd) W)
              (exact HCV.out _ (by repeat (first | with_reducible exact Below.refl _ _ | with_reducible refine below_drewN ?_ _ | with_reducible refine Below.drew ?_ | with_reducible refine Below.alloc ?_ (by first | (simp; done) | (simp; omega)) _ | with_reducible refine Below.setCell ?_ (by first | (simp; done) | (simp; omega)) _)))
              ((first | (go_at_call 53; with_reducible refine (H8W.out _ (by repeat (first | with_reducible exact Below.refl _ _ | with_reducible refine below_drewN ?_ _ | with_reducible refine Below.drew ?_ | with_reducible refine Below.alloc ?_ (by first | (simp; done) | (simp; omega)) _ | with_reducible refine Below.setCell ?_ (by first | (simp; done) | (simp; omega)) _))).mono ?_; rintro e wz ⟨rfl, q8, rfl⟩) | (go_at_call 53; with_reducible refine (H12W.out _ (by repeat (first | with_reducible exact Below.refl _ _ | with_reducible refine below_drewN ?_ _ | with_reducible refine Below.drew ?_ | with_reducible refine Below.alloc ?_ (by first | (simp; done) | (simp; omega)) _ | with_reducible refine Below.setCell ?_ (by first | (simp; done) | (simp; omega)) _))).mono ?_; rintro e wz ⟨rfl, q12, rfl⟩)))
            have HH := Lib.hid (show ((w.alloc (.cells #[.int .u32 0, .int .u32 0, .int .i64 0, .string ⟨#[]⟩, .bool false] 27)).drewN (m + m1 + m2 + m3 + nq + 1 + q8 + q12)).heap[w.heap.size]? = some (.cells #[.int .u32 0, .int .u32 0, .int .i64 0, .string ⟨#[]⟩, .bool false] 27 (0, 0)) from by first | exact heap_alloc_new w _ | (rw [heap_drewN]; exact heap_alloc_new w _))
            go_wp2
            (try simp only [Exit.inBlock, Exit.then])
            refine bodyPost_ret (results_cell2 rfl _ _ w.heap.size 27 _ (0, 0) _ (by rfl) (set5 HH.out) Tryd.underlying27 rfl (by kernel_rfl)) rfl ?_
            exact ⟨by rw [HU.out]; rfl, below_set5 (by repeat (first | with_reducible exact Below.refl _ _ | with_reducible refine below_drewN ?_ _ | with_reducible refine Below.drew ?_ | with_reducible refine Below.alloc ?_ (by first | (simp; done) | (simp; omega)) _ | with_reducible refine Below.setCell ?_ (by first | (simp; done) | (simp; omega)) _)) (Nat.le_refl _)⟩
          · have HCV := Lib.hid (fun (W : World) (hW : Below w.heap.size w W) => show (convert 28 9 (.slice (some ⟨G, o + 24, none⟩) (z - 24) (cap - 24))).run Tryd.prog W = .ok (.string bd) W by rw [← HBD.out]; exact conv_bytes (HRW.out W hW) 24 z (z - 24) (cap - 24) (by omega) (by omega) rfl)
            have hcap24 : 24 < cap := by omega
            have nc8 : ¬ cap = 8 := by omega
            have nc12 : ¬ cap = 12 := by omega
            have nc24 : ¬ cap = 24 := by omega
            have li8 : (8 : Int) ≤ (l.length : Int) := by omega
            have li12 : (12 : Int) ≤ (l.length : Int) := by omega
            have zi24 : (24 : Int) ≤ (z : Int) := by omega
            have zil : (z : Int) ≤ (l.length : Int) := by omega
            have zic : (z : Int) ≤ (cap : Int) := by omega
            have wz : IntKind.i64.wrap (z : Int) = (z : Int) := IntWalk.i64_in _ (by omega)
            generalize numb l 16 = kd at *
            generalize numb l 20 = fl at *
            subst f0
            generalize numb l 8 = i8 at *
            generalize numb l 12 = i12 at *
            have wk : IntKind.i64.wrap (kd : Int) = (kd : Int) := IntWalk.i64_in _ (by omega)
            go_wp2
            go_quiet (fail)
            go_wp2
            go_region_held3 (fun W => (convert 28 9 (.slice (some ⟨G, o + 24, none⟩) (z - 24) (cap - 24))).run Tryd.prog W = .ok (.string bd) W)
              (exact HCV.out _ (by repeat (first | with_reducible exact Below.refl _ _ | with_reducible refine below_drewN ?_ _ | with_reducible refine Below.drew ?_ | with_reducible refine Below.alloc ?_ (by first | (simp; done) | (simp; omega)) _ | with_reducible refine Below.setCell ?_ (by first | (simp; done) | (simp; omega)) _)))
              ((first | (go_at_call 53; with_reducible refine (H8W.out _ (by repeat (first | with_reducible exact Below.refl _ _ | with_reducible refine below_drewN ?_ _ | with_reducible refine Below.drew ?_ | with_reducible refine Below.alloc ?_ (by first | (simp; done) | (simp; omega)) _ | with_reducible refine Below.setCell ?_ (by first | (simp; done) | (simp; omega)) _))).mono ?_; rintro e wz ⟨rfl, q8, rfl⟩) | (go_at_call 53; with_reducible refine (H12W.out _ (by repeat (first | with_reducible exact Below.refl _ _ | with_reducible refine below_drewN ?_ _ | with_reducible refine Below.drew ?_ | with_reducible refine Below.alloc ?_ (by first | (simp; done) | (simp; omega)) _ | with_reducible refine Below.setCell ?_ (by first | (simp; done) | (simp; omega)) _))).mono ?_; rintro e wz ⟨rfl, q12, rfl⟩)))
            have HH := Lib.hid (show ((w.alloc (.cells #[.int .u32 0, .int .u32 0, .int .i64 0, .string ⟨#[]⟩, .bool false] 27)).drewN (m + m1 + m2 + m3 + nq + 1 + q8 + q12)).heap[w.heap.size]? = some (.cells #[.int .u32 0, .int .u32 0, .int .i64 0, .string ⟨#[]⟩, .bool false] 27 (0, 0)) from by first | exact heap_alloc_new w _ | (rw [heap_drewN]; exact heap_alloc_new w _))
            go_wp2
            (try simp only [Exit.inBlock, Exit.then])
            refine bodyPost_ret (results_cell2 rfl _ _ w.heap.size 27 _ (0, 0) _ (by rfl) (set5 HH.out) Tryd.underlying27 rfl (by kernel_rfl)) rfl ?_
            exact ⟨by rw [HU.out]; rfl, below_set5 (by repeat (first | with_reducible exact Below.refl _ _ | with_reducible refine below_drewN ?_ _ | with_reducible refine Below.drew ?_ | with_reducible refine Below.alloc ?_ (by first | (simp; done) | (simp; omega)) _ | with_reducible refine Below.setCell ?_ (by first | (simp; done) | (simp; omega)) _)) (Nat.le_refl _)⟩
end Go.Proofs.YtkpickojeghppaaDoor
