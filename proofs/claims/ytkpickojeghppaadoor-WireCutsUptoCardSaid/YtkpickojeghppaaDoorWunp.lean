/- The walk of Unpack, the program's. Conditions: the bytes are at most 2 to the 40. -/
import Derived.Test.YtkpickojeghppaaDoorWun
namespace Go.Proofs.YtkpickojeghppaaDoor
open Go.RowKit
theorem magic_ext (n : Nat) (h : n ≤ 4) : ((⟨#[100, 107, 116, 49]⟩ : ByteArray).extract 0 n).toList = magicL.take n := by
  rw [ByteArray.toList_eq]
  have : n = 0 ∨ n = 1 ∨ n = 2 ∨ n = 3 ∨ n = 4 := by omega
  rcases this with rfl | rfl | rfl | rfl | rfl <;> rfl
theorem head_list (l : List UInt8) (n : Nat) : (bodyOf l 0 n).toList = l.take n := by rw [ByteArray.toList_eq]; simp [bodyOf]
/-- as far as they go, the first bytes are the magic ones -/
def headOk (l : List UInt8) (n : Nat) : Bool := l.take n == magicL.take n
theorem head_cmp (l : List UInt8) (n : Nat) (h : n ≤ 4) : ((bodyOf l 0 n).toList == ((⟨#[100, 107, 116, 49]⟩ : ByteArray).extract 0 n).toList) = headOk l n := by rw [magic_ext n h, head_list]; rfl
theorem unpack_bad {l : List UInt8} {n : Nat} (hn : n = min l.length 4) (h : headOk l n = false) : unpack l = .bad 280 := by
  unfold unpack
  rw [if_pos]
  unfold headOk at h
  rw [beq_eq_false_iff_ne] at h
  intro e
  apply h
  subst hn
  rcases Nat.lt_or_ge l.length 4 with h4 | h4
  · rw [Nat.min_eq_left (by omega), List.take_length]
    rw [List.take_of_length_le (by omega)] at e
    exact e
  · rw [Nat.min_eq_right h4]
    rw [e, show magicL.take 4 = magicL from rfl, List.take_of_length_le (by simpa using h4)]
    rfl
theorem unpack_head {l : List UInt8} {n : Nat} (hn : n = min l.length 4) (h : headOk l n = true) : unpack l = (if l.length < 8 then .bad 3
  else if 131072 < numb l 4 then .bad 1
  else if numb l 4 < 24 then .bad 280
  else if l.length < numb l 4 then .bad 3
  else whole l (numb l 4)) := by
  unfold unpack
  rw [if_neg]
  unfold headOk at h
  rw [beq_iff_eq] at h
  intro e
  apply e
  subst hn
  rcases Nat.lt_or_ge l.length 4 with h4 | h4
  · rw [Nat.min_eq_left (by omega), List.take_length] at h
    rw [List.take_of_length_le (by omega)]
    exact h
  · rw [Nat.min_eq_right h4] at h
    rw [h, List.take_of_length_le (l := ([100, 107, 116, 49] : List UInt8)) (by simpa using h4)]
    rfl
set_option maxRecDepth 20000 in
set_option maxHeartbeats 4000000 in
theorem unpack_1 (G o cap : Nat) (l : List UInt8) (hlen : l.length = 1) (hc : 1 ≤ cap) (w : World) (h : w.rangeAt G o (bytesV l)) :
    Calls Tryd.prog 15 #[.slice (some ⟨G, o, none⟩) 1 cap] w (UnPost (unpack l) w) := by
  have hb0 : Below w.heap.size w (w.alloc (.cells #[.int .u32 0, .int .u32 0, .int .i64 0, .string ⟨#[]⟩, .bool false] 27)) := (Below.refl _ _).alloc (Nat.le_refl _) _
  have HCV := Lib.hid (fun (c : Nat) (W : World) (hW : Below w.heap.size w W) => conv_bytes (fun j v hj => cell_below hW (h j v hj) : W.rangeAt G o (bytesV l)) 0 1 1 c (by omega) (by omega) rfl)
  have kcv := fun (c n : Nat) => HCV.out c ((w.alloc (.cells #[.int .u32 0, .int .u32 0, .int .i64 0, .string ⟨#[]⟩, .bool false] 27)).drewN n) (below_drewN hb0 n)
  have kcv0 := fun (c : Nat) => HCV.out c (w.alloc (.cells #[.int .u32 0, .int .u32 0, .int .i64 0, .string ⟨#[]⟩, .bool false] 27)) hb0
  have hcmp := head_cmp l 1 (by decide)
  generalize bodyOf l 0 1 = hd at *
  simp only [Nat.add_zero] at kcv kcv0
  clear h
  cases hk : headOk l 1 with
  | false =>
    have HU := Lib.hid (unpack_bad (by rw [hlen]; rfl) hk)
    rw [hk] at hcmp
    clear hlen hk
    go_enter Tryd.func15, Tryd.ntmps15
    go_wp2
    go_quiet (fail)
    have HH := Lib.hid (show (((w.alloc (.cells #[.int .u32 0, .int .u32 0, .int .i64 0, .string ⟨#[]⟩, .bool false] 27)).drewN nq)).heap[w.heap.size]? = some (.cells #[.int .u32 0, .int .u32 0, .int .i64 0, .string ⟨#[]⟩, .bool false] 27 (0, 0)) from by first | exact heap_alloc_new w _ | (rw [heap_drewN]; exact heap_alloc_new w _))
    go_wp2
    (try simp only [Exit.inBlock, Exit.then])
    refine bodyPost_ret (results_cell2 rfl _ _ w.heap.size 27 _ (0, 0) _ (by rfl) (set5 HH.out) Tryd.underlying27 rfl (by kernel_rfl)) rfl ?_
    exact ⟨by rw [HU.out]; rfl, below_set5 (by repeat (first | with_reducible exact Below.refl _ _ | with_reducible refine below_drewN ?_ _ | with_reducible refine Below.drew ?_ | with_reducible refine Below.alloc ?_ (by first | (simp; done) | (simp; omega)) _ | with_reducible refine Below.setCell ?_ (by first | (simp; done) | (simp; omega)) _)) (Nat.le_refl _)⟩
  | true =>
    have HU := Lib.hid ((unpack_head (by rw [hlen]; rfl) hk).trans (if_pos (by omega)))
    rw [hk] at hcmp
    clear hlen hk
    go_enter Tryd.func15, Tryd.ntmps15
    go_wp2
    go_quiet (fail)
    have HH := Lib.hid (show (((w.alloc (.cells #[.int .u32 0, .int .u32 0, .int .i64 0, .string ⟨#[]⟩, .bool false] 27)).drewN nq)).heap[w.heap.size]? = some (.cells #[.int .u32 0, .int .u32 0, .int .i64 0, .string ⟨#[]⟩, .bool false] 27 (0, 0)) from by first | exact heap_alloc_new w _ | (rw [heap_drewN]; exact heap_alloc_new w _))
    go_wp2
    (try simp only [Exit.inBlock, Exit.then])
    refine bodyPost_ret (results_cell2 rfl _ _ w.heap.size 27 _ (0, 0) _ (by rfl) (set5 HH.out) Tryd.underlying27 rfl (by kernel_rfl)) rfl ?_
    exact ⟨by rw [HU.out]; rfl, below_set5 (by repeat (first | with_reducible exact Below.refl _ _ | with_reducible refine below_drewN ?_ _ | with_reducible refine Below.drew ?_ | with_reducible refine Below.alloc ?_ (by first | (simp; done) | (simp; omega)) _ | with_reducible refine Below.setCell ?_ (by first | (simp; done) | (simp; omega)) _)) (Nat.le_refl _)⟩
set_option maxRecDepth 20000 in
set_option maxHeartbeats 4000000 in
theorem unpack_2 (G o cap : Nat) (l : List UInt8) (hlen : l.length = 2) (hc : 2 ≤ cap) (w : World) (h : w.rangeAt G o (bytesV l)) :
    Calls Tryd.prog 15 #[.slice (some ⟨G, o, none⟩) 2 cap] w (UnPost (unpack l) w) := by
  have hb0 : Below w.heap.size w (w.alloc (.cells #[.int .u32 0, .int .u32 0, .int .i64 0, .string ⟨#[]⟩, .bool false] 27)) := (Below.refl _ _).alloc (Nat.le_refl _) _
  have HCV := Lib.hid (fun (c : Nat) (W : World) (hW : Below w.heap.size w W) => conv_bytes (fun j v hj => cell_below hW (h j v hj) : W.rangeAt G o (bytesV l)) 0 2 2 c (by omega) (by omega) rfl)
  have kcv := fun (c n : Nat) => HCV.out c ((w.alloc (.cells #[.int .u32 0, .int .u32 0, .int .i64 0, .string ⟨#[]⟩, .bool false] 27)).drewN n) (below_drewN hb0 n)
  have kcv0 := fun (c : Nat) => HCV.out c (w.alloc (.cells #[.int .u32 0, .int .u32 0, .int .i64 0, .string ⟨#[]⟩, .bool false] 27)) hb0
  have hcmp := head_cmp l 2 (by decide)
  generalize bodyOf l 0 2 = hd at *
  simp only [Nat.add_zero] at kcv kcv0
  clear h
  cases hk : headOk l 2 with
  | false =>
    have HU := Lib.hid (unpack_bad (by rw [hlen]; rfl) hk)
    rw [hk] at hcmp
    clear hlen hk
    go_enter Tryd.func15, Tryd.ntmps15
    go_wp2
    go_quiet (fail)
    have HH := Lib.hid (show (((w.alloc (.cells #[.int .u32 0, .int .u32 0, .int .i64 0, .string ⟨#[]⟩, .bool false] 27)).drewN nq)).heap[w.heap.size]? = some (.cells #[.int .u32 0, .int .u32 0, .int .i64 0, .string ⟨#[]⟩, .bool false] 27 (0, 0)) from by first | exact heap_alloc_new w _ | (rw [heap_drewN]; exact heap_alloc_new w _))
    go_wp2
    (try simp only [Exit.inBlock, Exit.then])
    refine bodyPost_ret (results_cell2 rfl _ _ w.heap.size 27 _ (0, 0) _ (by rfl) (set5 HH.out) Tryd.underlying27 rfl (by kernel_rfl)) rfl ?_
    exact ⟨by rw [HU.out]; rfl, below_set5 (by repeat (first | with_reducible exact Below.refl _ _ | with_reducible refine below_drewN ?_ _ | with_reducible refine Below.drew ?_ | with_reducible refine Below.alloc ?_ (by first | (simp; done) | (simp; omega)) _ | with_reducible refine Below.setCell ?_ (by first | (simp; done) | (simp; omega)) _)) (Nat.le_refl _)⟩
  | true =>
    have HU := Lib.hid ((unpack_head (by rw [hlen]; rfl) hk).trans (if_pos (by omega)))
    rw [hk] at hcmp
    clear hlen hk
    go_enter Tryd.func15, Tryd.ntmps15
    go_wp2
    go_quiet (fail)
    have HH := Lib.hid (show (((w.alloc (.cells #[.int .u32 0, .int .u32 0, .int .i64 0, .string ⟨#[]⟩, .bool false] 27)).drewN nq)).heap[w.heap.size]? = some (.cells #[.int .u32 0, .int .u32 0, .int .i64 0, .string ⟨#[]⟩, .bool false] 27 (0, 0)) from by first | exact heap_alloc_new w _ | (rw [heap_drewN]; exact heap_alloc_new w _))
    go_wp2
    (try simp only [Exit.inBlock, Exit.then])
    refine bodyPost_ret (results_cell2 rfl _ _ w.heap.size 27 _ (0, 0) _ (by rfl) (set5 HH.out) Tryd.underlying27 rfl (by kernel_rfl)) rfl ?_
    exact ⟨by rw [HU.out]; rfl, below_set5 (by repeat (first | with_reducible exact Below.refl _ _ | with_reducible refine below_drewN ?_ _ | with_reducible refine Below.drew ?_ | with_reducible refine Below.alloc ?_ (by first | (simp; done) | (simp; omega)) _ | with_reducible refine Below.setCell ?_ (by first | (simp; done) | (simp; omega)) _)) (Nat.le_refl _)⟩
set_option maxRecDepth 20000 in
set_option maxHeartbeats 4000000 in
theorem unpack_3 (G o cap : Nat) (l : List UInt8) (hlen : l.length = 3) (hc : 3 ≤ cap) (w : World) (h : w.rangeAt G o (bytesV l)) :
    Calls Tryd.prog 15 #[.slice (some ⟨G, o, none⟩) 3 cap] w (UnPost (unpack l) w) := by
  have hb0 : Below w.heap.size w (w.alloc (.cells #[.int .u32 0, .int .u32 0, .int .i64 0, .string ⟨#[]⟩, .bool false] 27)) := (Below.refl _ _).alloc (Nat.le_refl _) _
  have HCV := Lib.hid (fun (c : Nat) (W : World) (hW : Below w.heap.size w W) => conv_bytes (fun j v hj => cell_below hW (h j v hj) : W.rangeAt G o (bytesV l)) 0 3 3 c (by omega) (by omega) rfl)
  have kcv := fun (c n : Nat) => HCV.out c ((w.alloc (.cells #[.int .u32 0, .int .u32 0, .int .i64 0, .string ⟨#[]⟩, .bool false] 27)).drewN n) (below_drewN hb0 n)
  have kcv0 := fun (c : Nat) => HCV.out c (w.alloc (.cells #[.int .u32 0, .int .u32 0, .int .i64 0, .string ⟨#[]⟩, .bool false] 27)) hb0
  have hcmp := head_cmp l 3 (by decide)
  generalize bodyOf l 0 3 = hd at *
  simp only [Nat.add_zero] at kcv kcv0
  clear h
  cases hk : headOk l 3 with
  | false =>
    have HU := Lib.hid (unpack_bad (by rw [hlen]; rfl) hk)
    rw [hk] at hcmp
    clear hlen hk
    go_enter Tryd.func15, Tryd.ntmps15
    go_wp2
    go_quiet (fail)
    have HH := Lib.hid (show (((w.alloc (.cells #[.int .u32 0, .int .u32 0, .int .i64 0, .string ⟨#[]⟩, .bool false] 27)).drewN nq)).heap[w.heap.size]? = some (.cells #[.int .u32 0, .int .u32 0, .int .i64 0, .string ⟨#[]⟩, .bool false] 27 (0, 0)) from by first | exact heap_alloc_new w _ | (rw [heap_drewN]; exact heap_alloc_new w _))
    go_wp2
    (try simp only [Exit.inBlock, Exit.then])
    refine bodyPost_ret (results_cell2 rfl _ _ w.heap.size 27 _ (0, 0) _ (by rfl) (set5 HH.out) Tryd.underlying27 rfl (by kernel_rfl)) rfl ?_
    exact ⟨by rw [HU.out]; rfl, below_set5 (by repeat (first | with_reducible exact Below.refl _ _ | with_reducible refine below_drewN ?_ _ | with_reducible refine Below.drew ?_ | with_reducible refine Below.alloc ?_ (by first | (simp; done) | (simp; omega)) _ | with_reducible refine Below.setCell ?_ (by first | (simp; done) | (simp; omega)) _)) (Nat.le_refl _)⟩
  | true =>
    have HU := Lib.hid ((unpack_head (by rw [hlen]; rfl) hk).trans (if_pos (by omega)))
    rw [hk] at hcmp
    clear hlen hk
    go_enter Tryd.func15, Tryd.ntmps15
    go_wp2
    go_quiet (fail)
    have HH := Lib.hid (show (((w.alloc (.cells #[.int .u32 0, .int .u32 0, .int .i64 0, .string ⟨#[]⟩, .bool false] 27)).drewN nq)).heap[w.heap.size]? = some (.cells #[.int .u32 0, .int .u32 0, .int .i64 0, .string ⟨#[]⟩, .bool false] 27 (0, 0)) from by first | exact heap_alloc_new w _ | (rw [heap_drewN]; exact heap_alloc_new w _))
    go_wp2
    (try simp only [Exit.inBlock, Exit.then])
    refine bodyPost_ret (results_cell2 rfl _ _ w.heap.size 27 _ (0, 0) _ (by rfl) (set5 HH.out) Tryd.underlying27 rfl (by kernel_rfl)) rfl ?_
    exact ⟨by rw [HU.out]; rfl, below_set5 (by repeat (first | with_reducible exact Below.refl _ _ | with_reducible refine below_drewN ?_ _ | with_reducible refine Below.drew ?_ | with_reducible refine Below.alloc ?_ (by first | (simp; done) | (simp; omega)) _ | with_reducible refine Below.setCell ?_ (by first | (simp; done) | (simp; omega)) _)) (Nat.le_refl _)⟩
set_option maxRecDepth 20000 in
set_option maxHeartbeats 4000000 in
theorem unpack_4 (G o cap : Nat) (l : List UInt8) (hlen : l.length = 4) (hc : 4 ≤ cap) (w : World) (h : w.rangeAt G o (bytesV l)) :
    Calls Tryd.prog 15 #[.slice (some ⟨G, o, none⟩) 4 cap] w (UnPost (unpack l) w) := by
  have hb0 : Below w.heap.size w (w.alloc (.cells #[.int .u32 0, .int .u32 0, .int .i64 0, .string ⟨#[]⟩, .bool false] 27)) := (Below.refl _ _).alloc (Nat.le_refl _) _
  have HCV := Lib.hid (fun (c : Nat) (W : World) (hW : Below w.heap.size w W) => conv_bytes (fun j v hj => cell_below hW (h j v hj) : W.rangeAt G o (bytesV l)) 0 4 4 c (by omega) (by omega) rfl)
  have kcv := fun (c n : Nat) => HCV.out c ((w.alloc (.cells #[.int .u32 0, .int .u32 0, .int .i64 0, .string ⟨#[]⟩, .bool false] 27)).drewN n) (below_drewN hb0 n)
  have kcv0 := fun (c : Nat) => HCV.out c (w.alloc (.cells #[.int .u32 0, .int .u32 0, .int .i64 0, .string ⟨#[]⟩, .bool false] 27)) hb0
  have hcmp := head_cmp l 4 (by decide)
  generalize bodyOf l 0 4 = hd at *
  simp only [Nat.add_zero] at kcv kcv0
  clear h
  cases hk : headOk l 4 with
  | false =>
    have HU := Lib.hid (unpack_bad (by rw [hlen]; rfl) hk)
    rw [hk] at hcmp
    clear hlen hk
    go_enter Tryd.func15, Tryd.ntmps15
    go_wp2
    go_quiet (fail)
    have HH := Lib.hid (show (((w.alloc (.cells #[.int .u32 0, .int .u32 0, .int .i64 0, .string ⟨#[]⟩, .bool false] 27)).drewN nq)).heap[w.heap.size]? = some (.cells #[.int .u32 0, .int .u32 0, .int .i64 0, .string ⟨#[]⟩, .bool false] 27 (0, 0)) from by first | exact heap_alloc_new w _ | (rw [heap_drewN]; exact heap_alloc_new w _))
    go_wp2
    (try simp only [Exit.inBlock, Exit.then])
    refine bodyPost_ret (results_cell2 rfl _ _ w.heap.size 27 _ (0, 0) _ (by rfl) (set5 HH.out) Tryd.underlying27 rfl (by kernel_rfl)) rfl ?_
    exact ⟨by rw [HU.out]; rfl, below_set5 (by repeat (first | with_reducible exact Below.refl _ _ | with_reducible refine below_drewN ?_ _ | with_reducible refine Below.drew ?_ | with_reducible refine Below.alloc ?_ (by first | (simp; done) | (simp; omega)) _ | with_reducible refine Below.setCell ?_ (by first | (simp; done) | (simp; omega)) _)) (Nat.le_refl _)⟩
  | true =>
    have HU := Lib.hid ((unpack_head (by rw [hlen]; rfl) hk).trans (if_pos (by omega)))
    rw [hk] at hcmp
    clear hlen hk
    go_enter Tryd.func15, Tryd.ntmps15
    go_wp2
    go_quiet (fail)
    have HH := Lib.hid (show (((w.alloc (.cells #[.int .u32 0, .int .u32 0, .int .i64 0, .string ⟨#[]⟩, .bool false] 27)).drewN nq)).heap[w.heap.size]? = some (.cells #[.int .u32 0, .int .u32 0, .int .i64 0, .string ⟨#[]⟩, .bool false] 27 (0, 0)) from by first | exact heap_alloc_new w _ | (rw [heap_drewN]; exact heap_alloc_new w _))
    go_wp2
    (try simp only [Exit.inBlock, Exit.then])
    refine bodyPost_ret (results_cell2 rfl _ _ w.heap.size 27 _ (0, 0) _ (by rfl) (set5 HH.out) Tryd.underlying27 rfl (by kernel_rfl)) rfl ?_
    exact ⟨by rw [HU.out]; rfl, below_set5 (by repeat (first | with_reducible exact Below.refl _ _ | with_reducible refine below_drewN ?_ _ | with_reducible refine Below.drew ?_ | with_reducible refine Below.alloc ?_ (by first | (simp; done) | (simp; omega)) _ | with_reducible refine Below.setCell ?_ (by first | (simp; done) | (simp; omega)) _)) (Nat.le_refl _)⟩
set_option maxRecDepth 20000 in
set_option maxHeartbeats 4000000 in
theorem unpack_0 (A : Option Addr) (cap : Nat) (w : World) :
    Calls Tryd.prog 15 #[.slice A 0 cap] w (UnPost (unpack []) w) := by
  have hb0 : Below w.heap.size w (w.alloc (.cells #[.int .u32 0, .int .u32 0, .int .i64 0, .string ⟨#[]⟩, .bool false] 27)) := (Below.refl _ _).alloc (Nat.le_refl _) _
  have HU := Lib.hid (show unpack [] = .bad 3 from rfl)
  have kcv : ∀ (W : World), (convert 28 9 (.slice A 0 cap)).run Tryd.prog W = .ok (.string ⟨#[]⟩) W := by
    intro W
    cases A with
    | none => exact run_convert_bytes_nil W 28 5 bytTy.slice (by kernel_rfl) 0 cap 9 Tryd.underlying9
    | some p => exact run_convert_bytes_back (P := Tryd.prog) W 28 9 5 p cap [] bytTy.slice (by kernel_rfl) Tryd.underlying9 (fun j hj => by simp at hj)
  have hcmp : (((⟨#[]⟩ : ByteArray)).toList == ((⟨#[100, 107, 116, 49]⟩ : ByteArray).extract 0 0).toList) = true := by rw [magic_ext 0 (by decide), ByteArray.toList_eq]; rfl
  go_enter Tryd.func15, Tryd.ntmps15
  go_wp2
  go_quiet (fail)
  have HH := Lib.hid (show (((w.alloc (.cells #[.int .u32 0, .int .u32 0, .int .i64 0, .string ⟨#[]⟩, .bool false] 27)).drewN nq)).heap[w.heap.size]? = some (.cells #[.int .u32 0, .int .u32 0, .int .i64 0, .string ⟨#[]⟩, .bool false] 27 (0, 0)) from by first | exact heap_alloc_new w _ | (rw [heap_drewN]; exact heap_alloc_new w _))
  go_wp2
  (try simp only [Exit.inBlock, Exit.then])
  refine bodyPost_ret (results_cell2 rfl _ _ w.heap.size 27 _ (0, 0) _ (by rfl) (set5 HH.out) Tryd.underlying27 rfl (by kernel_rfl)) rfl ?_
  exact ⟨by rw [HU.out]; rfl, below_set5 (by repeat (first | with_reducible exact Below.refl _ _ | with_reducible refine below_drewN ?_ _ | with_reducible refine Below.drew ?_ | with_reducible refine Below.alloc ?_ (by first | (simp; done) | (simp; omega)) _ | with_reducible refine Below.setCell ?_ (by first | (simp; done) | (simp; omega)) _)) (Nat.le_refl _)⟩
set_option maxRecDepth 20000 in
set_option maxHeartbeats 4000000 in
theorem unpack_bad4 (G o cap : Nat) (l : List UInt8) (h4 : 5 ≤ l.length) (hl : l.length ≤ 1099511627776) (hc : l.length ≤ cap) (w : World) (h : w.rangeAt G o (bytesV l)) (hk : headOk l 4 = false) :
    Calls Tryd.prog 15 #[.slice (some ⟨G, o, none⟩) l.length cap] w (UnPost (unpack l) w) := by
  have hb0 : Below w.heap.size w (w.alloc (.cells #[.int .u32 0, .int .u32 0, .int .i64 0, .string ⟨#[]⟩, .bool false] 27)) := (Below.refl _ _).alloc (Nat.le_refl _) _
  have HCV := Lib.hid (fun (c : Nat) (W : World) (hW : Below w.heap.size w W) => conv_bytes (fun j v hj => cell_below hW (h j v hj) : W.rangeAt G o (bytesV l)) 0 4 4 c (by omega) (by omega) rfl)
  have kcv := fun (c n : Nat) => HCV.out c ((w.alloc (.cells #[.int .u32 0, .int .u32 0, .int .i64 0, .string ⟨#[]⟩, .bool false] 27)).drewN n) (below_drewN hb0 n)
  have kcv0 := fun (c : Nat) => HCV.out c (w.alloc (.cells #[.int .u32 0, .int .u32 0, .int .i64 0, .string ⟨#[]⟩, .bool false] 27)) hb0
  have hcmp := head_cmp l 4 (by decide)
  generalize bodyOf l 0 4 = hd at *
  simp only [Nat.add_zero] at kcv kcv0
  have hmin : min (l.length : Int) 4 = 4 := by omega
  have HU := Lib.hid (unpack_bad (by omega) hk)
  rw [hk] at hcmp
  clear h hk
  go_enter Tryd.func15, Tryd.ntmps15
  go_wp2
  go_quiet (fail)
  have HH := Lib.hid (show (((w.alloc (.cells #[.int .u32 0, .int .u32 0, .int .i64 0, .string ⟨#[]⟩, .bool false] 27)).drewN nq)).heap[w.heap.size]? = some (.cells #[.int .u32 0, .int .u32 0, .int .i64 0, .string ⟨#[]⟩, .bool false] 27 (0, 0)) from by first | exact heap_alloc_new w _ | (rw [heap_drewN]; exact heap_alloc_new w _))
  go_wp2
  (try simp only [Exit.inBlock, Exit.then])
  refine bodyPost_ret (results_cell2 rfl _ _ w.heap.size 27 _ (0, 0) _ (by rfl) (set5 HH.out) Tryd.underlying27 rfl (by kernel_rfl)) rfl ?_
  exact ⟨by rw [HU.out]; rfl, below_set5 (by repeat (first | with_reducible exact Below.refl _ _ | with_reducible refine below_drewN ?_ _ | with_reducible refine Below.drew ?_ | with_reducible refine Below.alloc ?_ (by first | (simp; done) | (simp; omega)) _ | with_reducible refine Below.setCell ?_ (by first | (simp; done) | (simp; omega)) _)) (Nat.le_refl _)⟩
set_option maxRecDepth 20000 in
set_option maxHeartbeats 4000000 in
theorem unpack_few (G o cap : Nat) (l : List UInt8) (h4 : 5 ≤ l.length) (hl : l.length ≤ 1099511627776) (hc : l.length ≤ cap) (w : World) (h : w.rangeAt G o (bytesV l)) (hk : headOk l 4 = true) (h8 : l.length < 8) :
    Calls Tryd.prog 15 #[.slice (some ⟨G, o, none⟩) l.length cap] w (UnPost (unpack l) w) := by
  have hb0 : Below w.heap.size w (w.alloc (.cells #[.int .u32 0, .int .u32 0, .int .i64 0, .string ⟨#[]⟩, .bool false] 27)) := (Below.refl _ _).alloc (Nat.le_refl _) _
  have HCV := Lib.hid (fun (c : Nat) (W : World) (hW : Below w.heap.size w W) => conv_bytes (fun j v hj => cell_below hW (h j v hj) : W.rangeAt G o (bytesV l)) 0 4 4 c (by omega) (by omega) rfl)
  have kcv := fun (c n : Nat) => HCV.out c ((w.alloc (.cells #[.int .u32 0, .int .u32 0, .int .i64 0, .string ⟨#[]⟩, .bool false] 27)).drewN n) (below_drewN hb0 n)
  have kcv0 := fun (c : Nat) => HCV.out c (w.alloc (.cells #[.int .u32 0, .int .u32 0, .int .i64 0, .string ⟨#[]⟩, .bool false] 27)) hb0
  have hcmp := head_cmp l 4 (by decide)
  generalize bodyOf l 0 4 = hd at *
  simp only [Nat.add_zero] at kcv kcv0
  have hmin : min (l.length : Int) 4 = 4 := by omega
  have HU := Lib.hid ((unpack_head (by omega) hk).trans (if_pos h8))
  rw [hk] at hcmp
  clear h hk
  go_enter Tryd.func15, Tryd.ntmps15
  go_wp2
  go_quiet (fail)
  have HH := Lib.hid (show (((w.alloc (.cells #[.int .u32 0, .int .u32 0, .int .i64 0, .string ⟨#[]⟩, .bool false] 27)).drewN nq)).heap[w.heap.size]? = some (.cells #[.int .u32 0, .int .u32 0, .int .i64 0, .string ⟨#[]⟩, .bool false] 27 (0, 0)) from by first | exact heap_alloc_new w _ | (rw [heap_drewN]; exact heap_alloc_new w _))
  go_wp2
  (try simp only [Exit.inBlock, Exit.then])
  refine bodyPost_ret (results_cell2 rfl _ _ w.heap.size 27 _ (0, 0) _ (by rfl) (set5 HH.out) Tryd.underlying27 rfl (by kernel_rfl)) rfl ?_
  exact ⟨by rw [HU.out]; rfl, below_set5 (by repeat (first | with_reducible exact Below.refl _ _ | with_reducible refine below_drewN ?_ _ | with_reducible refine Below.drew ?_ | with_reducible refine Below.alloc ?_ (by first | (simp; done) | (simp; omega)) _ | with_reducible refine Below.setCell ?_ (by first | (simp; done) | (simp; omega)) _)) (Nat.le_refl _)⟩
set_option maxRecDepth 20000 in
set_option maxHeartbeats 4000000 in
theorem unpack_long (G o cap : Nat) (l : List UInt8) (h4 : 5 ≤ l.length) (hl : l.length ≤ 1099511627776) (hc : l.length ≤ cap) (w : World) (h : w.rangeAt G o (bytesV l)) (hk : headOk l 4 = true) (h8 : ¬ l.length < 8) (hz : 131072 < numb l 4) :
    Calls Tryd.prog 15 #[.slice (some ⟨G, o, none⟩) l.length cap] w (UnPost (unpack l) w) := by
  have hb0 : Below w.heap.size w (w.alloc (.cells #[.int .u32 0, .int .u32 0, .int .i64 0, .string ⟨#[]⟩, .bool false] 27)) := (Below.refl _ _).alloc (Nat.le_refl _) _
  have HCV := Lib.hid (fun (c : Nat) (W : World) (hW : Below w.heap.size w W) => conv_bytes (fun j v hj => cell_below hW (h j v hj) : W.rangeAt G o (bytesV l)) 0 4 4 c (by omega) (by omega) rfl)
  have kcv := fun (c n : Nat) => HCV.out c ((w.alloc (.cells #[.int .u32 0, .int .u32 0, .int .i64 0, .string ⟨#[]⟩, .bool false] 27)).drewN n) (below_drewN hb0 n)
  have kcv0 := fun (c : Nat) => HCV.out c (w.alloc (.cells #[.int .u32 0, .int .u32 0, .int .i64 0, .string ⟨#[]⟩, .bool false] 27)) hb0
  have hcmp := head_cmp l 4 (by decide)
  generalize bodyOf l 0 4 = hd at *
  simp only [Nat.add_zero] at kcv kcv0
  have hmin : min (l.length : Int) 4 = 4 := by omega
  have HU := Lib.hid ((unpack_head (by omega) hk).trans ((if_neg h8).trans (if_pos hz)))
  rw [hk] at hcmp
  have HN := Lib.hid (fun (n : Nat) => number_c G o cap l 4 (by omega) hl ((w.alloc (.cells #[.int .u32 0, .int .u32 0, .int .i64 0, .string ⟨#[]⟩, .bool false] 27)).drewN n) (fun j v hj => cell_below (below_drewN hb0 n) (h j v hj)))
  have hlt4 := numb_lt l 4
  generalize numb l 4 = z at *
  clear h hk
  go_enter Tryd.func15, Tryd.ntmps15
  go_wp2
  go_quiet (fail)
  go_wp2_with fail
  refine (HN.out nq).mono ?_; rintro e w2 ⟨rfl, m1, rfl⟩
  have HH := Lib.hid (show (((w.alloc (.cells #[.int .u32 0, .int .u32 0, .int .i64 0, .string ⟨#[]⟩, .bool false] 27)).drewN (nq + m1))).heap[w.heap.size]? = some (.cells #[.int .u32 0, .int .u32 0, .int .i64 0, .string ⟨#[]⟩, .bool false] 27 (0, 0)) from by first | exact heap_alloc_new w _ | (rw [heap_drewN]; exact heap_alloc_new w _))
  go_wp2
  (try simp only [Exit.inBlock, Exit.then])
  refine bodyPost_ret (results_cell2 rfl _ _ w.heap.size 27 _ (0, 0) _ (by rfl) (set5 HH.out) Tryd.underlying27 rfl (by kernel_rfl)) rfl ?_
  exact ⟨by rw [HU.out]; rfl, below_set5 (by repeat (first | with_reducible exact Below.refl _ _ | with_reducible refine below_drewN ?_ _ | with_reducible refine Below.drew ?_ | with_reducible refine Below.alloc ?_ (by first | (simp; done) | (simp; omega)) _ | with_reducible refine Below.setCell ?_ (by first | (simp; done) | (simp; omega)) _)) (Nat.le_refl _)⟩
set_option maxRecDepth 20000 in
set_option maxHeartbeats 4000000 in
theorem unpack_little (G o cap : Nat) (l : List UInt8) (h4 : 5 ≤ l.length) (hl : l.length ≤ 1099511627776) (hc : l.length ≤ cap) (w : World) (h : w.rangeAt G o (bytesV l)) (hk : headOk l 4 = true) (h8 : ¬ l.length < 8) (hz : ¬ 131072 < numb l 4) (hz2 : numb l 4 < 24) :
    Calls Tryd.prog 15 #[.slice (some ⟨G, o, none⟩) l.length cap] w (UnPost (unpack l) w) := by
  have hb0 : Below w.heap.size w (w.alloc (.cells #[.int .u32 0, .int .u32 0, .int .i64 0, .string ⟨#[]⟩, .bool false] 27)) := (Below.refl _ _).alloc (Nat.le_refl _) _
  have HCV := Lib.hid (fun (c : Nat) (W : World) (hW : Below w.heap.size w W) => conv_bytes (fun j v hj => cell_below hW (h j v hj) : W.rangeAt G o (bytesV l)) 0 4 4 c (by omega) (by omega) rfl)
  have kcv := fun (c n : Nat) => HCV.out c ((w.alloc (.cells #[.int .u32 0, .int .u32 0, .int .i64 0, .string ⟨#[]⟩, .bool false] 27)).drewN n) (below_drewN hb0 n)
  have kcv0 := fun (c : Nat) => HCV.out c (w.alloc (.cells #[.int .u32 0, .int .u32 0, .int .i64 0, .string ⟨#[]⟩, .bool false] 27)) hb0
  have hcmp := head_cmp l 4 (by decide)
  generalize bodyOf l 0 4 = hd at *
  simp only [Nat.add_zero] at kcv kcv0
  have hmin : min (l.length : Int) 4 = 4 := by omega
  have HU := Lib.hid ((unpack_head (by omega) hk).trans ((if_neg h8).trans ((if_neg hz).trans (if_pos hz2))))
  rw [hk] at hcmp
  have HN := Lib.hid (fun (n : Nat) => number_c G o cap l 4 (by omega) hl ((w.alloc (.cells #[.int .u32 0, .int .u32 0, .int .i64 0, .string ⟨#[]⟩, .bool false] 27)).drewN n) (fun j v hj => cell_below (below_drewN hb0 n) (h j v hj)))
  have hlt4 := numb_lt l 4
  generalize numb l 4 = z at *
  clear h hk
  go_enter Tryd.func15, Tryd.ntmps15
  go_wp2
  go_quiet (fail)
  go_wp2_with fail
  refine (HN.out nq).mono ?_; rintro e w2 ⟨rfl, m1, rfl⟩
  have HH := Lib.hid (show (((w.alloc (.cells #[.int .u32 0, .int .u32 0, .int .i64 0, .string ⟨#[]⟩, .bool false] 27)).drewN (nq + m1))).heap[w.heap.size]? = some (.cells #[.int .u32 0, .int .u32 0, .int .i64 0, .string ⟨#[]⟩, .bool false] 27 (0, 0)) from by first | exact heap_alloc_new w _ | (rw [heap_drewN]; exact heap_alloc_new w _))
  go_wp2
  (try simp only [Exit.inBlock, Exit.then])
  refine bodyPost_ret (results_cell2 rfl _ _ w.heap.size 27 _ (0, 0) _ (by rfl) (set5 HH.out) Tryd.underlying27 rfl (by kernel_rfl)) rfl ?_
  exact ⟨by rw [HU.out]; rfl, below_set5 (by repeat (first | with_reducible exact Below.refl _ _ | with_reducible refine below_drewN ?_ _ | with_reducible refine Below.drew ?_ | with_reducible refine Below.alloc ?_ (by first | (simp; done) | (simp; omega)) _ | with_reducible refine Below.setCell ?_ (by first | (simp; done) | (simp; omega)) _)) (Nat.le_refl _)⟩
set_option maxRecDepth 20000 in
set_option maxHeartbeats 4000000 in
theorem unpack_part (G o cap : Nat) (l : List UInt8) (h4 : 5 ≤ l.length) (hl : l.length ≤ 1099511627776) (hc : l.length ≤ cap) (w : World) (h : w.rangeAt G o (bytesV l)) (hk : headOk l 4 = true) (h8 : ¬ l.length < 8) (hz : ¬ 131072 < numb l 4) (hz2 : ¬ numb l 4 < 24) (hz3 : l.length < numb l 4) :
    Calls Tryd.prog 15 #[.slice (some ⟨G, o, none⟩) l.length cap] w (UnPost (unpack l) w) := by
  have hb0 : Below w.heap.size w (w.alloc (.cells #[.int .u32 0, .int .u32 0, .int .i64 0, .string ⟨#[]⟩, .bool false] 27)) := (Below.refl _ _).alloc (Nat.le_refl _) _
  have HCV := Lib.hid (fun (c : Nat) (W : World) (hW : Below w.heap.size w W) => conv_bytes (fun j v hj => cell_below hW (h j v hj) : W.rangeAt G o (bytesV l)) 0 4 4 c (by omega) (by omega) rfl)
  have kcv := fun (c n : Nat) => HCV.out c ((w.alloc (.cells #[.int .u32 0, .int .u32 0, .int .i64 0, .string ⟨#[]⟩, .bool false] 27)).drewN n) (below_drewN hb0 n)
  have kcv0 := fun (c : Nat) => HCV.out c (w.alloc (.cells #[.int .u32 0, .int .u32 0, .int .i64 0, .string ⟨#[]⟩, .bool false] 27)) hb0
  have hcmp := head_cmp l 4 (by decide)
  generalize bodyOf l 0 4 = hd at *
  simp only [Nat.add_zero] at kcv kcv0
  have hmin : min (l.length : Int) 4 = 4 := by omega
  have HU := Lib.hid ((unpack_head (by omega) hk).trans ((if_neg h8).trans ((if_neg hz).trans ((if_neg hz2).trans (if_pos hz3)))))
  rw [hk] at hcmp
  have HN := Lib.hid (fun (n : Nat) => number_c G o cap l 4 (by omega) hl ((w.alloc (.cells #[.int .u32 0, .int .u32 0, .int .i64 0, .string ⟨#[]⟩, .bool false] 27)).drewN n) (fun j v hj => cell_below (below_drewN hb0 n) (h j v hj)))
  have hlt4 := numb_lt l 4
  generalize numb l 4 = z at *
  clear h hk
  go_enter Tryd.func15, Tryd.ntmps15
  go_wp2
  go_quiet (fail)
  go_wp2_with fail
  refine (HN.out nq).mono ?_; rintro e w2 ⟨rfl, m1, rfl⟩
  have HH := Lib.hid (show (((w.alloc (.cells #[.int .u32 0, .int .u32 0, .int .i64 0, .string ⟨#[]⟩, .bool false] 27)).drewN (nq + m1))).heap[w.heap.size]? = some (.cells #[.int .u32 0, .int .u32 0, .int .i64 0, .string ⟨#[]⟩, .bool false] 27 (0, 0)) from by first | exact heap_alloc_new w _ | (rw [heap_drewN]; exact heap_alloc_new w _))
  go_wp2
  (try simp only [Exit.inBlock, Exit.then])
  refine bodyPost_ret (results_cell2 rfl _ _ w.heap.size 27 _ (0, 0) _ (by rfl) (set5 HH.out) Tryd.underlying27 rfl (by kernel_rfl)) rfl ?_
  exact ⟨by rw [HU.out]; rfl, below_set5 (by repeat (first | with_reducible exact Below.refl _ _ | with_reducible refine below_drewN ?_ _ | with_reducible refine Below.drew ?_ | with_reducible refine Below.alloc ?_ (by first | (simp; done) | (simp; omega)) _ | with_reducible refine Below.setCell ?_ (by first | (simp; done) | (simp; omega)) _)) (Nat.le_refl _)⟩
set_option maxRecDepth 20000 in
set_option maxHeartbeats 4000000 in
theorem unpack_whole (G o cap : Nat) (l : List UInt8) (h4 : 5 ≤ l.length) (hl : l.length ≤ 1099511627776) (hc : l.length ≤ cap) (w : World) (h : w.rangeAt G o (bytesV l)) (hk : headOk l 4 = true) (h8 : ¬ l.length < 8) (hz : ¬ 131072 < numb l 4) (hz2 : ¬ numb l 4 < 24) (hz3 : ¬ l.length < numb l 4) :
    Calls Tryd.prog 15 #[.slice (some ⟨G, o, none⟩) l.length cap] w (UnPost (unpack l) w) := by
  have hb0 : Below w.heap.size w (w.alloc (.cells #[.int .u32 0, .int .u32 0, .int .i64 0, .string ⟨#[]⟩, .bool false] 27)) := (Below.refl _ _).alloc (Nat.le_refl _) _
  have HCV := Lib.hid (fun (c : Nat) (W : World) (hW : Below w.heap.size w W) => conv_bytes (fun j v hj => cell_below hW (h j v hj) : W.rangeAt G o (bytesV l)) 0 4 4 c (by omega) (by omega) rfl)
  have kcv := fun (c n : Nat) => HCV.out c ((w.alloc (.cells #[.int .u32 0, .int .u32 0, .int .i64 0, .string ⟨#[]⟩, .bool false] 27)).drewN n) (below_drewN hb0 n)
  have kcv0 := fun (c : Nat) => HCV.out c (w.alloc (.cells #[.int .u32 0, .int .u32 0, .int .i64 0, .string ⟨#[]⟩, .bool false] 27)) hb0
  have hcmp := head_cmp l 4 (by decide)
  generalize bodyOf l 0 4 = hd at *
  simp only [Nat.add_zero] at kcv kcv0
  have hmin : min (l.length : Int) 4 = 4 := by omega
  have HU := Lib.hid ((unpack_head (by omega) hk).trans ((if_neg h8).trans ((if_neg hz).trans ((if_neg hz2).trans (if_neg hz3)))))
  rw [hk] at hcmp
  have HN := Lib.hid (fun (n : Nat) => number_c G o cap l 4 (by omega) hl ((w.alloc (.cells #[.int .u32 0, .int .u32 0, .int .i64 0, .string ⟨#[]⟩, .bool false] 27)).drewN n) (fun j v hj => cell_below (below_drewN hb0 n) (h j v hj)))
  have HWH := Lib.hid (fun (W : World) (hW : Below w.heap.size w W) => show Calls Tryd.prog 52 #[.slice (some ⟨G, o, none⟩) (numb l 4) cap] W (UnPost (whole l (numb l 4)) W) from by
    have hlt : (l.take (numb l 4)).length = numb l 4 := by rw [List.length_take]; omega
    have hr := rangeAt_take (fun j v hj => cell_below hW (h j v hj) : W.rangeAt G o (bytesV l)) (numb l 4)
    have := whole_c G o cap (l.take (numb l 4)) (by omega) (by omega) (by omega) W (by rw [show bytesV (l.take (numb l 4)) = (bytesV l).take (numb l 4) by simp [bytesV, List.map_take]]; exact hr)
    rw [hlt, whole_take l _ (by omega) (by omega)] at this
    exact this)
  have hlt4 := numb_lt l 4
  generalize numb l 4 = z at *
  clear h hk
  go_enter Tryd.func15, Tryd.ntmps15
  go_wp2
  go_quiet (fail)
  go_wp2_with fail
  refine (HN.out nq).mono ?_; rintro e w2 ⟨rfl, m1, rfl⟩
  go_wp2_with fail
  refine (HWH.out _ (by repeat (first | with_reducible exact Below.refl _ _ | with_reducible refine below_drewN ?_ _ | with_reducible refine Below.drew ?_ | with_reducible refine Below.alloc ?_ (by first | (simp; done) | (simp; omega)) _ | with_reducible refine Below.setCell ?_ (by first | (simp; done) | (simp; omega)) _))).mono ?_; rintro e w3 ⟨he, hb3⟩
  generalize whole l z = r at *
  obtain ⟨⟨id, to, kd, bd, sm⟩, hm⟩ : ∃ m, r.msg = m := ⟨_, rfl⟩
  have he' : e = .returned (.tuple #[.agg #[.int .u32 (id : Int), .int .u32 (to : Int), .int .i64 kd, .string bd, .bool sm], .int .i64 (r.len : Int), .int .i64 (r.err : Int)]) := by rw [he, hm]; rfl
  subst he'
  have HH := Lib.hid ((hb3.block w.heap.size (by simp)).trans (show (((w.alloc (.cells #[.int .u32 0, .int .u32 0, .int .i64 0, .string ⟨#[]⟩, .bool false] 27)).drewN (nq + m1))).heap[w.heap.size]? = some (.cells #[.int .u32 0, .int .u32 0, .int .i64 0, .string ⟨#[]⟩, .bool false] 27 (0, 0)) from by rw [heap_drewN]; exact heap_alloc_new w _))
  have HB3 := Lib.hid (show Below w.heap.size w w3 from (below_drewN hb0 (nq + m1)).trans (hb3.mono (by simp)))
  have HM := Lib.hid hm
  obtain ⟨⟨c0, c1, c2, c3, c4⟩, f0, f1, f2, f3, f4⟩ := cellsOf5 HH.out
  clear he hb3 hm
  go_wp2
  (try simp only [Exit.inBlock, Exit.then])
  refine bodyPost_ret (results_cell2 rfl _ _ w.heap.size 27 _ (0, 0) _ (by rfl) (set5 HH.out) Tryd.underlying27 rfl (by kernel_rfl)) rfl ?_
  exact ⟨by rw [HU.out, HM.out]; rfl, below_set5 HB3.out (Nat.le_refl _)⟩
theorem unpack_c (A : Option Addr) (cap : Nat) (l : List UInt8) (hl : l.length ≤ 1099511627776) (hc : l.length ≤ cap) (w : World) (h : BytesIn w A l) :
    Calls Tryd.prog 15 #[.slice A l.length cap] w (UnPost (unpack l) w) := by
  rcases Nat.eq_zero_or_pos l.length with h0 | h0
  · obtain rfl : l = [] := List.eq_nil_of_length_eq_zero h0
    exact unpack_0 A cap w
  obtain ⟨G, o, rfl, hr⟩ : ∃ G o, A = some ⟨G, o, none⟩ ∧ w.rangeAt G o (bytesV l) := by
    rcases h with h | h
    · rw [h] at h0; simp at h0
    · exact h
  rcases Nat.lt_or_ge l.length 5 with h4 | h4
  · have : l.length = 1 ∨ l.length = 2 ∨ l.length = 3 ∨ l.length = 4 := by omega
    rcases this with e | e | e | e
    · rw [e] at hc ⊢; exact unpack_1 G o cap l e hc w hr
    · rw [e] at hc ⊢; exact unpack_2 G o cap l e hc w hr
    · rw [e] at hc ⊢; exact unpack_3 G o cap l e hc w hr
    · rw [e] at hc ⊢; exact unpack_4 G o cap l e hc w hr
  cases hk : headOk l 4 with
  | false => exact unpack_bad4 G o cap l h4 hl hc w hr hk
  | true =>
    by_cases h8 : l.length < 8
    · exact unpack_few G o cap l h4 hl hc w hr hk h8
    by_cases hz : 131072 < numb l 4
    · exact unpack_long G o cap l h4 hl hc w hr hk h8 hz
    by_cases hz2 : numb l 4 < 24
    · exact unpack_little G o cap l h4 hl hc w hr hk h8 hz hz2
    by_cases hz3 : l.length < numb l 4
    · exact unpack_part G o cap l h4 hl hc w hr hk h8 hz hz2 hz3
    · exact unpack_whole G o cap l h4 hl hc w hr hk h8 hz hz2 hz3
end Go.Proofs.YtkpickojeghppaaDoor
