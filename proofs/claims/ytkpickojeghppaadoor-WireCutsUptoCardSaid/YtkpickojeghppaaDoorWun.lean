/- The walks of Unpack, the program's. Conditions: the bytes are at most 2 to the 40. -/
import Derived.Test.YtkpickojeghppaaDoorWrpack
import Derived.Lib.QuietBelow
namespace Go.Proofs.YtkpickojeghppaaDoor
open Go.RowKit
theorem results_cell2 {P : Program} {fn : Func} {p t u : Tmp} {ty : TypeId} (h : fn.results = #[.cell p ty, .tmp t, .tmp u]) (tmps : Array Value) (w : World) (g : Nat) (T : TypeId) (cs : Array Value) (fr : Nat × Nat) (d : TypeDesc)
    (hp : tmps.getD p undef = .pointer (some ⟨g, 0, none⟩)) (hg : w.heap[g]? = some (.cells cs T fr))
    (hu : P.underlying ty = some d) (hd : (match d with | .struct _ | .array _ _ => true | _ => false) = true) (hi : (P.info? ty).map (·.size) = some cs.size) :
    (results fn tmps).run P w = .ok (.tuple #[.agg cs, tmps.getD t undef, tmps.getD u undef]) w := by
  have hp' : tmps[p]?.getD undef = .pointer (some ⟨g, 0, none⟩) := by simpa using hp
  simp [results, h, hp', asAddr, run_loadVar_row w g T ty cs fr d hg hu hd hi]
/-- what Unpack answers -/
def UnPost (r : UR) (w : World) (e : Ending) (w' : World) : Prop :=
  e = .returned (.tuple #[.agg (msgV r.msg).toArray, .int .i64 (r.len : Int), .int .i64 (r.err : Int)]) ∧ Below w.heap.size w w'
theorem whole_take (l : List UInt8) (n : Nat) (h : n ≤ l.length) (h24 : 24 ≤ n) : whole (l.take n) n = whole l n := by
  have e : ∀ k, k + 4 ≤ n → numb (l.take n) k = numb l k := fun k hk => by
    have := numb_left (l.take n) (l.drop n) k (by rw [List.length_take]; omega)
    rw [List.take_append_drop] at this
    exact this.symm
  have t : ∀ k, k ≤ n → (l.take n).take k = l.take k := fun k hk => by rw [List.take_take, Nat.min_eq_left hk]
  unfold whole bodyOf
  rw [e 16 (by omega), e 20 (by omega), e 8 (by omega), e 12 (by omega), t n (Nat.le_refl _), t (n - 4) (by omega)]
  by_cases h1 : numb l 20 = 1
  · rw [e (n - 4) (by omega)]
  · rw [if_neg h1, if_neg h1]
theorem conv_bytes {w : World} {G o : Nat} {l : List UInt8} (h : w.rangeAt G o (bytesV l)) (a b n cap : Nat) (hab : a ≤ b) (hb : b ≤ l.length) (hn : n = b - a) :
    (convert 28 9 (.slice (some ⟨G, o + a, none⟩) n cap)).run Tryd.prog w = .ok (.string (bodyOf l a b)) w := by
  have hl : ((l.take b).drop a).length = n := by rw [List.length_drop, List.length_take]; omega
  have := run_convert_bytes_back (P := Tryd.prog) w 28 9 5 ⟨G, o + a, none⟩ cap ((l.take b).drop a) bytTy.slice (by kernel_rfl) Tryd.underlying9 (fun j hj => by
    rw [Addr.add_mid]
    have h1 : w.cell? ⟨G, o + (a + j), none⟩ = some (.int .u8 ((l[a + j]'(by omega)).toNat : Int)) := range_byte h (a + j) (by omega)
    rw [← Nat.add_assoc] at h1
    rw [h1]
    simp)
  rw [hl] at this
  exact this
theorem set5 {w : World} {B : Nat} {T : TypeId} {u0 u1 u2 u3 u4 c0 c1 c2 c3 c4 : Value} (h : w.heap[B]? = some (.cells #[u0, u1, u2, u3, u4] T (0, 0))) :
    (((((w.setCell ⟨B, 0, none⟩ c0).setCell ⟨B, 1, none⟩ c1).setCell ⟨B, 2, none⟩ c2).setCell ⟨B, 3, none⟩ c3).setCell ⟨B, 4, none⟩ c4).heap[B]? = some (.cells #[c0, c1, c2, c3, c4] T (0, 0)) :=
  heap_setCell_same _ _ _ _ _ _ (heap_setCell_same _ _ _ _ _ _ (heap_setCell_same _ _ _ _ _ _ (heap_setCell_same _ _ _ _ _ _ (heap_setCell_same _ _ _ _ _ _ h))))
theorem below_set5 {a w : World} {B n : Nat} {c0 c1 c2 c3 c4 : Value} (h : Below n a w) (hB : n ≤ B) :
    Below n a (((((w.setCell ⟨B, 0, none⟩ c0).setCell ⟨B, 1, none⟩ c1).setCell ⟨B, 2, none⟩ c2).setCell ⟨B, 3, none⟩ c3).setCell ⟨B, 4, none⟩ c4) :=
  ((((h.setCell hB _).setCell hB _).setCell hB _).setCell hB _).setCell hB _
theorem other_set5 {w : World} {B b : Nat} {c0 c1 c2 c3 c4 : Value} (h : b ≠ B) :
    (((((w.setCell ⟨B, 0, none⟩ c0).setCell ⟨B, 1, none⟩ c1).setCell ⟨B, 2, none⟩ c2).setCell ⟨B, 3, none⟩ c3).setCell ⟨B, 4, none⟩ c4).heap[b]? = w.heap[b]? := by
  rw [heap_setCell_other _ _ _ _ h, heap_setCell_other _ _ _ _ h, heap_setCell_other _ _ _ _ h, heap_setCell_other _ _ _ _ h, heap_setCell_other _ _ _ _ h]
theorem heap_drewN (w : World) (n : Nat) : (w.drewN n).heap = w.heap := rfl
theorem run_convert_bytes_nil0 (w : World) (G o : Nat) : (convert 28 9 (.slice (some ⟨G, o, none⟩) 0 0)).run Tryd.prog w = .ok (.string ⟨#[]⟩) w :=
  run_convert_bytes_back (P := Tryd.prog) w 28 9 5 ⟨G, o, none⟩ 0 [] bytTy.slice (by kernel_rfl) Tryd.underlying9 (fun j hj => by simp at hj)
theorem bne_of {a b : Int} (h : (a == b) = false) : (a != b) = true := by rw [bne, h]; rfl
theorem byte_ne {c d : UInt8} (h : c ≠ d) : ((c.toNat : Int) == (d.toNat : Int)) = false := by
  rw [beq_eq_false_iff_ne]; intro e; exact h (UInt8.toNat_inj.1 (by omega))
set_option maxRecDepth 20000 in
set_option maxHeartbeats 4000000 in
theorem whole_kind (G o cap : Nat) (l : List UInt8) (h24 : 24 ≤ l.length) (hl : l.length ≤ 1099511627776) (w : World) (h : w.rangeAt G o (bytesV l)) (hk : numb l 16 < 1 ∨ 6 < numb l 16) :
    Calls Tryd.prog 52 #[.slice (some ⟨G, o, none⟩) l.length cap] w (UnPost (.bad 281) w) := by
  have hb0 : Below w.heap.size w (w.alloc (.cells #[.int .u32 0, .int .u32 0, .int .i64 0, .string ⟨#[]⟩, .bool false] 27)) := (Below.refl _ _).alloc (Nat.le_refl _) _
  have HN := Lib.hid (fun (W : World) (hW : Below w.heap.size w W) (k : Nat) (hk : k + 4 ≤ l.length) => number_c G o cap l k hk hl W (fun j v hj => cell_below hW (h j v hj)))
  have hlt16 := numb_lt l 16
  have h16 := HN.out (w.alloc (.cells #[.int .u32 0, .int .u32 0, .int .i64 0, .string ⟨#[]⟩, .bool false] 27)) hb0 16 (by omega)
  have h20 := fun (m : Nat) => HN.out ((w.alloc (.cells #[.int .u32 0, .int .u32 0, .int .i64 0, .string ⟨#[]⟩, .bool false] 27)).drewN m) (below_drewN hb0 m) 20 (by omega)
  have H20 := Lib.hid h20
  generalize numb l 16 = kd at *
  generalize numb l 20 = fl at *
  clear h20 h
  go_enter Tryd.func52, Tryd.ntmps52
  go_wp2_with fail
  refine h16.mono ?_; rintro e w1 ⟨rfl, m1, rfl⟩
  clear h16
  go_wp2_with fail
  refine (H20.out m1).mono ?_; rintro e w2 ⟨rfl, m2, rfl⟩
  rcases hk with hk | hk
  · have HH := Lib.hid (show (((w.alloc (.cells #[.int .u32 0, .int .u32 0, .int .i64 0, .string ⟨#[]⟩, .bool false] 27)).drewN (m1 + m2))).heap[w.heap.size]? = some (.cells #[.int .u32 0, .int .u32 0, .int .i64 0, .string ⟨#[]⟩, .bool false] 27 (0, 0)) from by first | exact heap_alloc_new w _ | (rw [heap_alloc_old _ _ (by simp)]; exact heap_alloc_new w _) | (rw [heap_drewN, heap_alloc_old _ _ (by simp)]; exact heap_alloc_new w _))
    go_wp2
    (try simp only [Exit.inBlock, Exit.then])
    refine bodyPost_ret (results_cell2 rfl _ _ w.heap.size 27 _ (0, 0) _ (by rfl) (set5 HH.out) Tryd.underlying27 rfl (by kernel_rfl)) rfl ?_
    exact ⟨rfl, below_set5 (by repeat (first | with_reducible exact Below.refl _ _ | with_reducible refine below_drewN ?_ _ | with_reducible refine Below.drew ?_ | with_reducible refine Below.alloc ?_ (by first | (simp; done) | (simp; omega)) _ | with_reducible refine Below.setCell ?_ (by first | (simp; done) | (simp; omega)) _)) (Nat.le_refl _)⟩
  · have hk' : ¬ kd < 1 := by omega
    have HH := Lib.hid (show (((w.alloc (.cells #[.int .u32 0, .int .u32 0, .int .i64 0, .string ⟨#[]⟩, .bool false] 27)).drewN (m1 + m2))).heap[w.heap.size]? = some (.cells #[.int .u32 0, .int .u32 0, .int .i64 0, .string ⟨#[]⟩, .bool false] 27 (0, 0)) from by first | exact heap_alloc_new w _ | (rw [heap_alloc_old _ _ (by simp)]; exact heap_alloc_new w _) | (rw [heap_drewN, heap_alloc_old _ _ (by simp)]; exact heap_alloc_new w _))
    go_wp2
    (try simp only [Exit.inBlock, Exit.then])
    refine bodyPost_ret (results_cell2 rfl _ _ w.heap.size 27 _ (0, 0) _ (by rfl) (set5 HH.out) Tryd.underlying27 rfl (by kernel_rfl)) rfl ?_
    exact ⟨rfl, below_set5 (by repeat (first | with_reducible exact Below.refl _ _ | with_reducible refine below_drewN ?_ _ | with_reducible refine Below.drew ?_ | with_reducible refine Below.alloc ?_ (by first | (simp; done) | (simp; omega)) _ | with_reducible refine Below.setCell ?_ (by first | (simp; done) | (simp; omega)) _)) (Nat.le_refl _)⟩
set_option maxRecDepth 20000 in
set_option maxHeartbeats 4000000 in
theorem whole_flags (G o cap : Nat) (l : List UInt8) (h24 : 24 ≤ l.length) (hl : l.length ≤ 1099511627776) (w : World) (h : w.rangeAt G o (bytesV l)) (k1 : ¬ numb l 16 < 1) (k2 : ¬ 6 < numb l 16) (hf : 1 < numb l 20) :
    Calls Tryd.prog 52 #[.slice (some ⟨G, o, none⟩) l.length cap] w (UnPost (.bad 282) w) := by
  have hb0 : Below w.heap.size w (w.alloc (.cells #[.int .u32 0, .int .u32 0, .int .i64 0, .string ⟨#[]⟩, .bool false] 27)) := (Below.refl _ _).alloc (Nat.le_refl _) _
  have HN := Lib.hid (fun (W : World) (hW : Below w.heap.size w W) (k : Nat) (hk : k + 4 ≤ l.length) => number_c G o cap l k hk hl W (fun j v hj => cell_below hW (h j v hj)))
  have hlt16 := numb_lt l 16
  have h16 := HN.out (w.alloc (.cells #[.int .u32 0, .int .u32 0, .int .i64 0, .string ⟨#[]⟩, .bool false] 27)) hb0 16 (by omega)
  have h20 := fun (m : Nat) => HN.out ((w.alloc (.cells #[.int .u32 0, .int .u32 0, .int .i64 0, .string ⟨#[]⟩, .bool false] 27)).drewN m) (below_drewN hb0 m) 20 (by omega)
  have H20 := Lib.hid h20
  generalize numb l 16 = kd at *
  generalize numb l 20 = fl at *
  clear h20 h
  go_enter Tryd.func52, Tryd.ntmps52
  go_wp2_with fail
  refine h16.mono ?_; rintro e w1 ⟨rfl, m1, rfl⟩
  clear h16
  go_wp2_with fail
  refine (H20.out m1).mono ?_; rintro e w2 ⟨rfl, m2, rfl⟩
  have HH := Lib.hid (show (((w.alloc (.cells #[.int .u32 0, .int .u32 0, .int .i64 0, .string ⟨#[]⟩, .bool false] 27)).drewN (m1 + m2))).heap[w.heap.size]? = some (.cells #[.int .u32 0, .int .u32 0, .int .i64 0, .string ⟨#[]⟩, .bool false] 27 (0, 0)) from by first | exact heap_alloc_new w _ | (rw [heap_alloc_old _ _ (by simp)]; exact heap_alloc_new w _) | (rw [heap_drewN, heap_alloc_old _ _ (by simp)]; exact heap_alloc_new w _))
  go_wp2
  (try simp only [Exit.inBlock, Exit.then])
  refine bodyPost_ret (results_cell2 rfl _ _ w.heap.size 27 _ (0, 0) _ (by rfl) (set5 HH.out) Tryd.underlying27 rfl (by kernel_rfl)) rfl ?_
  exact ⟨rfl, below_set5 (by repeat (first | with_reducible exact Below.refl _ _ | with_reducible refine below_drewN ?_ _ | with_reducible refine Below.drew ?_ | with_reducible refine Below.alloc ?_ (by first | (simp; done) | (simp; omega)) _ | with_reducible refine Below.setCell ?_ (by first | (simp; done) | (simp; omega)) _)) (Nat.le_refl _)⟩
set_option maxRecDepth 20000 in
set_option maxHeartbeats 4000000 in
theorem whole_short (G o cap : Nat) (l : List UInt8) (h24 : 24 ≤ l.length) (hl : l.length ≤ 1099511627776) (hcap : 24 < cap) (w : World) (h : w.rangeAt G o (bytesV l)) (k1 : ¬ numb l 16 < 1) (k2 : ¬ 6 < numb l 16) (f1 : numb l 20 = 1) (hn : l.length < 28) :
    Calls Tryd.prog 52 #[.slice (some ⟨G, o, none⟩) l.length cap] w (UnPost (.bad 280) w) := by
  have hb0 : Below w.heap.size w (w.alloc (.cells #[.int .u32 0, .int .u32 0, .int .i64 0, .string ⟨#[]⟩, .bool false] 27)) := (Below.refl _ _).alloc (Nat.le_refl _) _
  have HN := Lib.hid (fun (W : World) (hW : Below w.heap.size w W) (k : Nat) (hk : k + 4 ≤ l.length) => number_c G o cap l k hk hl W (fun j v hj => cell_below hW (h j v hj)))
  have hlt16 := numb_lt l 16
  have h16 := HN.out (w.alloc (.cells #[.int .u32 0, .int .u32 0, .int .i64 0, .string ⟨#[]⟩, .bool false] 27)) hb0 16 (by omega)
  have h20 := fun (m : Nat) => HN.out ((w.alloc (.cells #[.int .u32 0, .int .u32 0, .int .i64 0, .string ⟨#[]⟩, .bool false] 27)).drewN m) (below_drewN hb0 m) 20 (by omega)
  have hlt8 := numb_lt l 8
  have hlt12 := numb_lt l 12
  have h8 := fun (m : Nat) => HN.out ((w.alloc (.cells #[.int .u32 0, .int .u32 0, .int .i64 0, .string ⟨#[]⟩, .bool false] 27)).drewN m) (below_drewN hb0 m) 8 (by omega)
  have h12 := fun (m : Nat) => HN.out ((w.alloc (.cells #[.int .u32 0, .int .u32 0, .int .i64 0, .string ⟨#[]⟩, .bool false] 27)).drewN m) (below_drewN hb0 m) 12 (by omega)
  rw [f1] at h20
  have H8 := Lib.hid h8
  have H12 := Lib.hid h12
  have H20 := Lib.hid h20
  generalize numb l 16 = kd at *
  generalize numb l 8 = i8 at *
  generalize numb l 12 = i12 at *
  clear h8 h12 f1
  clear h20 h
  go_enter Tryd.func52, Tryd.ntmps52
  go_wp2_with fail
  refine h16.mono ?_; rintro e w1 ⟨rfl, m1, rfl⟩
  clear h16
  go_wp2_with fail
  refine (H20.out m1).mono ?_; rintro e w2 ⟨rfl, m2, rfl⟩
  go_wp2_with fail
  refine (H8.out (m1 + m2)).mono ?_; rintro e w2 ⟨rfl, m3, rfl⟩
  go_wp2_with fail
  refine (H12.out (m1 + m2 + m3)).mono ?_; rintro e w2 ⟨rfl, m4, rfl⟩
  have hs4 : ((l.length - 24 : Nat) : Int) < 4 := by omega
  have HH := Lib.hid (show (((w.alloc (.cells #[.int .u32 0, .int .u32 0, .int .i64 0, .string ⟨#[]⟩, .bool false] 27)).drewN (m1 + m2 + m3 + m4))).heap[w.heap.size]? = some (.cells #[.int .u32 0, .int .u32 0, .int .i64 0, .string ⟨#[]⟩, .bool false] 27 (0, 0)) from by first | exact heap_alloc_new w _ | (rw [heap_alloc_old _ _ (by simp)]; exact heap_alloc_new w _) | (rw [heap_drewN, heap_alloc_old _ _ (by simp)]; exact heap_alloc_new w _))
  go_wp2
  (try simp only [Exit.inBlock, Exit.then])
  refine bodyPost_ret (results_cell2 rfl _ _ w.heap.size 27 _ (0, 0) _ (by rfl) ((heap_alloc_old _ _ (by first | (simp; done) | (simp; omega))).trans (set5 HH.out)) Tryd.underlying27 rfl (by kernel_rfl)) rfl ?_
  exact ⟨rfl, (below_set5 (by repeat (first | with_reducible exact Below.refl _ _ | with_reducible refine below_drewN ?_ _ | with_reducible refine Below.drew ?_ | with_reducible refine Below.alloc ?_ (by first | (simp; done) | (simp; omega)) _ | with_reducible refine Below.setCell ?_ (by first | (simp; done) | (simp; omega)) _)) (Nat.le_refl _)).alloc (by first | (simp; done) | (simp; omega)) _⟩
set_option maxRecDepth 20000 in
set_option maxHeartbeats 4000000 in
theorem whole_sum (G o cap : Nat) (l : List UInt8) (h24 : 28 ≤ l.length) (hl : l.length ≤ 1099511627776) (hc : l.length ≤ cap) (w : World) (h : w.rangeAt G o (bytesV l)) (k1 : ¬ numb l 16 < 1) (k2 : ¬ 6 < numb l 16) (f1 : numb l 20 = 1) (hcr : crc (l.take (l.length - 4)) ≠ numb l (l.length - 4)) :
    Calls Tryd.prog 52 #[.slice (some ⟨G, o, none⟩) l.length cap] w (UnPost (.bad 283) w) := by
  have hb0 : Below w.heap.size w (w.alloc (.cells #[.int .u32 0, .int .u32 0, .int .i64 0, .string ⟨#[]⟩, .bool false] 27)) := (Below.refl _ _).alloc (Nat.le_refl _) _
  have HN := Lib.hid (fun (W : World) (hW : Below w.heap.size w W) (k : Nat) (hk : k + 4 ≤ l.length) => number_c G o cap l k hk hl W (fun j v hj => cell_below hW (h j v hj)))
  have hlt16 := numb_lt l 16
  have h16 := HN.out (w.alloc (.cells #[.int .u32 0, .int .u32 0, .int .i64 0, .string ⟨#[]⟩, .bool false] 27)) hb0 16 (by omega)
  have h20 := fun (m : Nat) => HN.out ((w.alloc (.cells #[.int .u32 0, .int .u32 0, .int .i64 0, .string ⟨#[]⟩, .bool false] 27)).drewN m) (below_drewN hb0 m) 20 (by omega)
  have hlt8 := numb_lt l 8
  have hlt12 := numb_lt l 12
  have h8 := fun (m : Nat) => HN.out ((w.alloc (.cells #[.int .u32 0, .int .u32 0, .int .i64 0, .string ⟨#[]⟩, .bool false] 27)).drewN m) (below_drewN hb0 m) 8 (by omega)
  have h12 := fun (m : Nat) => HN.out ((w.alloc (.cells #[.int .u32 0, .int .u32 0, .int .i64 0, .string ⟨#[]⟩, .bool false] 27)).drewN m) (below_drewN hb0 m) 12 (by omega)
  rw [f1] at h20
  have H8 := Lib.hid h8
  have H12 := Lib.hid h12
  have HSUM := Lib.hid (fun (W : World) (hW : Below w.heap.size w W) => show Calls Tryd.prog 18 #[.slice (some ⟨G, o, none⟩) (l.length - 4) cap] W _ from by
    have := sum_c (some ⟨G, o, none⟩) cap (l.take (l.length - 4)) (by rw [List.length_take]; unfold maxLen; omega) W (.inr ⟨G, o, rfl, by
      have hr := rangeAt_take (fun j v hj => cell_below hW (h j v hj) : W.rangeAt G o (bytesV l)) (l.length - 4)
      rw [show bytesV (l.take (l.length - 4)) = (bytesV l).take (l.length - 4) by simp [bytesV, List.map_take]]; exact hr⟩)
    rw [List.length_take, Nat.min_eq_left (by omega)] at this
    exact this)
  have HEND := Lib.hid (fun (W : World) (hW : Below w.heap.size w W) => show Calls Tryd.prog 51 #[.slice (some ⟨G, o, none⟩) l.length cap, .int .i64 ((l.length : Int) - 4)] W _ from by
    have := HN.out W hW (l.length - 4) (by omega)
    rw [show ((l.length - 4 : Nat) : Int) = (l.length : Int) - 4 by omega] at this
    exact this)
  have HCV := Lib.hid (fun (W : World) (hW : Below w.heap.size w W) (n c : Nat) (hn : n = l.length - 4 - 24) => conv_bytes (fun j v hj => cell_below hW (h j v hj) : W.rangeAt G o (bytesV l)) 24 (l.length - 4) n c (by omega) (by omega) hn)
  have H20 := Lib.hid h20
  generalize numb l 16 = kd at *
  generalize numb l 8 = i8 at *
  generalize numb l 12 = i12 at *
  clear h8 h12 f1
  have hbn : ((crc (l.take (l.length - 4)) : Int) != (numb l (l.length - 4) : Int)) = true := by rw [bne_iff_ne]; omega
  generalize crc (l.take (l.length - 4)) = cr at *
  generalize numb l (l.length - 4) = nb at *
  clear hcr
  clear h20 h
  go_enter Tryd.func52, Tryd.ntmps52
  go_wp2_with fail
  refine h16.mono ?_; rintro e w1 ⟨rfl, m1, rfl⟩
  clear h16
  go_wp2_with fail
  refine (H20.out m1).mono ?_; rintro e w2 ⟨rfl, m2, rfl⟩
  go_wp2_with fail
  refine (H8.out (m1 + m2)).mono ?_; rintro e w2 ⟨rfl, m3, rfl⟩
  go_wp2_with fail
  refine (H12.out (m1 + m2 + m3)).mono ?_; rintro e w2 ⟨rfl, m4, rfl⟩
  go_wp2_with fail
  refine (HSUM.out _ (by repeat (first | with_reducible exact Below.refl _ _ | with_reducible refine below_drewN ?_ _ | with_reducible refine Below.drew ?_ | with_reducible refine Below.alloc ?_ (by first | (simp; done) | (simp; omega)) _ | with_reducible refine Below.setCell ?_ (by first | (simp; done) | (simp; omega)) _))).mono ?_; rintro e w2 ⟨rfl, rfl⟩
  go_wp2_with fail
  refine (HEND.out _ (by repeat (first | with_reducible exact Below.refl _ _ | with_reducible refine below_drewN ?_ _ | with_reducible refine Below.drew ?_ | with_reducible refine Below.alloc ?_ (by first | (simp; done) | (simp; omega)) _ | with_reducible refine Below.setCell ?_ (by first | (simp; done) | (simp; omega)) _))).mono ?_; rintro e w2 ⟨rfl, m5, rfl⟩
  have HH := Lib.hid (show (((((w.alloc (.cells #[.int .u32 0, .int .u32 0, .int .i64 0, .string ⟨#[]⟩, .bool false] 27)).drewN (m1 + m2 + m3 + m4)).alloc (.cells #[.int .u32 (i8 : Int), .int .u32 (i12 : Int), .int .i64 (kd : Int), .string ⟨#[]⟩, .bool true] 27)).drewN m5)).heap[w.heap.size]? = some (.cells #[.int .u32 0, .int .u32 0, .int .i64 0, .string ⟨#[]⟩, .bool false] 27 (0, 0)) from by first | exact heap_alloc_new w _ | (rw [heap_alloc_old _ _ (by simp)]; exact heap_alloc_new w _) | (rw [heap_drewN, heap_alloc_old _ _ (by simp)]; exact heap_alloc_new w _))
  go_wp2
  (try simp only [Exit.inBlock, Exit.then])
  refine bodyPost_ret (results_cell2 rfl _ _ w.heap.size 27 _ (0, 0) _ (by rfl) (set5 HH.out) Tryd.underlying27 rfl (by kernel_rfl)) rfl ?_
  exact ⟨rfl, below_set5 (by repeat (first | with_reducible exact Below.refl _ _ | with_reducible refine below_drewN ?_ _ | with_reducible refine Below.drew ?_ | with_reducible refine Below.alloc ?_ (by first | (simp; done) | (simp; omega)) _ | with_reducible refine Below.setCell ?_ (by first | (simp; done) | (simp; omega)) _)) (Nat.le_refl _)⟩
set_option maxRecDepth 20000 in
set_option maxHeartbeats 4000000 in
theorem whole_ok1 (G o cap : Nat) (l : List UInt8) (h24 : 28 ≤ l.length) (hl : l.length ≤ 1099511627776) (hc : l.length ≤ cap) (w : World) (h : w.rangeAt G o (bytesV l)) (k1 : ¬ numb l 16 < 1) (k2 : ¬ 6 < numb l 16) (f1 : numb l 20 = 1) (hcr : crc (l.take (l.length - 4)) = numb l (l.length - 4)) :
    Calls Tryd.prog 52 #[.slice (some ⟨G, o, none⟩) l.length cap] w (UnPost (.ok ⟨numb l 8, numb l 12, numb l 16, bodyOf l 24 (l.length - 4), true⟩ l.length) w) := by
  have hb0 : Below w.heap.size w (w.alloc (.cells #[.int .u32 0, .int .u32 0, .int .i64 0, .string ⟨#[]⟩, .bool false] 27)) := (Below.refl _ _).alloc (Nat.le_refl _) _
  have HN := Lib.hid (fun (W : World) (hW : Below w.heap.size w W) (k : Nat) (hk : k + 4 ≤ l.length) => number_c G o cap l k hk hl W (fun j v hj => cell_below hW (h j v hj)))
  have hlt16 := numb_lt l 16
  have h16 := HN.out (w.alloc (.cells #[.int .u32 0, .int .u32 0, .int .i64 0, .string ⟨#[]⟩, .bool false] 27)) hb0 16 (by omega)
  have h20 := fun (m : Nat) => HN.out ((w.alloc (.cells #[.int .u32 0, .int .u32 0, .int .i64 0, .string ⟨#[]⟩, .bool false] 27)).drewN m) (below_drewN hb0 m) 20 (by omega)
  have hlt8 := numb_lt l 8
  have hlt12 := numb_lt l 12
  have h8 := fun (m : Nat) => HN.out ((w.alloc (.cells #[.int .u32 0, .int .u32 0, .int .i64 0, .string ⟨#[]⟩, .bool false] 27)).drewN m) (below_drewN hb0 m) 8 (by omega)
  have h12 := fun (m : Nat) => HN.out ((w.alloc (.cells #[.int .u32 0, .int .u32 0, .int .i64 0, .string ⟨#[]⟩, .bool false] 27)).drewN m) (below_drewN hb0 m) 12 (by omega)
  rw [f1] at h20
  have H8 := Lib.hid h8
  have H12 := Lib.hid h12
  have HSUM := Lib.hid (fun (W : World) (hW : Below w.heap.size w W) => show Calls Tryd.prog 18 #[.slice (some ⟨G, o, none⟩) (l.length - 4) cap] W _ from by
    have := sum_c (some ⟨G, o, none⟩) cap (l.take (l.length - 4)) (by rw [List.length_take]; unfold maxLen; omega) W (.inr ⟨G, o, rfl, by
      have hr := rangeAt_take (fun j v hj => cell_below hW (h j v hj) : W.rangeAt G o (bytesV l)) (l.length - 4)
      rw [show bytesV (l.take (l.length - 4)) = (bytesV l).take (l.length - 4) by simp [bytesV, List.map_take]]; exact hr⟩)
    rw [List.length_take, Nat.min_eq_left (by omega)] at this
    exact this)
  have HEND := Lib.hid (fun (W : World) (hW : Below w.heap.size w W) => show Calls Tryd.prog 51 #[.slice (some ⟨G, o, none⟩) l.length cap, .int .i64 ((l.length : Int) - 4)] W _ from by
    have := HN.out W hW (l.length - 4) (by omega)
    rw [show ((l.length - 4 : Nat) : Int) = (l.length : Int) - 4 by omega, ← hcr] at this
    exact this)
  have HCV := Lib.hid (fun (W : World) (hW : Below w.heap.size w W) (n c : Nat) (hn : n = l.length - 4 - 24) => conv_bytes (fun j v hj => cell_below hW (h j v hj) : W.rangeAt G o (bytesV l)) 24 (l.length - 4) n c (by omega) (by omega) hn)
  have H20 := Lib.hid h20
  generalize numb l 16 = kd at *
  generalize numb l 8 = i8 at *
  generalize numb l 12 = i12 at *
  clear h8 h12 f1
  generalize crc (l.take (l.length - 4)) = cr at *
  obtain ⟨bd, hbd⟩ : ∃ b, bodyOf l 24 (l.length - 4) = b := ⟨_, rfl⟩
  rw [hbd] at HCV ⊢
  clear hcr hbd
  clear h20 h
  go_enter Tryd.func52, Tryd.ntmps52
  go_wp2_with fail
  refine h16.mono ?_; rintro e w1 ⟨rfl, m1, rfl⟩
  clear h16
  go_wp2_with fail
  refine (H20.out m1).mono ?_; rintro e w2 ⟨rfl, m2, rfl⟩
  go_wp2_with fail
  refine (H8.out (m1 + m2)).mono ?_; rintro e w2 ⟨rfl, m3, rfl⟩
  go_wp2_with fail
  refine (H12.out (m1 + m2 + m3)).mono ?_; rintro e w2 ⟨rfl, m4, rfl⟩
  go_wp2_with fail
  refine (HSUM.out _ (by repeat (first | with_reducible exact Below.refl _ _ | with_reducible refine below_drewN ?_ _ | with_reducible refine Below.drew ?_ | with_reducible refine Below.alloc ?_ (by first | (simp; done) | (simp; omega)) _ | with_reducible refine Below.setCell ?_ (by first | (simp; done) | (simp; omega)) _))).mono ?_; rintro e w2 ⟨rfl, rfl⟩
  go_wp2_with fail
  refine (HEND.out _ (by repeat (first | with_reducible exact Below.refl _ _ | with_reducible refine below_drewN ?_ _ | with_reducible refine Below.drew ?_ | with_reducible refine Below.alloc ?_ (by first | (simp; done) | (simp; omega)) _ | with_reducible refine Below.setCell ?_ (by first | (simp; done) | (simp; omega)) _))).mono ?_; rintro e w2 ⟨rfl, m5, rfl⟩
  have hcv := fun (n c : Nat) (hn : n = l.length - 4 - 24) => HCV.out ((((w.alloc (.cells #[.int .u32 0, .int .u32 0, .int .i64 0, .string ⟨#[]⟩, .bool false] 27)).drewN (m1 + m2 + m3 + m4)).alloc (.cells #[.int .u32 (i8 : Int), .int .u32 (i12 : Int), .int .i64 (kd : Int), .string ⟨#[]⟩, .bool true] 27)).drewN m5) (by repeat (first | with_reducible exact Below.refl _ _ | with_reducible refine below_drewN ?_ _ | with_reducible refine Below.drew ?_ | with_reducible refine Below.alloc ?_ (by first | (simp; done) | (simp; omega)) _ | with_reducible refine Below.setCell ?_ (by first | (simp; done) | (simp; omega)) _)) n c hn
  have hcv1 := fun (c : Nat) => hcv (l.length - 4 - 24) c rfl
  clear hcv
  have HH := Lib.hid (show (((((w.alloc (.cells #[.int .u32 0, .int .u32 0, .int .i64 0, .string ⟨#[]⟩, .bool false] 27)).drewN (m1 + m2 + m3 + m4)).alloc (.cells #[.int .u32 (i8 : Int), .int .u32 (i12 : Int), .int .i64 (kd : Int), .string ⟨#[]⟩, .bool true] 27)).drewN m5).setCell ⟨w.heap.size + 1, 3, none⟩ (.string bd)).heap[w.heap.size]? = some (.cells #[.int .u32 0, .int .u32 0, .int .i64 0, .string ⟨#[]⟩, .bool false] 27 (0, 0)) from by rw [heap_setCell_other _ _ _ _ (by simp)]; rw [show ∀ (W : World) (n : Nat), (W.drewN n).heap = W.heap from fun _ _ => rfl, heap_alloc_old _ _ (by simp)]; exact heap_alloc_new w _)
  go_wp2
  (try simp only [Exit.inBlock, Exit.then])
  refine bodyPost_ret (results_cell2 rfl _ _ w.heap.size 27 _ (0, 0) _ (by rfl) (set5 HH.out) Tryd.underlying27 rfl (by kernel_rfl)) rfl ?_
  exact ⟨rfl, below_set5 (by repeat (first | with_reducible exact Below.refl _ _ | with_reducible refine below_drewN ?_ _ | with_reducible refine Below.drew ?_ | with_reducible refine Below.alloc ?_ (by first | (simp; done) | (simp; omega)) _ | with_reducible refine Below.setCell ?_ (by first | (simp; done) | (simp; omega)) _)) (Nat.le_refl _)⟩
set_option maxRecDepth 20000 in
set_option maxHeartbeats 4000000 in
theorem whole_ok0 (G o cap : Nat) (l : List UInt8) (h24 : 24 ≤ l.length) (hl : l.length ≤ 1099511627776) (hcap : 24 < cap) (w : World) (h : w.rangeAt G o (bytesV l)) (k1 : ¬ numb l 16 < 1) (k2 : ¬ 6 < numb l 16) (f1 : numb l 20 = 0) :
    Calls Tryd.prog 52 #[.slice (some ⟨G, o, none⟩) l.length cap] w (UnPost (.ok ⟨numb l 8, numb l 12, numb l 16, bodyOf l 24 l.length, false⟩ l.length) w) := by
  have hb0 : Below w.heap.size w (w.alloc (.cells #[.int .u32 0, .int .u32 0, .int .i64 0, .string ⟨#[]⟩, .bool false] 27)) := (Below.refl _ _).alloc (Nat.le_refl _) _
  have HN := Lib.hid (fun (W : World) (hW : Below w.heap.size w W) (k : Nat) (hk : k + 4 ≤ l.length) => number_c G o cap l k hk hl W (fun j v hj => cell_below hW (h j v hj)))
  have hlt16 := numb_lt l 16
  have h16 := HN.out (w.alloc (.cells #[.int .u32 0, .int .u32 0, .int .i64 0, .string ⟨#[]⟩, .bool false] 27)) hb0 16 (by omega)
  have h20 := fun (m : Nat) => HN.out ((w.alloc (.cells #[.int .u32 0, .int .u32 0, .int .i64 0, .string ⟨#[]⟩, .bool false] 27)).drewN m) (below_drewN hb0 m) 20 (by omega)
  have hlt8 := numb_lt l 8
  have hlt12 := numb_lt l 12
  have h8 := fun (m : Nat) => HN.out ((w.alloc (.cells #[.int .u32 0, .int .u32 0, .int .i64 0, .string ⟨#[]⟩, .bool false] 27)).drewN m) (below_drewN hb0 m) 8 (by omega)
  have h12 := fun (m : Nat) => HN.out ((w.alloc (.cells #[.int .u32 0, .int .u32 0, .int .i64 0, .string ⟨#[]⟩, .bool false] 27)).drewN m) (below_drewN hb0 m) 12 (by omega)
  rw [f1] at h20
  have H8 := Lib.hid h8
  have H12 := Lib.hid h12
  have HCV := Lib.hid (fun (W : World) (hW : Below w.heap.size w W) (n c : Nat) (hn : n = l.length - 24) => conv_bytes (fun j v hj => cell_below hW (h j v hj) : W.rangeAt G o (bytesV l)) 24 l.length n c (by omega) (by omega) hn)
  have H20 := Lib.hid h20
  generalize numb l 16 = kd at *
  generalize numb l 8 = i8 at *
  generalize numb l 12 = i12 at *
  clear h8 h12 f1
  obtain ⟨bd, hbd⟩ : ∃ b, bodyOf l 24 l.length = b := ⟨_, rfl⟩
  rw [hbd] at HCV ⊢
  clear hbd
  clear h20 h
  go_enter Tryd.func52, Tryd.ntmps52
  go_wp2_with fail
  refine h16.mono ?_; rintro e w1 ⟨rfl, m1, rfl⟩
  clear h16
  go_wp2_with fail
  refine (H20.out m1).mono ?_; rintro e w2 ⟨rfl, m2, rfl⟩
  go_wp2_with fail
  refine (H8.out (m1 + m2)).mono ?_; rintro e w2 ⟨rfl, m3, rfl⟩
  go_wp2_with fail
  refine (H12.out (m1 + m2 + m3)).mono ?_; rintro e w2 ⟨rfl, m4, rfl⟩
  have hcv := fun (n c : Nat) (hn : n = l.length - 24) => HCV.out (((w.alloc (.cells #[.int .u32 0, .int .u32 0, .int .i64 0, .string ⟨#[]⟩, .bool false] 27)).drewN (m1 + m2 + m3 + m4)).alloc (.cells #[.int .u32 (i8 : Int), .int .u32 (i12 : Int), .int .i64 (kd : Int), .string ⟨#[]⟩, .bool false] 27)) (by repeat (first | with_reducible exact Below.refl _ _ | with_reducible refine below_drewN ?_ _ | with_reducible refine Below.drew ?_ | with_reducible refine Below.alloc ?_ (by first | (simp; done) | (simp; omega)) _ | with_reducible refine Below.setCell ?_ (by first | (simp; done) | (simp; omega)) _)) n c hn
  have hcv1 := fun (c : Nat) => hcv (l.length - 24) c rfl
  clear hcv
  have HH := Lib.hid (show (((w.alloc (.cells #[.int .u32 0, .int .u32 0, .int .i64 0, .string ⟨#[]⟩, .bool false] 27)).drewN (m1 + m2 + m3 + m4))).heap[w.heap.size]? = some (.cells #[.int .u32 0, .int .u32 0, .int .i64 0, .string ⟨#[]⟩, .bool false] 27 (0, 0)) from by first | exact heap_alloc_new w _ | (rw [heap_alloc_old _ _ (by simp)]; exact heap_alloc_new w _) | (rw [heap_drewN, heap_alloc_old _ _ (by simp)]; exact heap_alloc_new w _))
  go_wp2
  (try simp only [Exit.inBlock, Exit.then])
  refine bodyPost_ret (results_cell2 rfl _ _ w.heap.size 27 _ (0, 0) _ (by rfl) ((heap_alloc_old _ _ (by first | (simp; done) | (simp; omega))).trans (set5 HH.out)) Tryd.underlying27 rfl (by kernel_rfl)) rfl ?_
  exact ⟨rfl, (below_set5 (by repeat (first | with_reducible exact Below.refl _ _ | with_reducible refine below_drewN ?_ _ | with_reducible refine Below.drew ?_ | with_reducible refine Below.alloc ?_ (by first | (simp; done) | (simp; omega)) _ | with_reducible refine Below.setCell ?_ (by first | (simp; done) | (simp; omega)) _)) (Nat.le_refl _)).alloc (by first | (simp; done) | (simp; omega)) _⟩
set_option maxRecDepth 20000 in
set_option maxHeartbeats 4000000 in
theorem whole_short_24 (G o : Nat) (l : List UInt8) (hlen : l.length = 24) (w : World) (h : w.rangeAt G o (bytesV l)) (k1 : ¬ numb l 16 < 1) (k2 : ¬ 6 < numb l 16) (f1 : numb l 20 = 1) :
    Calls Tryd.prog 52 #[.slice (some ⟨G, o, none⟩) 24 24] w (UnPost (.bad 280) w) := by
  have hb0 : Below w.heap.size w (w.alloc (.cells #[.int .u32 0, .int .u32 0, .int .i64 0, .string ⟨#[]⟩, .bool false] 27)) := (Below.refl _ _).alloc (Nat.le_refl _) _
  have HN := Lib.hid (fun (W : World) (hW : Below w.heap.size w W) (k : Nat) (hk : k + 4 ≤ 24) => show Calls Tryd.prog 51 #[.slice (some ⟨G, o, none⟩) 24 24, .int .i64 (k : Int)] W _ from by have := number_c G o 24 l k (by omega) (by omega) W (fun j v hj => cell_below hW (h j v hj)); rw [hlen] at this; exact this)
  have hlt16 := numb_lt l 16
  have h16 := HN.out (w.alloc (.cells #[.int .u32 0, .int .u32 0, .int .i64 0, .string ⟨#[]⟩, .bool false] 27)) hb0 16 (by omega)
  have h20 := fun (m : Nat) => HN.out ((w.alloc (.cells #[.int .u32 0, .int .u32 0, .int .i64 0, .string ⟨#[]⟩, .bool false] 27)).drewN m) (below_drewN hb0 m) 20 (by omega)
  have hlt8 := numb_lt l 8
  have hlt12 := numb_lt l 12
  have h8 := fun (m : Nat) => HN.out ((w.alloc (.cells #[.int .u32 0, .int .u32 0, .int .i64 0, .string ⟨#[]⟩, .bool false] 27)).drewN m) (below_drewN hb0 m) 8 (by omega)
  have h12 := fun (m : Nat) => HN.out ((w.alloc (.cells #[.int .u32 0, .int .u32 0, .int .i64 0, .string ⟨#[]⟩, .bool false] 27)).drewN m) (below_drewN hb0 m) 12 (by omega)
  rw [f1] at h20
  have H8 := Lib.hid h8
  have H12 := Lib.hid h12
  have H20 := Lib.hid h20
  generalize numb l 16 = kd at *
  generalize numb l 8 = i8 at *
  generalize numb l 12 = i12 at *
  clear h8 h12 f1
  clear h20 h
  go_enter Tryd.func52, Tryd.ntmps52
  go_wp2_with fail
  refine h16.mono ?_; rintro e w1 ⟨rfl, m1, rfl⟩
  clear h16
  go_wp2_with fail
  refine (H20.out m1).mono ?_; rintro e w2 ⟨rfl, m2, rfl⟩
  go_wp2_with fail
  refine (H8.out (m1 + m2)).mono ?_; rintro e w2 ⟨rfl, m3, rfl⟩
  go_wp2_with fail
  refine (H12.out (m1 + m2 + m3)).mono ?_; rintro e w2 ⟨rfl, m4, rfl⟩
  have HH := Lib.hid (show (((w.alloc (.cells #[.int .u32 0, .int .u32 0, .int .i64 0, .string ⟨#[]⟩, .bool false] 27)).drewN (m1 + m2 + m3 + m4))).heap[w.heap.size]? = some (.cells #[.int .u32 0, .int .u32 0, .int .i64 0, .string ⟨#[]⟩, .bool false] 27 (0, 0)) from by first | exact heap_alloc_new w _ | (rw [heap_alloc_old _ _ (by simp)]; exact heap_alloc_new w _) | (rw [heap_drewN, heap_alloc_old _ _ (by simp)]; exact heap_alloc_new w _))
  go_wp2
  (try simp only [Exit.inBlock, Exit.then])
  refine bodyPost_ret (results_cell2 rfl _ _ w.heap.size 27 _ (0, 0) _ (by rfl) ((heap_alloc_old _ _ (by first | (simp; done) | (simp; omega))).trans (set5 HH.out)) Tryd.underlying27 rfl (by kernel_rfl)) rfl ?_
  exact ⟨rfl, (below_set5 (by repeat (first | with_reducible exact Below.refl _ _ | with_reducible refine below_drewN ?_ _ | with_reducible refine Below.drew ?_ | with_reducible refine Below.alloc ?_ (by first | (simp; done) | (simp; omega)) _ | with_reducible refine Below.setCell ?_ (by first | (simp; done) | (simp; omega)) _)) (Nat.le_refl _)).alloc (by first | (simp; done) | (simp; omega)) _⟩
set_option maxRecDepth 20000 in
set_option maxHeartbeats 4000000 in
theorem whole_ok0_24 (G o : Nat) (l : List UInt8) (hlen : l.length = 24) (w : World) (h : w.rangeAt G o (bytesV l)) (k1 : ¬ numb l 16 < 1) (k2 : ¬ 6 < numb l 16) (f1 : numb l 20 = 0) :
    Calls Tryd.prog 52 #[.slice (some ⟨G, o, none⟩) 24 24] w (UnPost (.ok ⟨numb l 8, numb l 12, numb l 16, bodyOf l 24 l.length, false⟩ l.length) w) := by
  have hb0 : Below w.heap.size w (w.alloc (.cells #[.int .u32 0, .int .u32 0, .int .i64 0, .string ⟨#[]⟩, .bool false] 27)) := (Below.refl _ _).alloc (Nat.le_refl _) _
  have HN := Lib.hid (fun (W : World) (hW : Below w.heap.size w W) (k : Nat) (hk : k + 4 ≤ 24) => show Calls Tryd.prog 51 #[.slice (some ⟨G, o, none⟩) 24 24, .int .i64 (k : Int)] W _ from by have := number_c G o 24 l k (by omega) (by omega) W (fun j v hj => cell_below hW (h j v hj)); rw [hlen] at this; exact this)
  have hlt16 := numb_lt l 16
  have h16 := HN.out (w.alloc (.cells #[.int .u32 0, .int .u32 0, .int .i64 0, .string ⟨#[]⟩, .bool false] 27)) hb0 16 (by omega)
  have h20 := fun (m : Nat) => HN.out ((w.alloc (.cells #[.int .u32 0, .int .u32 0, .int .i64 0, .string ⟨#[]⟩, .bool false] 27)).drewN m) (below_drewN hb0 m) 20 (by omega)
  have hlt8 := numb_lt l 8
  have hlt12 := numb_lt l 12
  have h8 := fun (m : Nat) => HN.out ((w.alloc (.cells #[.int .u32 0, .int .u32 0, .int .i64 0, .string ⟨#[]⟩, .bool false] 27)).drewN m) (below_drewN hb0 m) 8 (by omega)
  have h12 := fun (m : Nat) => HN.out ((w.alloc (.cells #[.int .u32 0, .int .u32 0, .int .i64 0, .string ⟨#[]⟩, .bool false] 27)).drewN m) (below_drewN hb0 m) 12 (by omega)
  rw [f1] at h20
  have H8 := Lib.hid h8
  have H12 := Lib.hid h12
  have hbd : bodyOf l 24 l.length = ⟨#[]⟩ := by unfold bodyOf; rw [List.take_length, List.drop_of_length_le (by omega)]
  have kcv := fun (W : World) => run_convert_bytes_nil0 W G o
  have H20 := Lib.hid h20
  generalize numb l 16 = kd at *
  generalize numb l 8 = i8 at *
  generalize numb l 12 = i12 at *
  clear h8 h12 f1
  rw [hbd, hlen]
  clear hbd hlen
  clear h20 h
  go_enter Tryd.func52, Tryd.ntmps52
  go_wp2_with fail
  refine h16.mono ?_; rintro e w1 ⟨rfl, m1, rfl⟩
  clear h16
  go_wp2_with fail
  refine (H20.out m1).mono ?_; rintro e w2 ⟨rfl, m2, rfl⟩
  go_wp2_with fail
  refine (H8.out (m1 + m2)).mono ?_; rintro e w2 ⟨rfl, m3, rfl⟩
  go_wp2_with fail
  refine (H12.out (m1 + m2 + m3)).mono ?_; rintro e w2 ⟨rfl, m4, rfl⟩
  have HH := Lib.hid (show (((w.alloc (.cells #[.int .u32 0, .int .u32 0, .int .i64 0, .string ⟨#[]⟩, .bool false] 27)).drewN (m1 + m2 + m3 + m4))).heap[w.heap.size]? = some (.cells #[.int .u32 0, .int .u32 0, .int .i64 0, .string ⟨#[]⟩, .bool false] 27 (0, 0)) from by first | exact heap_alloc_new w _ | (rw [heap_alloc_old _ _ (by simp)]; exact heap_alloc_new w _) | (rw [heap_drewN, heap_alloc_old _ _ (by simp)]; exact heap_alloc_new w _))
  go_wp2
  (try simp only [Exit.inBlock, Exit.then])
  refine bodyPost_ret (results_cell2 rfl _ _ w.heap.size 27 _ (0, 0) _ (by rfl) ((heap_alloc_old _ _ (by first | (simp; done) | (simp; omega))).trans (set5 HH.out)) Tryd.underlying27 rfl (by kernel_rfl)) rfl ?_
  exact ⟨rfl, (below_set5 (by repeat (first | with_reducible exact Below.refl _ _ | with_reducible refine below_drewN ?_ _ | with_reducible refine Below.drew ?_ | with_reducible refine Below.alloc ?_ (by first | (simp; done) | (simp; omega)) _ | with_reducible refine Below.setCell ?_ (by first | (simp; done) | (simp; omega)) _)) (Nat.le_refl _)).alloc (by first | (simp; done) | (simp; omega)) _⟩
theorem whole_c (G o cap : Nat) (l : List UInt8) (h24 : 24 ≤ l.length) (hl : l.length ≤ 1099511627776) (hc : l.length ≤ cap) (w : World) (h : w.rangeAt G o (bytesV l)) :
    Calls Tryd.prog 52 #[.slice (some ⟨G, o, none⟩) l.length cap] w (UnPost (whole l l.length) w) := by
  unfold whole
  by_cases hk : numb l 16 < 1 ∨ 6 < numb l 16
  · rw [if_pos hk]; exact whole_kind G o cap l h24 hl w h hk
  · rw [if_neg hk]
    have k1 : ¬ numb l 16 < 1 := fun e => hk (.inl e)
    have k2 : ¬ 6 < numb l 16 := fun e => hk (.inr e)
    by_cases hf : 1 < numb l 20
    · rw [if_pos hf]; exact whole_flags G o cap l h24 hl w h k1 k2 hf
    · rw [if_neg hf]
      by_cases f1 : numb l 20 = 1
      · rw [if_pos f1]
        by_cases hn : l.length < 28
        · rw [if_pos hn]
          by_cases hcap : 24 < cap
          · exact whole_short G o cap l h24 hl hcap w h k1 k2 f1 hn
          · obtain rfl : cap = 24 := by omega
            have hlen : l.length = 24 := by omega
            have := whole_short_24 G o l hlen w h k1 k2 f1
            rw [hlen]; exact this
        · rw [if_neg hn]
          by_cases hcr : crc (l.take (l.length - 4)) = numb l (l.length - 4)
          · rw [if_neg (fun e => e hcr)]; exact whole_ok1 G o cap l (by omega) hl hc w h k1 k2 f1 hcr
          · rw [if_pos hcr]; exact whole_sum G o cap l (by omega) hl hc w h k1 k2 f1 hcr
      · rw [if_neg f1]
        by_cases hcap : 24 < cap
        · exact whole_ok0 G o cap l h24 hl hcap w h k1 k2 (by omega)
        · obtain rfl : cap = 24 := by omega
          have hlen : l.length = 24 := by omega
          have := whole_ok0_24 G o l hlen w h k1 k2 (by omega)
          rw [hlen] at this ⊢; exact this
end Go.Proofs.YtkpickojeghppaaDoor
