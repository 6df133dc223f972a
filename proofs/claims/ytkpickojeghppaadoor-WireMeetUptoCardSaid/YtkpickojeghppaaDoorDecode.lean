/- The walks of Unpack, the program and the document. Conditions: what the laws name. -/
import Derived.Test.YtkpickojeghppaaDoorCode
import Derived.Lib.QuietBelow
import Derived.Deep.LoopGhost
import Derived.Deep.RegionHeld3
namespace Go.Proofs.YtkpickojeghppaaDoor
open Go.RowKit
theorem results_cell2 {P : Program} {fn : Func} {p t u : Tmp} {ty : TypeId} (h : fn.results = #[.cell p ty, .tmp t, .tmp u]) (tmps : Array Value) (w : World) (g : Nat) (T : TypeId) (cs : Array Value) (fr : Nat × Nat) (d : TypeDesc)
    (hp : tmps.getD p undef = .pointer (some ⟨g, 0, none⟩)) (hg : w.heap[g]? = some (.cells cs T fr))
    (hu : P.underlying ty = some d) (hd : (match d with | .struct _ | .array _ _ => true | _ => false) = true) (hi : (P.info? ty).map (·.size) = some cs.size) :
    (results fn tmps).run P w = .ok (.tuple #[.agg cs, tmps.getD t undef, tmps.getD u undef]) w := by
  have hp' : tmps[p]?.getD undef = .pointer (some ⟨g, 0, none⟩) := by simpa using hp
  simp [results, h, hp', asAddr, run_loadVar_row w g T ty cs fr d hg hu hd hi]
/-- what Unpack answers -/
def UnPost (r : UR) (w : World) (e : Ending) (w' : World) : Prop :=
  e = .returned (.tuple #[.agg (msgV r.msg).toArray, .int .i64 (r.len : Int), .int .i64 (r.err : Int)]) ∧ Below w.heap.size w w'
theorem whole_take (l : List UInt8) (n : Nat) (h : n ≤ l.length) (h24 : 24 ≤ n) : whole (l.take n) n = whole l n := by
  have e : ∀ k, k + 4 ≤ n → numb (l.take n) k = numb l k := fun k hk => by
    have := numb_left (l.take n) (l.drop n) k (by rw [List.length_take]; omega)
    rw [List.take_append_drop] at this
    exact this.symm
  have t : ∀ k, k ≤ n → (l.take n).take k = l.take k := fun k hk => by rw [List.take_take, Nat.min_eq_left hk]
  unfold whole bodyOf
  rw [e 16 (by omega), e 20 (by omega), e 8 (by omega), e 12 (by omega), t n (Nat.le_refl _), t (n - 4) (by omega)]
  by_cases h1 : numb l 20 = 1
  · rw [e (n - 4) (by omega)]
  · rw [if_neg h1, if_neg h1]
theorem conv_bytes {w : World} {G o : Nat} {l : List UInt8} (h : w.rangeAt G o (bytesV l)) (a b n cap : Nat) (hab : a ≤ b) (hb : b ≤ l.length) (hn : n = b - a) :
    (convert 28 9 (.slice (some ⟨G, o + a, none⟩) n cap)).run Tryd.prog w = .ok (.string (bodyOf l a b)) w := by
  have hl : ((l.take b).drop a).length = n := by rw [List.length_drop, List.length_take]; omega
  have := run_convert_bytes_back (P := Tryd.prog) w 28 9 5 ⟨G, o + a, none⟩ cap ((l.take b).drop a) bytTy.slice (by kernel_rfl) Tryd.underlying9 (fun j hj => by
    rw [Addr.add_mid]
    have h1 : w.cell? ⟨G, o + (a + j), none⟩ = some (.int .u8 ((l[a + j]'(by omega)).toNat : Int)) := range_byte h (a + j) (by omega)
    rw [← Nat.add_assoc] at h1
    rw [h1]
    simp)
  rw [hl] at this
  exact this
theorem set5 {w : World} {B : Nat} {T : TypeId} {u0 u1 u2 u3 u4 c0 c1 c2 c3 c4 : Value} (h : w.heap[B]? = some (.cells #[u0, u1, u2, u3, u4] T (0, 0))) :
    (((((w.setCell ⟨B, 0, none⟩ c0).setCell ⟨B, 1, none⟩ c1).setCell ⟨B, 2, none⟩ c2).setCell ⟨B, 3, none⟩ c3).setCell ⟨B, 4, none⟩ c4).heap[B]? = some (.cells #[c0, c1, c2, c3, c4] T (0, 0)) :=
  heap_setCell_same _ _ _ _ _ _ (heap_setCell_same _ _ _ _ _ _ (heap_setCell_same _ _ _ _ _ _ (heap_setCell_same _ _ _ _ _ _ (heap_setCell_same _ _ _ _ _ _ h))))
theorem below_set5 {a w : World} {B n : Nat} {c0 c1 c2 c3 c4 : Value} (h : Below n a w) (hB : n ≤ B) :
    Below n a (((((w.setCell ⟨B, 0, none⟩ c0).setCell ⟨B, 1, none⟩ c1).setCell ⟨B, 2, none⟩ c2).setCell ⟨B, 3, none⟩ c3).setCell ⟨B, 4, none⟩ c4) :=
  ((((h.setCell hB _).setCell hB _).setCell hB _).setCell hB _).setCell hB _
theorem other_set5 {w : World} {B b : Nat} {c0 c1 c2 c3 c4 : Value} (h : b ≠ B) :
    (((((w.setCell ⟨B, 0, none⟩ c0).setCell ⟨B, 1, none⟩ c1).setCell ⟨B, 2, none⟩ c2).setCell ⟨B, 3, none⟩ c3).setCell ⟨B, 4, none⟩ c4).heap[b]? = w.heap[b]? := by
  rw [heap_setCell_other _ _ _ _ h, heap_setCell_other _ _ _ _ h, heap_setCell_other _ _ _ _ h, heap_setCell_other _ _ _ _ h, heap_setCell_other _ _ _ _ h]
theorem heap_drewN (w : World) (n : Nat) : (w.drewN n).heap = w.heap := rfl
theorem run_convert_bytes_nil0 (w : World) (G o : Nat) : (convert 28 9 (.slice (some ⟨G, o, none⟩) 0 0)).run Tryd.prog w = .ok (.string ⟨#[]⟩) w :=
  run_convert_bytes_back (P := Tryd.prog) w 28 9 5 ⟨G, o, none⟩ 0 [] bytTy.slice (by kernel_rfl) Tryd.underlying9 (fun j hj => by simp at hj)
theorem bne_of {a b : Int} (h : (a == b) = false) : (a != b) = true := by rw [bne, h]; rfl
theorem byte_ne {c d : UInt8} (h : c ≠ d) : ((c.toNat : Int) == (d.toNat : Int)) = false := by
  rw [beq_eq_false_iff_ne]; intro e; exact h (UInt8.toNat_inj.1 (by omega))
set_option maxRecDepth 20000 in
set_option maxHeartbeats 4000000 in
theorem whole_kind (G o cap : Nat) (l : List UInt8) (h24 : 24 ≤ l.length) (hl : l.length ≤ 1099511627776) (w : World) (h : w.rangeAt G o (bytesV l)) (hk : numb l 16 < 1 ∨ 6 < numb l 16) :
    Calls Tryd.prog 52 #[.slice (some ⟨G, o, none⟩) l.length cap] w (UnPost (.bad 281) w) := by
  have hb0 : Below w.heap.size w (w.alloc (.cells #[.int .u32 0, .int .u32 0, .int .i64 0, .string ⟨#[]⟩, .bool false] 27)) := (Below.refl _ _).alloc (Nat.le_refl _) _
  have HN := Lib.hid (fun (W : World) (hW : Below w.heap.size w W) (k : Nat) (hk : k + 4 ≤ l.length) => number_c G o cap l k hk hl W (fun j v hj => cell_below hW (h j v hj)))
  have hlt16 := numb_lt l 16
  have h16 := HN.out (w.alloc (.cells #[.int .u32 0, .int .u32 0, .int .i64 0, .string ⟨#[]⟩, .bool false] 27)) hb0 16 (by omega)
  have h20 := fun (m : Nat) => HN.out ((w.alloc (.cells #[.int .u32 0, .int .u32 0, .int .i64 0, .string ⟨#[]⟩, .bool false] 27)).drewN m) (below_drewN hb0 m) 20 (by omega)
  have H20 := Lib.hid h20
  generalize numb l 16 = kd at *
  generalize numb l 20 = fl at *
  clear h20 h
  go_enter Tryd.func52, Tryd.ntmps52
  go_wp2_with fail
  refine h16.mono ?_; rintro e w1 ⟨rfl, m1, rfl⟩
  clear h16
  go_wp2_with fail
  refine (H20.out m1).mono ?_; rintro e w2 ⟨rfl, m2, rfl⟩
  rcases hk with hk | hk
  · have HH := Lib.hid (show (((w.alloc (.cells #[.int .u32 0, .int .u32 0, .int .i64 0, .string ⟨#[]⟩, .bool false] 27)).drewN (m1 + m2))).heap[w.heap.size]? = some (.cells #[.int .u32 0, .int .u32 0, .int .i64 0, .string ⟨#[]⟩, .bool false] 27 (0, 0)) from by first | exact heap_alloc_new w _ | (rw [heap_alloc_old _ _ (by simp)]; exact heap_alloc_new w _) | (rw [heap_drewN, heap_alloc_old _ _ (by simp)]; exact heap_alloc_new w _))
    go_wp2
    (try simp only [Exit.inBlock, Exit.then])
    refine bodyPost_ret (results_cell2 rfl _ _ w.heap.size 27 _ (0, 0) _ (by rfl) (set5 HH.out) Tryd.underlying27 rfl (by kernel_rfl)) rfl ?_
    exact ⟨rfl, below_set5 (by repeat (first | with_reducible exact Below.refl _ _ | with_reducible refine below_drewN ?_ _ | with_reducible refine Below.drew ?_ | with_reducible refine Below.alloc ?_ (by first | (simp; done) | (simp; omega)) _ | with_reducible refine Below.setCell ?_ (by first | (simp; done) | (simp; omega)) _)) (Nat.le_refl _)⟩
  · have hk' : ¬ kd < 1 := by omega
    have HH := Lib.hid (show (((w.alloc (.cells #[.int .u32 0, .int .u32 0, .int .i64 0, .string ⟨#[]⟩, .bool false] 27)).drewN (m1 + m2))).heap[w.heap.size]? = some (.cells #[.int .u32 0, .int .u32 0, .int .i64 0, .string ⟨#[]⟩, .bool false] 27 (0, 0)) from by first | exact heap_alloc_new w _ | (rw [heap_alloc_old _ _ (by simp)]; exact heap_alloc_new w _) | (rw [heap_drewN, heap_alloc_old _ _ (by simp)]; exact heap_alloc_new w _))
    go_wp2
    (try simp only [Exit.inBlock, Exit.then])
    refine bodyPost_ret (results_cell2 rfl _ _ w.heap.size 27 _ (0, 0) _ (by rfl) (set5 HH.out) Tryd.underlying27 rfl (by kernel_rfl)) rfl ?_
    exact ⟨rfl, below_set5 (by repeat (first | with_reducible exact Below.refl _ _ | with_reducible refine below_drewN ?_ _ | with_reducible refine Below.drew ?_ | with_reducible refine Below.alloc ?_ (by first | (simp; done) | (simp; omega)) _ | with_reducible refine Below.setCell ?_ (by first | (simp; done) | (simp; omega)) _)) (Nat.le_refl _)⟩
set_option maxRecDepth 20000 in
set_option maxHeartbeats 4000000 in
theorem whole_flags (G o cap : Nat) (l : List UInt8) (h24 : 24 ≤ l.length) (hl : l.length ≤ 1099511627776) (w : World) (h : w.rangeAt G o (bytesV l)) (k1 : ¬ numb l 16 < 1) (k2 : ¬ 6 < numb l 16) (hf : 1 < numb l 20) :
    Calls Tryd.prog 52 #[.slice (some ⟨G, o, none⟩) l.length cap] w (UnPost (.bad 282) w) := by
  have hb0 : Below w.heap.size w (w.alloc (.cells #[.int .u32 0, .int .u32 0, .int .i64 0, .string ⟨#[]⟩, .bool false] 27)) := (Below.refl _ _).alloc (Nat.le_refl _) _
  have HN := Lib.hid (fun (W : World) (hW : Below w.heap.size w W) (k : Nat) (hk : k + 4 ≤ l.length) => number_c G o cap l k hk hl W (fun j v hj => cell_below hW (h j v hj)))
  have hlt16 := numb_lt l 16
  have h16 := HN.out (w.alloc (.cells #[.int .u32 0, .int .u32 0, .int .i64 0, .string ⟨#[]⟩, .bool false] 27)) hb0 16 (by omega)
  have h20 := fun (m : Nat) => HN.out ((w.alloc (.cells #[.int .u32 0, .int .u32 0, .int .i64 0, .string ⟨#[]⟩, .bool false] 27)).drewN m) (below_drewN hb0 m) 20 (by omega)
  have H20 := Lib.hid h20
  generalize numb l 16 = kd at *
  generalize numb l 20 = fl at *
  clear h20 h
  go_enter Tryd.func52, Tryd.ntmps52
  go_wp2_with fail
  refine h16.mono ?_; rintro e w1 ⟨rfl, m1, rfl⟩
  clear h16
  go_wp2_with fail
  refine (H20.out m1).mono ?_; rintro e w2 ⟨rfl, m2, rfl⟩
  have HH := Lib.hid (show (((w.alloc (.cells #[.int .u32 0, .int .u32 0, .int .i64 0, .string ⟨#[]⟩, .bool false] 27)).drewN (m1 + m2))).heap[w.heap.size]? = some (.cells #[.int .u32 0, .int .u32 0, .int .i64 0, .string ⟨#[]⟩, .bool false] 27 (0, 0)) from by first | exact heap_alloc_new w _ | (rw [heap_alloc_old _ _ (by simp)]; exact heap_alloc_new w _) | (rw [heap_drewN, heap_alloc_old _ _ (by simp)]; exact heap_alloc_new w _))
  go_wp2
  (try simp only [Exit.inBlock, Exit.then])
  refine bodyPost_ret (results_cell2 rfl _ _ w.heap.size 27 _ (0, 0) _ (by rfl) (set5 HH.out) Tryd.underlying27 rfl (by kernel_rfl)) rfl ?_
  exact ⟨rfl, below_set5 (by repeat (first | with_reducible exact Below.refl _ _ | with_reducible refine below_drewN ?_ _ | with_reducible refine Below.drew ?_ | with_reducible refine Below.alloc ?_ (by first | (simp; done) | (simp; omega)) _ | with_reducible refine Below.setCell ?_ (by first | (simp; done) | (simp; omega)) _)) (Nat.le_refl _)⟩
set_option maxRecDepth 20000 in
set_option maxHeartbeats 4000000 in
theorem whole_short (G o cap : Nat) (l : List UInt8) (h24 : 24 ≤ l.length) (hl : l.length ≤ 1099511627776) (hcap : 24 < cap) (w : World) (h : w.rangeAt G o (bytesV l)) (k1 : ¬ numb l 16 < 1) (k2 : ¬ 6 < numb l 16) (f1 : numb l 20 = 1) (hn : l.length < 28) :
    Calls Tryd.prog 52 #[.slice (some ⟨G, o, none⟩) l.length cap] w (UnPost (.bad 280) w) := by
  have hb0 : Below w.heap.size w (w.alloc (.cells #[.int .u32 0, .int .u32 0, .int .i64 0, .string ⟨#[]⟩, .bool false] 27)) := (Below.refl _ _).alloc (Nat.le_refl _) _
  have HN := Lib.hid (fun (W : World) (hW : Below w.heap.size w W) (k : Nat) (hk : k + 4 ≤ l.length) => number_c G o cap l k hk hl W (fun j v hj => cell_below hW (h j v hj)))
  have hlt16 := numb_lt l 16
  have h16 := HN.out (w.alloc (.cells #[.int .u32 0, .int .u32 0, .int .i64 0, .string ⟨#[]⟩, .bool false] 27)) hb0 16 (by omega)
  have h20 := fun (m : Nat) => HN.out ((w.alloc (.cells #[.int .u32 0, .int .u32 0, .int .i64 0, .string ⟨#[]⟩, .bool false] 27)).drewN m) (below_drewN hb0 m) 20 (by omega)
  have hlt8 := numb_lt l 8
  have hlt12 := numb_lt l 12
  have h8 := fun (m : Nat) => HN.out ((w.alloc (.cells #[.int .u32 0, .int .u32 0, .int .i64 0, .string ⟨#[]⟩, .bool false] 27)).drewN m) (below_drewN hb0 m) 8 (by omega)
  have h12 := fun (m : Nat) => HN.out ((w.alloc (.cells #[.int .u32 0, .int .u32 0, .int .i64 0, .string ⟨#[]⟩, .bool false] 27)).drewN m) (below_drewN hb0 m) 12 (by omega)
  rw [f1] at h20
  have H8 := Lib.hid h8
  have H12 := Lib.hid h12
  have H20 := Lib.hid h20
  generalize numb l 16 = kd at *
  generalize numb l 8 = i8 at *
  generalize numb l 12 = i12 at *
  clear h8 h12 f1
  clear h20 h
  go_enter Tryd.func52, Tryd.ntmps52
  go_wp2_with fail
  refine h16.mono ?_; rintro e w1 ⟨rfl, m1, rfl⟩
  clear h16
  go_wp2_with fail
  refine (H20.out m1).mono ?_; rintro e w2 ⟨rfl, m2, rfl⟩
  go_wp2_with fail
  refine (H8.out (m1 + m2)).mono ?_; rintro e w2 ⟨rfl, m3, rfl⟩
  go_wp2_with fail
  refine (H12.out (m1 + m2 + m3)).mono ?_; rintro e w2 ⟨rfl, m4, rfl⟩
  have hs4 : ((l.length - 24 : Nat) : Int) < 4 := by omega
  have HH := Lib.hid (show (((w.alloc (.cells #[.int .u32 0, .int .u32 0, .int .i64 0, .string ⟨#[]⟩, .bool false] 27)).drewN (m1 + m2 + m3 + m4))).heap[w.heap.size]? = some (.cells #[.int .u32 0, .int .u32 0, .int .i64 0, .string ⟨#[]⟩, .bool false] 27 (0, 0)) from by first | exact heap_alloc_new w _ | (rw [heap_alloc_old _ _ (by simp)]; exact heap_alloc_new w _) | (rw [heap_drewN, heap_alloc_old _ _ (by simp)]; exact heap_alloc_new w _))
  go_wp2
  (try simp only [Exit.inBlock, Exit.then])
  refine bodyPost_ret (results_cell2 rfl _ _ w.heap.size 27 _ (0, 0) _ (by rfl) ((heap_alloc_old _ _ (by first | (simp; done) | (simp; omega))).trans (set5 HH.out)) Tryd.underlying27 rfl (by kernel_rfl)) rfl ?_
  exact ⟨rfl, (below_set5 (by repeat (first | with_reducible exact Below.refl _ _ | with_reducible refine below_drewN ?_ _ | with_reducible refine Below.drew ?_ | with_reducible refine Below.alloc ?_ (by first | (simp; done) | (simp; omega)) _ | with_reducible refine Below.setCell ?_ (by first | (simp; done) | (simp; omega)) _)) (Nat.le_refl _)).alloc (by first | (simp; done) | (simp; omega)) _⟩
set_option maxRecDepth 20000 in
set_option maxHeartbeats 4000000 in
theorem whole_sum (G o cap : Nat) (l : List UInt8) (h24 : 28 ≤ l.length) (hl : l.length ≤ 1099511627776) (hc : l.length ≤ cap) (w : World) (h : w.rangeAt G o (bytesV l)) (k1 : ¬ numb l 16 < 1) (k2 : ¬ 6 < numb l 16) (f1 : numb l 20 = 1) (hcr : crc (l.take (l.length - 4)) ≠ numb l (l.length - 4)) :
    Calls Tryd.prog 52 #[.slice (some ⟨G, o, none⟩) l.length cap] w (UnPost (.bad 283) w) := by
  have hb0 : Below w.heap.size w (w.alloc (.cells #[.int .u32 0, .int .u32 0, .int .i64 0, .string ⟨#[]⟩, .bool false] 27)) := (Below.refl _ _).alloc (Nat.le_refl _) _
  have HN := Lib.hid (fun (W : World) (hW : Below w.heap.size w W) (k : Nat) (hk : k + 4 ≤ l.length) => number_c G o cap l k hk hl W (fun j v hj => cell_below hW (h j v hj)))
  have hlt16 := numb_lt l 16
  have h16 := HN.out (w.alloc (.cells #[.int .u32 0, .int .u32 0, .int .i64 0, .string ⟨#[]⟩, .bool false] 27)) hb0 16 (by omega)
  have h20 := fun (m : Nat) => HN.out ((w.alloc (.cells #[.int .u32 0, .int .u32 0, .int .i64 0, .string ⟨#[]⟩, .bool false] 27)).drewN m) (below_drewN hb0 m) 20 (by omega)
  have hlt8 := numb_lt l 8
  have hlt12 := numb_lt l 12
  have h8 := fun (m : Nat) => HN.out ((w.alloc (.cells #[.int .u32 0, .int .u32 0, .int .i64 0, .string ⟨#[]⟩, .bool false] 27)).drewN m) (below_drewN hb0 m) 8 (by omega)
  have h12 := fun (m : Nat) => HN.out ((w.alloc (.cells #[.int .u32 0, .int .u32 0, .int .i64 0, .string ⟨#[]⟩, .bool false] 27)).drewN m) (below_drewN hb0 m) 12 (by omega)
  rw [f1] at h20
  have H8 := Lib.hid h8
  have H12 := Lib.hid h12
  have HSUM := Lib.hid (fun (W : World) (hW : Below w.heap.size w W) => show Calls Tryd.prog 18 #[.slice (some ⟨G, o, none⟩) (l.length - 4) cap] W _ from by
    have := sum_c (some ⟨G, o, none⟩) cap (l.take (l.length - 4)) (by rw [List.length_take]; unfold maxLen; omega) W (.inr ⟨G, o, rfl, by
      have hr := rangeAt_take (fun j v hj => cell_below hW (h j v hj) : W.rangeAt G o (bytesV l)) (l.length - 4)
      rw [show bytesV (l.take (l.length - 4)) = (bytesV l).take (l.length - 4) by simp [bytesV, List.map_take]]; exact hr⟩)
    rw [List.length_take, Nat.min_eq_left (by omega)] at this
    exact this)
  have HEND := Lib.hid (fun (W : World) (hW : Below w.heap.size w W) => show Calls Tryd.prog 51 #[.slice (some ⟨G, o, none⟩) l.length cap, .int .i64 ((l.length : Int) - 4)] W _ from by
    have := HN.out W hW (l.length - 4) (by omega)
    rw [show ((l.length - 4 : Nat) : Int) = (l.length : Int) - 4 by omega] at this
    exact this)
  have HCV := Lib.hid (fun (W : World) (hW : Below w.heap.size w W) (n c : Nat) (hn : n = l.length - 4 - 24) => conv_bytes (fun j v hj => cell_below hW (h j v hj) : W.rangeAt G o (bytesV l)) 24 (l.length - 4) n c (by omega) (by omega) hn)
  have H20 := Lib.hid h20
  generalize numb l 16 = kd at *
  generalize numb l 8 = i8 at *
  generalize numb l 12 = i12 at *
  clear h8 h12 f1
  have hbn : ((crc (l.take (l.length - 4)) : Int) != (numb l (l.length - 4) : Int)) = true := by rw [bne_iff_ne]; omega
  generalize crc (l.take (l.length - 4)) = cr at *
  generalize numb l (l.length - 4) = nb at *
  clear hcr
  clear h20 h
  go_enter Tryd.func52, Tryd.ntmps52
  go_wp2_with fail
  refine h16.mono ?_; rintro e w1 ⟨rfl, m1, rfl⟩
  clear h16
  go_wp2_with fail
  refine (H20.out m1).mono ?_; rintro e w2 ⟨rfl, m2, rfl⟩
  go_wp2_with fail
  refine (H8.out (m1 + m2)).mono ?_; rintro e w2 ⟨rfl, m3, rfl⟩
  go_wp2_with fail
  refine (H12.out (m1 + m2 + m3)).mono ?_; rintro e w2 ⟨rfl, m4, rfl⟩
  go_wp2_with fail
  refine (HSUM.out _ (by repeat (first | with_reducible exact Below.refl _ _ | with_reducible refine below_drewN ?_ _ | with_reducible refine Below.drew ?_ | with_reducible refine Below.alloc ?_ (by first | (simp; done) | (simp; omega)) _ | with_reducible refine Below.setCell ?_ (by first | (simp; done) | (simp; omega)) _))).mono ?_; rintro e w2 ⟨rfl, rfl⟩
  go_wp2_with fail
  refine (HEND.out _ (by repeat (first | with_reducible exact Below.refl _ _ | with_reducible refine below_drewN ?_ _ | with_reducible refine Below.drew ?_ | with_reducible refine Below.alloc ?_ (by first | (simp; done) | (simp; omega)) _ | with_reducible refine Below.setCell ?_ (by first | (simp; done) | (simp; omega)) _))).mono ?_; rintro e w2 ⟨rfl, m5, rfl⟩
  have HH := Lib.hid (show (((((w.alloc (.cells #[.int .u32 0, .int .u32 0, .int .i64 0, .string ⟨#[]⟩, .bool false] 27)).drewN (m1 + m2 + m3 + m4)).alloc (.cells #[.int .u32 (i8 : Int), .int .u32 (i12 : Int), .int .i64 (kd : Int), .string ⟨#[]⟩, .bool true] 27)).drewN m5)).heap[w.heap.size]? = some (.cells #[.int .u32 0, .int .u32 0, .int .i64 0, .string ⟨#[]⟩, .bool false] 27 (0, 0)) from by first | exact heap_alloc_new w _ | (rw [heap_alloc_old _ _ (by simp)]; exact heap_alloc_new w _) | (rw [heap_drewN, heap_alloc_old _ _ (by simp)]; exact heap_alloc_new w _))
  go_wp2
  (try simp only [Exit.inBlock, Exit.then])
  refine bodyPost_ret (results_cell2 rfl _ _ w.heap.size 27 _ (0, 0) _ (by rfl) (set5 HH.out) Tryd.underlying27 rfl (by kernel_rfl)) rfl ?_
  exact ⟨rfl, below_set5 (by repeat (first | with_reducible exact Below.refl _ _ | with_reducible refine below_drewN ?_ _ | with_reducible refine Below.drew ?_ | with_reducible refine Below.alloc ?_ (by first | (simp; done) | (simp; omega)) _ | with_reducible refine Below.setCell ?_ (by first | (simp; done) | (simp; omega)) _)) (Nat.le_refl _)⟩
set_option maxRecDepth 20000 in
set_option maxHeartbeats 4000000 in
theorem whole_ok1 (G o cap : Nat) (l : List UInt8) (h24 : 28 ≤ l.length) (hl : l.length ≤ 1099511627776) (hc : l.length ≤ cap) (w : World) (h : w.rangeAt G o (bytesV l)) (k1 : ¬ numb l 16 < 1) (k2 : ¬ 6 < numb l 16) (f1 : numb l 20 = 1) (hcr : crc (l.take (l.length - 4)) = numb l (l.length - 4)) :
    Calls Tryd.prog 52 #[.slice (some ⟨G, o, none⟩) l.length cap] w (UnPost (.ok ⟨numb l 8, numb l 12, numb l 16, bodyOf l 24 (l.length - 4), true⟩ l.length) w) := by
  have hb0 : Below w.heap.size w (w.alloc (.cells #[.int .u32 0, .int .u32 0, .int .i64 0, .string ⟨#[]⟩, .bool false] 27)) := (Below.refl _ _).alloc (Nat.le_refl _) _
  have HN := Lib.hid (fun (W : World) (hW : Below w.heap.size w W) (k : Nat) (hk : k + 4 ≤ l.length) => number_c G o cap l k hk hl W (fun j v hj => cell_below hW (h j v hj)))
  have hlt16 := numb_lt l 16
  have h16 := HN.out (w.alloc (.cells #[.int .u32 0, .int .u32 0, .int .i64 0, .string ⟨#[]⟩, .bool false] 27)) hb0 16 (by omega)
  have h20 := fun (m : Nat) => HN.out ((w.alloc (.cells #[.int .u32 0, .int .u32 0, .int .i64 0, .string ⟨#[]⟩, .bool false] 27)).drewN m) (below_drewN hb0 m) 20 (by omega)
  have hlt8 := numb_lt l 8
  have hlt12 := numb_lt l 12
  have h8 := fun (m : Nat) => HN.out ((w.alloc (.cells #[.int .u32 0, .int .u32 0, .int .i64 0, .string ⟨#[]⟩, .bool false] 27)).drewN m) (below_drewN hb0 m) 8 (by omega)
  have h12 := fun (m : Nat) => HN.out ((w.alloc (.cells #[.int .u32 0, .int .u32 0, .int .i64 0, .string ⟨#[]⟩, .bool false] 27)).drewN m) (below_drewN hb0 m) 12 (by omega)
  rw [f1] at h20
  have H8 := Lib.hid h8
  have H12 := Lib.hid h12
  have HSUM := Lib.hid (fun (W : World) (hW : Below w.heap.size w W) => show Calls Tryd.prog 18 #[.slice (some ⟨G, o, none⟩) (l.length - 4) cap] W _ from by
    have := sum_c (some ⟨G, o, none⟩) cap (l.take (l.length - 4)) (by rw [List.length_take]; unfold maxLen; omega) W (.inr ⟨G, o, rfl, by
      have hr := rangeAt_take (fun j v hj => cell_below hW (h j v hj) : W.rangeAt G o (bytesV l)) (l.length - 4)
      rw [show bytesV (l.take (l.length - 4)) = (bytesV l).take (l.length - 4) by simp [bytesV, List.map_take]]; exact hr⟩)
    rw [List.length_take, Nat.min_eq_left (by omega)] at this
    exact this)
  have HEND := Lib.hid (fun (W : World) (hW : Below w.heap.size w W) => show Calls Tryd.prog 51 #[.slice (some ⟨G, o, none⟩) l.length cap, .int .i64 ((l.length : Int) - 4)] W _ from by
    have := HN.out W hW (l.length - 4) (by omega)
    rw [show ((l.length - 4 : Nat) : Int) = (l.length : Int) - 4 by omega, ← hcr] at this
    exact this)
  have HCV := Lib.hid (fun (W : World) (hW : Below w.heap.size w W) (n c : Nat) (hn : n = l.length - 4 - 24) => conv_bytes (fun j v hj => cell_below hW (h j v hj) : W.rangeAt G o (bytesV l)) 24 (l.length - 4) n c (by omega) (by omega) hn)
  have H20 := Lib.hid h20
  generalize numb l 16 = kd at *
  generalize numb l 8 = i8 at *
  generalize numb l 12 = i12 at *
  clear h8 h12 f1
  generalize crc (l.take (l.length - 4)) = cr at *
  obtain ⟨bd, hbd⟩ : ∃ b, bodyOf l 24 (l.length - 4) = b := ⟨_, rfl⟩
  rw [hbd] at HCV ⊢
  clear hcr hbd
  clear h20 h
  go_enter Tryd.func52, Tryd.ntmps52
  go_wp2_with fail
  refine h16.mono ?_; rintro e w1 ⟨rfl, m1, rfl⟩
  clear h16
  go_wp2_with fail
  refine (H20.out m1).mono ?_; rintro e w2 ⟨rfl, m2, rfl⟩
  go_wp2_with fail
  refine (H8.out (m1 + m2)).mono ?_; rintro e w2 ⟨rfl, m3, rfl⟩
  go_wp2_with fail
  refine (H12.out (m1 + m2 + m3)).mono ?_; rintro e w2 ⟨rfl, m4, rfl⟩
  go_wp2_with fail
  refine (HSUM.out _ (by repeat (first | with_reducible exact Below.refl _ _ | with_reducible refine below_drewN ?_ _ | with_reducible refine Below.drew ?_ | with_reducible refine Below.alloc ?_ (by first | (simp; done) | (simp; omega)) _ | with_reducible refine Below.setCell ?_ (by first | (simp; done) | (simp; omega)) _))).mono ?_; rintro e w2 ⟨rfl, rfl⟩
  go_wp2_with fail
  refine (HEND.out _ (by repeat (first | with_reducible exact Below.refl _ _ | with_reducible refine below_drewN ?_ _ | with_reducible refine Below.drew ?_ | with_reducible refine Below.alloc ?_ (by first | (simp; done) | (simp; omega)) _ | with_reducible refine Below.setCell ?_ (by first | (simp; done) | (simp; omega)) _))).mono ?_; rintro e w2 ⟨rfl, m5, rfl⟩
  have hcv := fun (n c : Nat) (hn : n = l.length - 4 - 24) => HCV.out ((((w.alloc (.cells #[.int .u32 0, .int .u32 0, .int .i64 0, .string ⟨#[]⟩, .bool false] 27)).drewN (m1 + m2 + m3 + m4)).alloc (.cells #[.int .u32 (i8 : Int), .int .u32 (i12 : Int), .int .i64 (kd : Int), .string ⟨#[]⟩, .bool true] 27)).drewN m5) (by repeat (first | with_reducible exact Below.refl _ _ | with_reducible refine below_drewN ?_ _ | with_reducible refine Below.drew ?_ | with_reducible refine Below.alloc ?_ (by first | (simp; done) | (simp; omega)) _ | with_reducible refine Below.setCell ?_ (by first | (simp; done) | (simp; omega)) _)) n c hn
  have hcv1 := fun (c : Nat) => hcv (l.length - 4 - 24) c rfl
  clear hcv
  have HH := Lib.hid (show (((((w.alloc (.cells #[.int .u32 0, .int .u32 0, .int .i64 0, .string ⟨#[]⟩, .bool false] 27)).drewN (m1 + m2 + m3 + m4)).alloc (.cells #[.int .u32 (i8 : Int), .int .u32 (i12 : Int), .int .i64 (kd : Int), .string ⟨#[]⟩, .bool true] 27)).drewN m5).setCell ⟨w.heap.size + 1, 3, none⟩ (.string bd)).heap[w.heap.size]? = some (.cells #[.int .u32 0, .int .u32 0, .int .i64 0, .string ⟨#[]⟩, .bool false] 27 (0, 0)) from by rw [heap_setCell_other _ _ _ _ (by simp)]; rw [show ∀ (W : World) (n : Nat), (W.drewN n).heap = W.heap from fun _ _ => rfl, heap_alloc_old _ _ (by simp)]; exact heap_alloc_new w _)
  go_wp2
  (try simp only [Exit.inBlock, Exit.then])
  refine bodyPost_ret (results_cell2 rfl _ _ w.heap.size 27 _ (0, 0) _ (by rfl) (set5 HH.out) Tryd.underlying27 rfl (by kernel_rfl)) rfl ?_
  exact ⟨rfl, below_set5 (by repeat (first | with_reducible exact Below.refl _ _ | with_reducible refine below_drewN ?_ _ | with_reducible refine Below.drew ?_ | with_reducible refine Below.alloc ?_ (by first | (simp; done) | (simp; omega)) _ | with_reducible refine Below.setCell ?_ (by first | (simp; done) | (simp; omega)) _)) (Nat.le_refl _)⟩
set_option maxRecDepth 20000 in
set_option maxHeartbeats 4000000 in
theorem whole_ok0 (G o cap : Nat) (l : List UInt8) (h24 : 24 ≤ l.length) (hl : l.length ≤ 1099511627776) (hcap : 24 < cap) (w : World) (h : w.rangeAt G o (bytesV l)) (k1 : ¬ numb l 16 < 1) (k2 : ¬ 6 < numb l 16) (f1 : numb l 20 = 0) :
    Calls Tryd.prog 52 #[.slice (some ⟨G, o, none⟩) l.length cap] w (UnPost (.ok ⟨numb l 8, numb l 12, numb l 16, bodyOf l 24 l.length, false⟩ l.length) w) := by
  have hb0 : Below w.heap.size w (w.alloc (.cells #[.int .u32 0, .int .u32 0, .int .i64 0, .string ⟨#[]⟩, .bool false] 27)) := (Below.refl _ _).alloc (Nat.le_refl _) _
  have HN := Lib.hid (fun (W : World) (hW : Below w.heap.size w W) (k : Nat) (hk : k + 4 ≤ l.length) => number_c G o cap l k hk hl W (fun j v hj => cell_below hW (h j v hj)))
  have hlt16 := numb_lt l 16
  have h16 := HN.out (w.alloc (.cells #[.int .u32 0, .int .u32 0, .int .i64 0, .string ⟨#[]⟩, .bool false] 27)) hb0 16 (by omega)
  have h20 := fun (m : Nat) => HN.out ((w.alloc (.cells #[.int .u32 0, .int .u32 0, .int .i64 0, .string ⟨#[]⟩, .bool false] 27)).drewN m) (below_drewN hb0 m) 20 (by omega)
  have hlt8 := numb_lt l 8
  have hlt12 := numb_lt l 12
  have h8 := fun (m : Nat) => HN.out ((w.alloc (.cells #[.int .u32 0, .int .u32 0, .int .i64 0, .string ⟨#[]⟩, .bool false] 27)).drewN m) (below_drewN hb0 m) 8 (by omega)
  have h12 := fun (m : Nat) => HN.out ((w.alloc (.cells #[.int .u32 0, .int .u32 0, .int .i64 0, .string ⟨#[]⟩, .bool false] 27)).drewN m) (below_drewN hb0 m) 12 (by omega)
  rw [f1] at h20
  have H8 := Lib.hid h8
  have H12 := Lib.hid h12
  have HCV := Lib.hid (fun (W : World) (hW : Below w.heap.size w W) (n c : Nat) (hn : n = l.length - 24) => conv_bytes (fun j v hj => cell_below hW (h j v hj) : W.rangeAt G o (bytesV l)) 24 l.length n c (by omega) (by omega) hn)
  have H20 := Lib.hid h20
  generalize numb l 16 = kd at *
  generalize numb l 8 = i8 at *
  generalize numb l 12 = i12 at *
  clear h8 h12 f1
  obtain ⟨bd, hbd⟩ : ∃ b, bodyOf l 24 l.length = b := ⟨_, rfl⟩
  rw [hbd] at HCV ⊢
  clear hbd
  clear h20 h
  go_enter Tryd.func52, Tryd.ntmps52
  go_wp2_with fail
  refine h16.mono ?_; rintro e w1 ⟨rfl, m1, rfl⟩
  clear h16
  go_wp2_with fail
  refine (H20.out m1).mono ?_; rintro e w2 ⟨rfl, m2, rfl⟩
  go_wp2_with fail
  refine (H8.out (m1 + m2)).mono ?_; rintro e w2 ⟨rfl, m3, rfl⟩
  go_wp2_with fail
  refine (H12.out (m1 + m2 + m3)).mono ?_; rintro e w2 ⟨rfl, m4, rfl⟩
  have hcv := fun (n c : Nat) (hn : n = l.length - 24) => HCV.out (((w.alloc (.cells #[.int .u32 0, .int .u32 0, .int .i64 0, .string ⟨#[]⟩, .bool false] 27)).drewN (m1 + m2 + m3 + m4)).alloc (.cells #[.int .u32 (i8 : Int), .int .u32 (i12 : Int), .int .i64 (kd : Int), .string ⟨#[]⟩, .bool false] 27)) (by repeat (first | with_reducible exact Below.refl _ _ | with_reducible refine below_drewN ?_ _ | with_reducible refine Below.drew ?_ | with_reducible refine Below.alloc ?_ (by first | (simp; done) | (simp; omega)) _ | with_reducible refine Below.setCell ?_ (by first | (simp; done) | (simp; omega)) _)) n c hn
  have hcv1 := fun (c : Nat) => hcv (l.length - 24) c rfl
  clear hcv
  have HH := Lib.hid (show (((w.alloc (.cells #[.int .u32 0, .int .u32 0, .int .i64 0, .string ⟨#[]⟩, .bool false] 27)).drewN (m1 + m2 + m3 + m4))).heap[w.heap.size]? = some (.cells #[.int .u32 0, .int .u32 0, .int .i64 0, .string ⟨#[]⟩, .bool false] 27 (0, 0)) from by first | exact heap_alloc_new w _ | (rw [heap_alloc_old _ _ (by simp)]; exact heap_alloc_new w _) | (rw [heap_drewN, heap_alloc_old _ _ (by simp)]; exact heap_alloc_new w _))
  go_wp2
  (try simp only [Exit.inBlock, Exit.then])
  refine bodyPost_ret (results_cell2 rfl _ _ w.heap.size 27 _ (0, 0) _ (by rfl) ((heap_alloc_old _ _ (by first | (simp; done) | (simp; omega))).trans (set5 HH.out)) Tryd.underlying27 rfl (by kernel_rfl)) rfl ?_
  exact ⟨rfl, (below_set5 (by repeat (first | with_reducible exact Below.refl _ _ | with_reducible refine below_drewN ?_ _ | with_reducible refine Below.drew ?_ | with_reducible refine Below.alloc ?_ (by first | (simp; done) | (simp; omega)) _ | with_reducible refine Below.setCell ?_ (by first | (simp; done) | (simp; omega)) _)) (Nat.le_refl _)).alloc (by first | (simp; done) | (simp; omega)) _⟩
set_option maxRecDepth 20000 in
set_option maxHeartbeats 4000000 in
theorem whole_short_24 (G o : Nat) (l : List UInt8) (hlen : l.length = 24) (w : World) (h : w.rangeAt G o (bytesV l)) (k1 : ¬ numb l 16 < 1) (k2 : ¬ 6 < numb l 16) (f1 : numb l 20 = 1) :
    Calls Tryd.prog 52 #[.slice (some ⟨G, o, none⟩) 24 24] w (UnPost (.bad 280) w) := by
  have hb0 : Below w.heap.size w (w.alloc (.cells #[.int .u32 0, .int .u32 0, .int .i64 0, .string ⟨#[]⟩, .bool false] 27)) := (Below.refl _ _).alloc (Nat.le_refl _) _
  have HN := Lib.hid (fun (W : World) (hW : Below w.heap.size w W) (k : Nat) (hk : k + 4 ≤ 24) => show Calls Tryd.prog 51 #[.slice (some ⟨G, o, none⟩) 24 24, .int .i64 (k : Int)] W _ from by have := number_c G o 24 l k (by omega) (by omega) W (fun j v hj => cell_below hW (h j v hj)); rw [hlen] at this; exact this)
  have hlt16 := numb_lt l 16
  have h16 := HN.out (w.alloc (.cells #[.int .u32 0, .int .u32 0, .int .i64 0, .string ⟨#[]⟩, .bool false] 27)) hb0 16 (by omega)
  have h20 := fun (m : Nat) => HN.out ((w.alloc (.cells #[.int .u32 0, .int .u32 0, .int .i64 0, .string ⟨#[]⟩, .bool false] 27)).drewN m) (below_drewN hb0 m) 20 (by omega)
  have hlt8 := numb_lt l 8
  have hlt12 := numb_lt l 12
  have h8 := fun (m : Nat) => HN.out ((w.alloc (.cells #[.int .u32 0, .int .u32 0, .int .i64 0, .string ⟨#[]⟩, .bool false] 27)).drewN m) (below_drewN hb0 m) 8 (by omega)
  have h12 := fun (m : Nat) => HN.out ((w.alloc (.cells #[.int .u32 0, .int .u32 0, .int .i64 0, .string ⟨#[]⟩, .bool false] 27)).drewN m) (below_drewN hb0 m) 12 (by omega)
  rw [f1] at h20
  have H8 := Lib.hid h8
  have H12 := Lib.hid h12
  have H20 := Lib.hid h20
  generalize numb l 16 = kd at *
  generalize numb l 8 = i8 at *
  generalize numb l 12 = i12 at *
  clear h8 h12 f1
  clear h20 h
  go_enter Tryd.func52, Tryd.ntmps52
  go_wp2_with fail
  refine h16.mono ?_; rintro e w1 ⟨rfl, m1, rfl⟩
  clear h16
  go_wp2_with fail
  refine (H20.out m1).mono ?_; rintro e w2 ⟨rfl, m2, rfl⟩
  go_wp2_with fail
  refine (H8.out (m1 + m2)).mono ?_; rintro e w2 ⟨rfl, m3, rfl⟩
  go_wp2_with fail
  refine (H12.out (m1 + m2 + m3)).mono ?_; rintro e w2 ⟨rfl, m4, rfl⟩
  have HH := Lib.hid (show (((w.alloc (.cells #[.int .u32 0, .int .u32 0, .int .i64 0, .string ⟨#[]⟩, .bool false] 27)).drewN (m1 + m2 + m3 + m4))).heap[w.heap.size]? = some (.cells #[.int .u32 0, .int .u32 0, .int .i64 0, .string ⟨#[]⟩, .bool false] 27 (0, 0)) from by first | exact heap_alloc_new w _ | (rw [heap_alloc_old _ _ (by simp)]; exact heap_alloc_new w _) | (rw [heap_drewN, heap_alloc_old _ _ (by simp)]; exact heap_alloc_new w _))
  go_wp2
  (try simp only [Exit.inBlock, Exit.then])
  refine bodyPost_ret (results_cell2 rfl _ _ w.heap.size 27 _ (0, 0) _ (by rfl) ((heap_alloc_old _ _ (by first | (simp; done) | (simp; omega))).trans (set5 HH.out)) Tryd.underlying27 rfl (by kernel_rfl)) rfl ?_
  exact ⟨rfl, (below_set5 (by repeat (first | with_reducible exact Below.refl _ _ | with_reducible refine below_drewN ?_ _ | with_reducible refine Below.drew ?_ | with_reducible refine Below.alloc ?_ (by first | (simp; done) | (simp; omega)) _ | with_reducible refine Below.setCell ?_ (by first | (simp; done) | (simp; omega)) _)) (Nat.le_refl _)).alloc (by first | (simp; done) | (simp; omega)) _⟩
set_option maxRecDepth 20000 in
set_option maxHeartbeats 4000000 in
theorem whole_ok0_24 (G o : Nat) (l : List UInt8) (hlen : l.length = 24) (w : World) (h : w.rangeAt G o (bytesV l)) (k1 : ¬ numb l 16 < 1) (k2 : ¬ 6 < numb l 16) (f1 : numb l 20 = 0) :
    Calls Tryd.prog 52 #[.slice (some ⟨G, o, none⟩) 24 24] w (UnPost (.ok ⟨numb l 8, numb l 12, numb l 16, bodyOf l 24 l.length, false⟩ l.length) w) := by
  have hb0 : Below w.heap.size w (w.alloc (.cells #[.int .u32 0, .int .u32 0, .int .i64 0, .string ⟨#[]⟩, .bool false] 27)) := (Below.refl _ _).alloc (Nat.le_refl _) _
  have HN := Lib.hid (fun (W : World) (hW : Below w.heap.size w W) (k : Nat) (hk : k + 4 ≤ 24) => show Calls Tryd.prog 51 #[.slice (some ⟨G, o, none⟩) 24 24, .int .i64 (k : Int)] W _ from by have := number_c G o 24 l k (by omega) (by omega) W (fun j v hj => cell_below hW (h j v hj)); rw [hlen] at this; exact this)
  have hlt16 := numb_lt l 16
  have h16 := HN.out (w.alloc (.cells #[.int .u32 0, .int .u32 0, .int .i64 0, .string ⟨#[]⟩, .bool false] 27)) hb0 16 (by omega)
  have h20 := fun (m : Nat) => HN.out ((w.alloc (.cells #[.int .u32 0, .int .u32 0, .int .i64 0, .string ⟨#[]⟩, .bool false] 27)).drewN m) (below_drewN hb0 m) 20 (by omega)
  have hlt8 := numb_lt l 8
  have hlt12 := numb_lt l 12
  have h8 := fun (m : Nat) => HN.out ((w.alloc (.cells #[.int .u32 0, .int .u32 0, .int .i64 0, .string ⟨#[]⟩, .bool false] 27)).drewN m) (below_drewN hb0 m) 8 (by omega)
  have h12 := fun (m : Nat) => HN.out ((w.alloc (.cells #[.int .u32 0, .int .u32 0, .int .i64 0, .string ⟨#[]⟩, .bool false] 27)).drewN m) (below_drewN hb0 m) 12 (by omega)
  rw [f1] at h20
  have H8 := Lib.hid h8
  have H12 := Lib.hid h12
  have hbd : bodyOf l 24 l.length = ⟨#[]⟩ := by unfold bodyOf; rw [List.take_length, List.drop_of_length_le (by omega)]
  have kcv := fun (W : World) => run_convert_bytes_nil0 W G o
  have H20 := Lib.hid h20
  generalize numb l 16 = kd at *
  generalize numb l 8 = i8 at *
  generalize numb l 12 = i12 at *
  clear h8 h12 f1
  rw [hbd, hlen]
  clear hbd hlen
  clear h20 h
  go_enter Tryd.func52, Tryd.ntmps52
  go_wp2_with fail
  refine h16.mono ?_; rintro e w1 ⟨rfl, m1, rfl⟩
  clear h16
  go_wp2_with fail
  refine (H20.out m1).mono ?_; rintro e w2 ⟨rfl, m2, rfl⟩
  go_wp2_with fail
  refine (H8.out (m1 + m2)).mono ?_; rintro e w2 ⟨rfl, m3, rfl⟩
  go_wp2_with fail
  refine (H12.out (m1 + m2 + m3)).mono ?_; rintro e w2 ⟨rfl, m4, rfl⟩
  have HH := Lib.hid (show (((w.alloc (.cells #[.int .u32 0, .int .u32 0, .int .i64 0, .string ⟨#[]⟩, .bool false] 27)).drewN (m1 + m2 + m3 + m4))).heap[w.heap.size]? = some (.cells #[.int .u32 0, .int .u32 0, .int .i64 0, .string ⟨#[]⟩, .bool false] 27 (0, 0)) from by first | exact heap_alloc_new w _ | (rw [heap_alloc_old _ _ (by simp)]; exact heap_alloc_new w _) | (rw [heap_drewN, heap_alloc_old _ _ (by simp)]; exact heap_alloc_new w _))
  go_wp2
  (try simp only [Exit.inBlock, Exit.then])
  refine bodyPost_ret (results_cell2 rfl _ _ w.heap.size 27 _ (0, 0) _ (by rfl) ((heap_alloc_old _ _ (by first | (simp; done) | (simp; omega))).trans (set5 HH.out)) Tryd.underlying27 rfl (by kernel_rfl)) rfl ?_
  exact ⟨rfl, (below_set5 (by repeat (first | with_reducible exact Below.refl _ _ | with_reducible refine below_drewN ?_ _ | with_reducible refine Below.drew ?_ | with_reducible refine Below.alloc ?_ (by first | (simp; done) | (simp; omega)) _ | with_reducible refine Below.setCell ?_ (by first | (simp; done) | (simp; omega)) _)) (Nat.le_refl _)).alloc (by first | (simp; done) | (simp; omega)) _⟩
theorem whole_c (G o cap : Nat) (l : List UInt8) (h24 : 24 ≤ l.length) (hl : l.length ≤ 1099511627776) (hc : l.length ≤ cap) (w : World) (h : w.rangeAt G o (bytesV l)) :
    Calls Tryd.prog 52 #[.slice (some ⟨G, o, none⟩) l.length cap] w (UnPost (whole l l.length) w) := by
  unfold whole
  by_cases hk : numb l 16 < 1 ∨ 6 < numb l 16
  · rw [if_pos hk]; exact whole_kind G o cap l h24 hl w h hk
  · rw [if_neg hk]
    have k1 : ¬ numb l 16 < 1 := fun e => hk (.inl e)
    have k2 : ¬ 6 < numb l 16 := fun e => hk (.inr e)
    by_cases hf : 1 < numb l 20
    · rw [if_pos hf]; exact whole_flags G o cap l h24 hl w h k1 k2 hf
    · rw [if_neg hf]
      by_cases f1 : numb l 20 = 1
      · rw [if_pos f1]
        by_cases hn : l.length < 28
        · rw [if_pos hn]
          by_cases hcap : 24 < cap
          · exact whole_short G o cap l h24 hl hcap w h k1 k2 f1 hn
          · obtain rfl : cap = 24 := by omega
            have hlen : l.length = 24 := by omega
            have := whole_short_24 G o l hlen w h k1 k2 f1
            rw [hlen]; exact this
        · rw [if_neg hn]
          by_cases hcr : crc (l.take (l.length - 4)) = numb l (l.length - 4)
          · rw [if_neg (fun e => e hcr)]; exact whole_ok1 G o cap l (by omega) hl hc w h k1 k2 f1 hcr
          · rw [if_pos hcr]; exact whole_sum G o cap l (by omega) hl hc w h k1 k2 f1 hcr
      · rw [if_neg f1]
        by_cases hcap : 24 < cap
        · exact whole_ok0 G o cap l h24 hl hcap w h k1 k2 (by omega)
        · obtain rfl : cap = 24 := by omega
          have hlen : l.length = 24 := by omega
          have := whole_ok0_24 G o l hlen w h k1 k2 (by omega)
          rw [hlen] at this ⊢; exact this
end Go.Proofs.YtkpickojeghppaaDoor
namespace Go.Proofs.YtkpickojeghppaaDoor
open Go.RowKit
theorem magic_ext (n : Nat) (h : n ≤ 4) : ((⟨#[100, 107, 116, 49]⟩ : ByteArray).extract 0 n).toList = magicL.take n := by
  rw [ByteArray.toList_eq]
  have : n = 0 ∨ n = 1 ∨ n = 2 ∨ n = 3 ∨ n = 4 := by omega
  rcases this with rfl | rfl | rfl | rfl | rfl <;> rfl
theorem head_list (l : List UInt8) (n : Nat) : (bodyOf l 0 n).toList = l.take n := by rw [ByteArray.toList_eq]; simp [bodyOf]
/-- as far as they go, the first bytes are the magic ones -/
def headOk (l : List UInt8) (n : Nat) : Bool := l.take n == magicL.take n
theorem head_cmp (l : List UInt8) (n : Nat) (h : n ≤ 4) : ((bodyOf l 0 n).toList == ((⟨#[100, 107, 116, 49]⟩ : ByteArray).extract 0 n).toList) = headOk l n := by rw [magic_ext n h, head_list]; rfl
theorem unpack_bad {l : List UInt8} {n : Nat} (hn : n = min l.length 4) (h : headOk l n = false) : unpack l = .bad 280 := by
  unfold unpack
  rw [if_pos]
  unfold headOk at h
  rw [beq_eq_false_iff_ne] at h
  intro e
  apply h
  subst hn
  rcases Nat.lt_or_ge l.length 4 with h4 | h4
  · rw [Nat.min_eq_left (by omega), List.take_length]
    rw [List.take_of_length_le (by omega)] at e
    exact e
  · rw [Nat.min_eq_right h4]
    rw [e, show magicL.take 4 = magicL from rfl, List.take_of_length_le (by simpa using h4)]
    rfl
theorem unpack_head {l : List UInt8} {n : Nat} (hn : n = min l.length 4) (h : headOk l n = true) : unpack l = (if l.length < 8 then .bad 3
  else if 131072 < numb l 4 then .bad 1
  else if numb l 4 < 24 then .bad 280
  else if l.length < numb l 4 then .bad 3
  else whole l (numb l 4)) := by
  unfold unpack
  rw [if_neg]
  unfold headOk at h
  rw [beq_iff_eq] at h
  intro e
  apply e
  subst hn
  rcases Nat.lt_or_ge l.length 4 with h4 | h4
  · rw [Nat.min_eq_left (by omega), List.take_length] at h
    rw [List.take_of_length_le (by omega)]
    exact h
  · rw [Nat.min_eq_right h4] at h
    rw [h, List.take_of_length_le (l := ([100, 107, 116, 49] : List UInt8)) (by simpa using h4)]
    rfl
set_option maxRecDepth 20000 in
set_option maxHeartbeats 4000000 in
theorem unpack_1 (G o cap : Nat) (l : List UInt8) (hlen : l.length = 1) (hc : 1 ≤ cap) (w : World) (h : w.rangeAt G o (bytesV l)) :
    Calls Tryd.prog 15 #[.slice (some ⟨G, o, none⟩) 1 cap] w (UnPost (unpack l) w) := by
  have hb0 : Below w.heap.size w (w.alloc (.cells #[.int .u32 0, .int .u32 0, .int .i64 0, .string ⟨#[]⟩, .bool false] 27)) := (Below.refl _ _).alloc (Nat.le_refl _) _
  have HCV := Lib.hid (fun (c : Nat) (W : World) (hW : Below w.heap.size w W) => conv_bytes (fun j v hj => cell_below hW (h j v hj) : W.rangeAt G o (bytesV l)) 0 1 1 c (by omega) (by omega) rfl)
  have kcv := fun (c n : Nat) => HCV.out c ((w.alloc (.cells #[.int .u32 0, .int .u32 0, .int .i64 0, .string ⟨#[]⟩, .bool false] 27)).drewN n) (below_drewN hb0 n)
  have kcv0 := fun (c : Nat) => HCV.out c (w.alloc (.cells #[.int .u32 0, .int .u32 0, .int .i64 0, .string ⟨#[]⟩, .bool false] 27)) hb0
  have hcmp := head_cmp l 1 (by decide)
  generalize bodyOf l 0 1 = hd at *
  simp only [Nat.add_zero] at kcv kcv0
  clear h
  cases hk : headOk l 1 with
  | false =>
    have HU := Lib.hid (unpack_bad (by rw [hlen]; rfl) hk)
    rw [hk] at hcmp
    clear hlen hk
    go_enter Tryd.func15, Tryd.ntmps15
    go_wp2
    go_quiet (fail)
    have HH := Lib.hid (show (((w.alloc (.cells #[.int .u32 0, .int .u32 0, .int .i64 0, .string ⟨#[]⟩, .bool false] 27)).drewN nq)).heap[w.heap.size]? = some (.cells #[.int .u32 0, .int .u32 0, .int .i64 0, .string ⟨#[]⟩, .bool false] 27 (0, 0)) from by first | exact heap_alloc_new w _ | (rw [heap_drewN]; exact heap_alloc_new w _))
    go_wp2
    (try simp only [Exit.inBlock, Exit.then])
    refine bodyPost_ret (results_cell2 rfl _ _ w.heap.size 27 _ (0, 0) _ (by rfl) (set5 HH.out) Tryd.underlying27 rfl (by kernel_rfl)) rfl ?_
    exact ⟨by rw [HU.out]; rfl, below_set5 (by repeat (first | with_reducible exact Below.refl _ _ | with_reducible refine below_drewN ?_ _ | with_reducible refine Below.drew ?_ | with_reducible refine Below.alloc ?_ (by first | (simp; done) | (simp; omega)) _ | with_reducible refine Below.setCell ?_ (by first | (simp; done) | (simp; omega)) _)) (Nat.le_refl _)⟩
  | true =>
    have HU := Lib.hid ((unpack_head (by rw [hlen]; rfl) hk).trans (if_pos (by omega)))
    rw [hk] at hcmp
    clear hlen hk
    go_enter Tryd.func15, Tryd.ntmps15
    go_wp2
    go_quiet (fail)
    have HH := Lib.hid (show (((w.alloc (.cells #[.int .u32 0, .int .u32 0, .int .i64 0, .string ⟨#[]⟩, .bool false] 27)).drewN nq)).heap[w.heap.size]? = some (.cells #[.int .u32 0, .int .u32 0, .int .i64 0, .string ⟨#[]⟩, .bool false] 27 (0, 0)) from by first | exact heap_alloc_new w _ | (rw [heap_drewN]; exact heap_alloc_new w _))
    go_wp2
    (try simp only [Exit.inBlock, Exit.then])
    refine bodyPost_ret (results_cell2 rfl _ _ w.heap.size 27 _ (0, 0) _ (by rfl) (set5 HH.out) Tryd.underlying27 rfl (by kernel_rfl)) rfl ?_
    exact ⟨by rw [HU.out]; rfl, below_set5 (by repeat (first | with_reducible exact Below.refl _ _ | with_reducible refine below_drewN ?_ _ | with_reducible refine Below.drew ?_ | with_reducible refine Below.alloc ?_ (by first | (simp; done) | (simp; omega)) _ | with_reducible refine Below.setCell ?_ (by first | (simp; done) | (simp; omega)) _)) (Nat.le_refl _)⟩
set_option maxRecDepth 20000 in
set_option maxHeartbeats 4000000 in
theorem unpack_2 (G o cap : Nat) (l : List UInt8) (hlen : l.length = 2) (hc : 2 ≤ cap) (w : World) (h : w.rangeAt G o (bytesV l)) :
    Calls Tryd.prog 15 #[.slice (some ⟨G, o, none⟩) 2 cap] w (UnPost (unpack l) w) := by
  have hb0 : Below w.heap.size w (w.alloc (.cells #[.int .u32 0, .int .u32 0, .int .i64 0, .string ⟨#[]⟩, .bool false] 27)) := (Below.refl _ _).alloc (Nat.le_refl _) _
  have HCV := Lib.hid (fun (c : Nat) (W : World) (hW : Below w.heap.size w W) => conv_bytes (fun j v hj => cell_below hW (h j v hj) : W.rangeAt G o (bytesV l)) 0 2 2 c (by omega) (by omega) rfl)
  have kcv := fun (c n : Nat) => HCV.out c ((w.alloc (.cells #[.int .u32 0, .int .u32 0, .int .i64 0, .string ⟨#[]⟩, .bool false] 27)).drewN n) (below_drewN hb0 n)
  have kcv0 := fun (c : Nat) => HCV.out c (w.alloc (.cells #[.int .u32 0, .int .u32 0, .int .i64 0, .string ⟨#[]⟩, .bool false] 27)) hb0
  have hcmp := head_cmp l 2 (by decide)
  generalize bodyOf l 0 2 = hd at *
  simp only [Nat.add_zero] at kcv kcv0
  clear h
  cases hk : headOk l 2 with
  | false =>
    have HU := Lib.hid (unpack_bad (by rw [hlen]; rfl) hk)
    rw [hk] at hcmp
    clear hlen hk
    go_enter Tryd.func15, Tryd.ntmps15
    go_wp2
    go_quiet (fail)
    have HH := Lib.hid (show (((w.alloc (.cells #[.int .u32 0, .int .u32 0, .int .i64 0, .string ⟨#[]⟩, .bool false] 27)).drewN nq)).heap[w.heap.size]? = some (.cells #[.int .u32 0, .int .u32 0, .int .i64 0, .string ⟨#[]⟩, .bool false] 27 (0, 0)) from by first | exact heap_alloc_new w _ | (rw [heap_drewN]; exact heap_alloc_new w _))
    go_wp2
    (try simp only [Exit.inBlock, Exit.then])
    refine bodyPost_ret (results_cell2 rfl _ _ w.heap.size 27 _ (0, 0) _ (by rfl) (set5 HH.out) Tryd.underlying27 rfl (by kernel_rfl)) rfl ?_
    exact ⟨by rw [HU.out]; rfl, below_set5 (by repeat (first | with_reducible exact Below.refl _ _ | with_reducible refine below_drewN ?_ _ | with_reducible refine Below.drew ?_ | with_reducible refine Below.alloc ?_ (by first | (simp; done) | (simp; omega)) _ | with_reducible refine Below.setCell ?_ (by first | (simp; done) | (simp; omega)) _)) (Nat.le_refl _)⟩
  | true =>
    have HU := Lib.hid ((unpack_head (by rw [hlen]; rfl) hk).trans (if_pos (by omega)))
    rw [hk] at hcmp
    clear hlen hk
    go_enter Tryd.func15, Tryd.ntmps15
    go_wp2
    go_quiet (fail)
    have HH := Lib.hid (show (((w.alloc (.cells #[.int .u32 0, .int .u32 0, .int .i64 0, .string ⟨#[]⟩, .bool false] 27)).drewN nq)).heap[w.heap.size]? = some (.cells #[.int .u32 0, .int .u32 0, .int .i64 0, .string ⟨#[]⟩, .bool false] 27 (0, 0)) from by first | exact heap_alloc_new w _ | (rw [heap_drewN]; exact heap_alloc_new w _))
    go_wp2
    (try simp only [Exit.inBlock, Exit.then])
    refine bodyPost_ret (results_cell2 rfl _ _ w.heap.size 27 _ (0, 0) _ (by rfl) (set5 HH.out) Tryd.underlying27 rfl (by kernel_rfl)) rfl ?_
    exact ⟨by rw [HU.out]; rfl, below_set5 (by repeat (first | with_reducible exact Below.refl _ _ | with_reducible refine below_drewN ?_ _ | with_reducible refine Below.drew ?_ | with_reducible refine Below.alloc ?_ (by first | (simp; done) | (simp; omega)) _ | with_reducible refine Below.setCell ?_ (by first | (simp; done) | (simp; omega)) _)) (Nat.le_refl _)⟩
set_option maxRecDepth 20000 in
set_option maxHeartbeats 4000000 in
theorem unpack_3 (G o cap : Nat) (l : List UInt8) (hlen : l.length = 3) (hc : 3 ≤ cap) (w : World) (h : w.rangeAt G o (bytesV l)) :
    Calls Tryd.prog 15 #[.slice (some ⟨G, o, none⟩) 3 cap] w (UnPost (unpack l) w) := by
  have hb0 : Below w.heap.size w (w.alloc (.cells #[.int .u32 0, .int .u32 0, .int .i64 0, .string ⟨#[]⟩, .bool false] 27)) := (Below.refl _ _).alloc (Nat.le_refl _) _
  have HCV := Lib.hid (fun (c : Nat) (W : World) (hW : Below w.heap.size w W) => conv_bytes (fun j v hj => cell_below hW (h j v hj) : W.rangeAt G o (bytesV l)) 0 3 3 c (by omega) (by omega) rfl)
  have kcv := fun (c n : Nat) => HCV.out c ((w.alloc (.cells #[.int .u32 0, .int .u32 0, .int .i64 0, .string ⟨#[]⟩, .bool false] 27)).drewN n) (below_drewN hb0 n)
  have kcv0 := fun (c : Nat) => HCV.out c (w.alloc (.cells #[.int .u32 0, .int .u32 0, .int .i64 0, .string ⟨#[]⟩, .bool false] 27)) hb0
  have hcmp := head_cmp l 3 (by decide)
  generalize bodyOf l 0 3 = hd at *
  simp only [Nat.add_zero] at kcv kcv0
  clear h
  cases hk : headOk l 3 with
  | false =>
    have HU := Lib.hid (unpack_bad (by rw [hlen]; rfl) hk)
    rw [hk] at hcmp
    clear hlen hk
    go_enter Tryd.func15, Tryd.ntmps15
    go_wp2
    go_quiet (fail)
    have HH := Lib.hid (show (((w.alloc (.cells #[.int .u32 0, .int .u32 0, .int .i64 0, .string ⟨#[]⟩, .bool false] 27)).drewN nq)).heap[w.heap.size]? = some (.cells #[.int .u32 0, .int .u32 0, .int .i64 0, .string ⟨#[]⟩, .bool false] 27 (0, 0)) from by first | exact heap_alloc_new w _ | (rw [heap_drewN]; exact heap_alloc_new w _))
    go_wp2
    (try simp only [Exit.inBlock, Exit.then])
    refine bodyPost_ret (results_cell2 rfl _ _ w.heap.size 27 _ (0, 0) _ (by rfl) (set5 HH.out) Tryd.underlying27 rfl (by kernel_rfl)) rfl ?_
    exact ⟨by rw [HU.out]; rfl, below_set5 (by repeat (first | with_reducible exact Below.refl _ _ | with_reducible refine below_drewN ?_ _ | with_reducible refine Below.drew ?_ | with_reducible refine Below.alloc ?_ (by first | (simp; done) | (simp; omega)) _ | with_reducible refine Below.setCell ?_ (by first | (simp; done) | (simp; omega)) _)) (Nat.le_refl _)⟩
  | true =>
    have HU := Lib.hid ((unpack_head (by rw [hlen]; rfl) hk).trans (if_pos (by omega)))
    rw [hk] at hcmp
    clear hlen hk
    go_enter Tryd.func15, Tryd.ntmps15
    go_wp2
    go_quiet (fail)
    have HH := Lib.hid (show (((w.alloc (.cells #[.int .u32 0, .int .u32 0, .int .i64 0, .string ⟨#[]⟩, .bool false] 27)).drewN nq)).heap[w.heap.size]? = some (.cells #[.int .u32 0, .int .u32 0, .int .i64 0, .string ⟨#[]⟩, .bool false] 27 (0, 0)) from by first | exact heap_alloc_new w _ | (rw [heap_drewN]; exact heap_alloc_new w _))
    go_wp2
    (try simp only [Exit.inBlock, Exit.then])
    refine bodyPost_ret (results_cell2 rfl _ _ w.heap.size 27 _ (0, 0) _ (by rfl) (set5 HH.out) Tryd.underlying27 rfl (by kernel_rfl)) rfl ?_
    exact ⟨by rw [HU.out]; rfl, below_set5 (by repeat (first | with_reducible exact Below.refl _ _ | with_reducible refine below_drewN ?_ _ | with_reducible refine Below.drew ?_ | with_reducible refine Below.alloc ?_ (by first | (simp; done) | (simp; omega)) _ | with_reducible refine Below.setCell ?_ (by first | (simp; done) | (simp; omega)) _)) (Nat.le_refl _)⟩
set_option maxRecDepth 20000 in
set_option maxHeartbeats 4000000 in
theorem unpack_4 (G o cap : Nat) (l : List UInt8) (hlen : l.length = 4) (hc : 4 ≤ cap) (w : World) (h : w.rangeAt G o (bytesV l)) :
    Calls Tryd.prog 15 #[.slice (some ⟨G, o, none⟩) 4 cap] w (UnPost (unpack l) w) := by
  have hb0 : Below w.heap.size w (w.alloc (.cells #[.int .u32 0, .int .u32 0, .int .i64 0, .string ⟨#[]⟩, .bool false] 27)) := (Below.refl _ _).alloc (Nat.le_refl _) _
  have HCV := Lib.hid (fun (c : Nat) (W : World) (hW : Below w.heap.size w W) => conv_bytes (fun j v hj => cell_below hW (h j v hj) : W.rangeAt G o (bytesV l)) 0 4 4 c (by omega) (by omega) rfl)
  have kcv := fun (c n : Nat) => HCV.out c ((w.alloc (.cells #[.int .u32 0, .int .u32 0, .int .i64 0, .string ⟨#[]⟩, .bool false] 27)).drewN n) (below_drewN hb0 n)
  have kcv0 := fun (c : Nat) => HCV.out c (w.alloc (.cells #[.int .u32 0, .int .u32 0, .int .i64 0, .string ⟨#[]⟩, .bool false] 27)) hb0
  have hcmp := head_cmp l 4 (by decide)
  generalize bodyOf l 0 4 = hd at *
  simp only [Nat.add_zero] at kcv kcv0
  clear h
  cases hk : headOk l 4 with
  | false =>
    have HU := Lib.hid (unpack_bad (by rw [hlen]; rfl) hk)
    rw [hk] at hcmp
    clear hlen hk
    go_enter Tryd.func15, Tryd.ntmps15
    go_wp2
    go_quiet (fail)
    have HH := Lib.hid (show (((w.alloc (.cells #[.int .u32 0, .int .u32 0, .int .i64 0, .string ⟨#[]⟩, .bool false] 27)).drewN nq)).heap[w.heap.size]? = some (.cells #[.int .u32 0, .int .u32 0, .int .i64 0, .string ⟨#[]⟩, .bool false] 27 (0, 0)) from by first | exact heap_alloc_new w _ | (rw [heap_drewN]; exact heap_alloc_new w _))
    go_wp2
    (try simp only [Exit.inBlock, Exit.then])
    refine bodyPost_ret (results_cell2 rfl _ _ w.heap.size 27 _ (0, 0) _ (by rfl) (set5 HH.out) Tryd.underlying27 rfl (by kernel_rfl)) rfl ?_
    exact ⟨by rw [HU.out]; rfl, below_set5 (by repeat (first | with_reducible exact Below.refl _ _ | with_reducible refine below_drewN ?_ _ | with_reducible refine Below.drew ?_ | with_reducible refine Below.alloc ?_ (by first | (simp; done) | (simp; omega)) _ | with_reducible refine Below.setCell ?_ (by first | (simp; done) | (simp; omega)) _)) (Nat.le_refl _)⟩
  | true =>
    have HU := Lib.hid ((unpack_head (by rw [hlen]; rfl) hk).trans (if_pos (by omega)))
    rw [hk] at hcmp
    clear hlen hk
    go_enter Tryd.func15, Tryd.ntmps15
    go_wp2
    go_quiet (fail)
    have HH := Lib.hid (show (((w.alloc (.cells #[.int .u32 0, .int .u32 0, .int .i64 0, .string ⟨#[]⟩, .bool false] 27)).drewN nq)).heap[w.heap.size]? = some (.cells #[.int .u32 0, .int .u32 0, .int .i64 0, .string ⟨#[]⟩, .bool false] 27 (0, 0)) from by first | exact heap_alloc_new w _ | (rw [heap_drewN]; exact heap_alloc_new w _))
    go_wp2
    (try simp only [Exit.inBlock, Exit.then])
    refine bodyPost_ret (results_cell2 rfl _ _ w.heap.size 27 _ (0, 0) _ (by rfl) (set5 HH.out) Tryd.underlying27 rfl (by kernel_rfl)) rfl ?_
    exact ⟨by rw [HU.out]; rfl, below_set5 (by repeat (first | with_reducible exact Below.refl _ _ | with_reducible refine below_drewN ?_ _ | with_reducible refine Below.drew ?_ | with_reducible refine Below.alloc ?_ (by first | (simp; done) | (simp; omega)) _ | with_reducible refine Below.setCell ?_ (by first | (simp; done) | (simp; omega)) _)) (Nat.le_refl _)⟩
set_option maxRecDepth 20000 in
set_option maxHeartbeats 4000000 in
theorem unpack_0 (A : Option Addr) (cap : Nat) (w : World) :
    Calls Tryd.prog 15 #[.slice A 0 cap] w (UnPost (unpack []) w) := by
  have hb0 : Below w.heap.size w (w.alloc (.cells #[.int .u32 0, .int .u32 0, .int .i64 0, .string ⟨#[]⟩, .bool false] 27)) := (Below.refl _ _).alloc (Nat.le_refl _) _
  have HU := Lib.hid (show unpack [] = .bad 3 from rfl)
  have kcv : ∀ (W : World), (convert 28 9 (.slice A 0 cap)).run Tryd.prog W = .ok (.string ⟨#[]⟩) W := by
    intro W
    cases A with
    | none => exact run_convert_bytes_nil W 28 5 bytTy.slice (by kernel_rfl) 0 cap 9 Tryd.underlying9
    | some p => exact run_convert_bytes_back (P := Tryd.prog) W 28 9 5 p cap [] bytTy.slice (by kernel_rfl) Tryd.underlying9 (fun j hj => by simp at hj)
  have hcmp : (((⟨#[]⟩ : ByteArray)).toList == ((⟨#[100, 107, 116, 49]⟩ : ByteArray).extract 0 0).toList) = true := by rw [magic_ext 0 (by decide), ByteArray.toList_eq]; rfl
  go_enter Tryd.func15, Tryd.ntmps15
  go_wp2
  go_quiet (fail)
  have HH := Lib.hid (show (((w.alloc (.cells #[.int .u32 0, .int .u32 0, .int .i64 0, .string ⟨#[]⟩, .bool false] 27)).drewN nq)).heap[w.heap.size]? = some (.cells #[.int .u32 0, .int .u32 0, .int .i64 0, .string ⟨#[]⟩, .bool false] 27 (0, 0)) from by first | exact heap_alloc_new w _ | (rw [heap_drewN]; exact heap_alloc_new w _))
  go_wp2
  (try simp only [Exit.inBlock, Exit.then])
  refine bodyPost_ret (results_cell2 rfl _ _ w.heap.size 27 _ (0, 0) _ (by rfl) (set5 HH.out) Tryd.underlying27 rfl (by kernel_rfl)) rfl ?_
  exact ⟨by rw [HU.out]; rfl, below_set5 (by repeat (first | with_reducible exact Below.refl _ _ | with_reducible refine below_drewN ?_ _ | with_reducible refine Below.drew ?_ | with_reducible refine Below.alloc ?_ (by first | (simp; done) | (simp; omega)) _ | with_reducible refine Below.setCell ?_ (by first | (simp; done) | (simp; omega)) _)) (Nat.le_refl _)⟩
set_option maxRecDepth 20000 in
set_option maxHeartbeats 4000000 in
theorem unpack_bad4 (G o cap : Nat) (l : List UInt8) (h4 : 5 ≤ l.length) (hl : l.length ≤ 1099511627776) (hc : l.length ≤ cap) (w : World) (h : w.rangeAt G o (bytesV l)) (hk : headOk l 4 = false) :
    Calls Tryd.prog 15 #[.slice (some ⟨G, o, none⟩) l.length cap] w (UnPost (unpack l) w) := by
  have hb0 : Below w.heap.size w (w.alloc (.cells #[.int .u32 0, .int .u32 0, .int .i64 0, .string ⟨#[]⟩, .bool false] 27)) := (Below.refl _ _).alloc (Nat.le_refl _) _
  have HCV := Lib.hid (fun (c : Nat) (W : World) (hW : Below w.heap.size w W) => conv_bytes (fun j v hj => cell_below hW (h j v hj) : W.rangeAt G o (bytesV l)) 0 4 4 c (by omega) (by omega) rfl)
  have kcv := fun (c n : Nat) => HCV.out c ((w.alloc (.cells #[.int .u32 0, .int .u32 0, .int .i64 0, .string ⟨#[]⟩, .bool false] 27)).drewN n) (below_drewN hb0 n)
  have kcv0 := fun (c : Nat) => HCV.out c (w.alloc (.cells #[.int .u32 0, .int .u32 0, .int .i64 0, .string ⟨#[]⟩, .bool false] 27)) hb0
  have hcmp := head_cmp l 4 (by decide)
  generalize bodyOf l 0 4 = hd at *
  simp only [Nat.add_zero] at kcv kcv0
  have hmin : min (l.length : Int) 4 = 4 := by omega
  have HU := Lib.hid (unpack_bad (by omega) hk)
  rw [hk] at hcmp
  clear h hk
  go_enter Tryd.func15, Tryd.ntmps15
  go_wp2
  go_quiet (fail)
  have HH := Lib.hid (show (((w.alloc (.cells #[.int .u32 0, .int .u32 0, .int .i64 0, .string ⟨#[]⟩, .bool false] 27)).drewN nq)).heap[w.heap.size]? = some (.cells #[.int .u32 0, .int .u32 0, .int .i64 0, .string ⟨#[]⟩, .bool false] 27 (0, 0)) from by first | exact heap_alloc_new w _ | (rw [heap_drewN]; exact heap_alloc_new w _))
  go_wp2
  (try simp only [Exit.inBlock, Exit.then])
  refine bodyPost_ret (results_cell2 rfl _ _ w.heap.size 27 _ (0, 0) _ (by rfl) (set5 HH.out) Tryd.underlying27 rfl (by kernel_rfl)) rfl ?_
  exact ⟨by rw [HU.out]; rfl, below_set5 (by repeat (first | with_reducible exact Below.refl _ _ | with_reducible refine below_drewN ?_ _ | with_reducible refine Below.drew ?_ | with_reducible refine Below.alloc ?_ (by first | (simp; done) | (simp; omega)) _ | with_reducible refine Below.setCell ?_ (by first | (simp; done) | (simp; omega)) _)) (Nat.le_refl _)⟩
set_option maxRecDepth 20000 in
set_option maxHeartbeats 4000000 in
theorem unpack_few (G o cap : Nat) (l : List UInt8) (h4 : 5 ≤ l.length) (hl : l.length ≤ 1099511627776) (hc : l.length ≤ cap) (w : World) (h : w.rangeAt G o (bytesV l)) (hk : headOk l 4 = true) (h8 : l.length < 8) :
    Calls Tryd.prog 15 #[.slice (some ⟨G, o, none⟩) l.length cap] w (UnPost (unpack l) w) := by
  have hb0 : Below w.heap.size w (w.alloc (.cells #[.int .u32 0, .int .u32 0, .int .i64 0, .string ⟨#[]⟩, .bool false] 27)) := (Below.refl _ _).alloc (Nat.le_refl _) _
  have HCV := Lib.hid (fun (c : Nat) (W : World) (hW : Below w.heap.size w W) => conv_bytes (fun j v hj => cell_below hW (h j v hj) : W.rangeAt G o (bytesV l)) 0 4 4 c (by omega) (by omega) rfl)
  have kcv := fun (c n : Nat) => HCV.out c ((w.alloc (.cells #[.int .u32 0, .int .u32 0, .int .i64 0, .string ⟨#[]⟩, .bool false] 27)).drewN n) (below_drewN hb0 n)
  have kcv0 := fun (c : Nat) => HCV.out c (w.alloc (.cells #[.int .u32 0, .int .u32 0, .int .i64 0, .string ⟨#[]⟩, .bool false] 27)) hb0
  have hcmp := head_cmp l 4 (by decide)
  generalize bodyOf l 0 4 = hd at *
  simp only [Nat.add_zero] at kcv kcv0
  have hmin : min (l.length : Int) 4 = 4 := by omega
  have HU := Lib.hid ((unpack_head (by omega) hk).trans (if_pos h8))
  rw [hk] at hcmp
  clear h hk
  go_enter Tryd.func15, Tryd.ntmps15
  go_wp2
  go_quiet (fail)
  have HH := Lib.hid (show (((w.alloc (.cells #[.int .u32 0, .int .u32 0, .int .i64 0, .string ⟨#[]⟩, .bool false] 27)).drewN nq)).heap[w.heap.size]? = some (.cells #[.int .u32 0, .int .u32 0, .int .i64 0, .string ⟨#[]⟩, .bool false] 27 (0, 0)) from by first | exact heap_alloc_new w _ | (rw [heap_drewN]; exact heap_alloc_new w _))
  go_wp2
  (try simp only [Exit.inBlock, Exit.then])
  refine bodyPost_ret (results_cell2 rfl _ _ w.heap.size 27 _ (0, 0) _ (by rfl) (set5 HH.out) Tryd.underlying27 rfl (by kernel_rfl)) rfl ?_
  exact ⟨by rw [HU.out]; rfl, below_set5 (by repeat (first | with_reducible exact Below.refl _ _ | with_reducible refine below_drewN ?_ _ | with_reducible refine Below.drew ?_ | with_reducible refine Below.alloc ?_ (by first | (simp; done) | (simp; omega)) _ | with_reducible refine Below.setCell ?_ (by first | (simp; done) | (simp; omega)) _)) (Nat.le_refl _)⟩
set_option maxRecDepth 20000 in
set_option maxHeartbeats 4000000 in
theorem unpack_long (G o cap : Nat) (l : List UInt8) (h4 : 5 ≤ l.length) (hl : l.length ≤ 1099511627776) (hc : l.length ≤ cap) (w : World) (h : w.rangeAt G o (bytesV l)) (hk : headOk l 4 = true) (h8 : ¬ l.length < 8) (hz : 131072 < numb l 4) :
    Calls Tryd.prog 15 #[.slice (some ⟨G, o, none⟩) l.length cap] w (UnPost (unpack l) w) := by
  have hb0 : Below w.heap.size w (w.alloc (.cells #[.int .u32 0, .int .u32 0, .int .i64 0, .string ⟨#[]⟩, .bool false] 27)) := (Below.refl _ _).alloc (Nat.le_refl _) _
  have HCV := Lib.hid (fun (c : Nat) (W : World) (hW : Below w.heap.size w W) => conv_bytes (fun j v hj => cell_below hW (h j v hj) : W.rangeAt G o (bytesV l)) 0 4 4 c (by omega) (by omega) rfl)
  have kcv := fun (c n : Nat) => HCV.out c ((w.alloc (.cells #[.int .u32 0, .int .u32 0, .int .i64 0, .string ⟨#[]⟩, .bool false] 27)).drewN n) (below_drewN hb0 n)
  have kcv0 := fun (c : Nat) => HCV.out c (w.alloc (.cells #[.int .u32 0, .int .u32 0, .int .i64 0, .string ⟨#[]⟩, .bool false] 27)) hb0
  have hcmp := head_cmp l 4 (by decide)
  generalize bodyOf l 0 4 = hd at *
  simp only [Nat.add_zero] at kcv kcv0
  have hmin : min (l.length : Int) 4 = 4 := by omega
  have HU := Lib.hid ((unpack_head (by omega) hk).trans ((if_neg h8).trans (if_pos hz)))
  rw [hk] at hcmp
  have HN := Lib.hid (fun (n : Nat) => number_c G o cap l 4 (by omega) hl ((w.alloc (.cells #[.int .u32 0, .int .u32 0, .int .i64 0, .string ⟨#[]⟩, .bool false] 27)).drewN n) (fun j v hj => cell_below (below_drewN hb0 n) (h j v hj)))
  have hlt4 := numb_lt l 4
  generalize numb l 4 = z at *
  clear h hk
  go_enter Tryd.func15, Tryd.ntmps15
  go_wp2
  go_quiet (fail)
  go_wp2_with fail
  refine (HN.out nq).mono ?_; rintro e w2 ⟨rfl, m1, rfl⟩
  have HH := Lib.hid (show (((w.alloc (.cells #[.int .u32 0, .int .u32 0, .int .i64 0, .string ⟨#[]⟩, .bool false] 27)).drewN (nq + m1))).heap[w.heap.size]? = some (.cells #[.int .u32 0, .int .u32 0, .int .i64 0, .string ⟨#[]⟩, .bool false] 27 (0, 0)) from by first | exact heap_alloc_new w _ | (rw [heap_drewN]; exact heap_alloc_new w _))
  go_wp2
  (try simp only [Exit.inBlock, Exit.then])
  refine bodyPost_ret (results_cell2 rfl _ _ w.heap.size 27 _ (0, 0) _ (by rfl) (set5 HH.out) Tryd.underlying27 rfl (by kernel_rfl)) rfl ?_
  exact ⟨by rw [HU.out]; rfl, below_set5 (by repeat (first | with_reducible exact Below.refl _ _ | with_reducible refine below_drewN ?_ _ | with_reducible refine Below.drew ?_ | with_reducible refine Below.alloc ?_ (by first | (simp; done) | (simp; omega)) _ | with_reducible refine Below.setCell ?_ (by first | (simp; done) | (simp; omega)) _)) (Nat.le_refl _)⟩
set_option maxRecDepth 20000 in
set_option maxHeartbeats 4000000 in
theorem unpack_little (G o cap : Nat) (l : List UInt8) (h4 : 5 ≤ l.length) (hl : l.length ≤ 1099511627776) (hc : l.length ≤ cap) (w : World) (h : w.rangeAt G o (bytesV l)) (hk : headOk l 4 = true) (h8 : ¬ l.length < 8) (hz : ¬ 131072 < numb l 4) (hz2 : numb l 4 < 24) :
    Calls Tryd.prog 15 #[.slice (some ⟨G, o, none⟩) l.length cap] w (UnPost (unpack l) w) := by
  have hb0 : Below w.heap.size w (w.alloc (.cells #[.int .u32 0, .int .u32 0, .int .i64 0, .string ⟨#[]⟩, .bool false] 27)) := (Below.refl _ _).alloc (Nat.le_refl _) _
  have HCV := Lib.hid (fun (c : Nat) (W : World) (hW : Below w.heap.size w W) => conv_bytes (fun j v hj => cell_below hW (h j v hj) : W.rangeAt G o (bytesV l)) 0 4 4 c (by omega) (by omega) rfl)
  have kcv := fun (c n : Nat) => HCV.out c ((w.alloc (.cells #[.int .u32 0, .int .u32 0, .int .i64 0, .string ⟨#[]⟩, .bool false] 27)).drewN n) (below_drewN hb0 n)
  have kcv0 := fun (c : Nat) => HCV.out c (w.alloc (.cells #[.int .u32 0, .int .u32 0, .int .i64 0, .string ⟨#[]⟩, .bool false] 27)) hb0
  have hcmp := head_cmp l 4 (by decide)
  generalize bodyOf l 0 4 = hd at *
  simp only [Nat.add_zero] at kcv kcv0
  have hmin : min (l.length : Int) 4 = 4 := by omega
  have HU := Lib.hid ((unpack_head (by omega) hk).trans ((if_neg h8).trans ((if_neg hz).trans (if_pos hz2))))
  rw [hk] at hcmp
  have HN := Lib.hid (fun (n : Nat) => number_c G o cap l 4 (by omega) hl ((w.alloc (.cells #[.int .u32 0, .int .u32 0, .int .i64 0, .string ⟨#[]⟩, .bool false] 27)).drewN n) (fun j v hj => cell_below (below_drewN hb0 n) (h j v hj)))
  have hlt4 := numb_lt l 4
  generalize numb l 4 = z at *
  clear h hk
  go_enter Tryd.func15, Tryd.ntmps15
  go_wp2
  go_quiet (fail)
  go_wp2_with fail
  refine (HN.out nq).mono ?_; rintro e w2 ⟨rfl, m1, rfl⟩
  have HH := Lib.hid (show (((w.alloc (.cells #[.int .u32 0, .int .u32 0, .int .i64 0, .string ⟨#[]⟩, .bool false] 27)).drewN (nq + m1))).heap[w.heap.size]? = some (.cells #[.int .u32 0, .int .u32 0, .int .i64 0, .string ⟨#[]⟩, .bool false] 27 (0, 0)) from by first | exact heap_alloc_new w _ | (rw [heap_drewN]; exact heap_alloc_new w _))
  go_wp2
  (try simp only [Exit.inBlock, Exit.then])
  refine bodyPost_ret (results_cell2 rfl _ _ w.heap.size 27 _ (0, 0) _ (by rfl) (set5 HH.out) Tryd.underlying27 rfl (by kernel_rfl)) rfl ?_
  exact ⟨by rw [HU.out]; rfl, below_set5 (by repeat (first | with_reducible exact Below.refl _ _ | with_reducible refine below_drewN ?_ _ | with_reducible refine Below.drew ?_ | with_reducible refine Below.alloc ?_ (by first | (simp; done) | (simp; omega)) _ | with_reducible refine Below.setCell ?_ (by first | (simp; done) | (simp; omega)) _)) (Nat.le_refl _)⟩
set_option maxRecDepth 20000 in
set_option maxHeartbeats 4000000 in
theorem unpack_part (G o cap : Nat) (l : List UInt8) (h4 : 5 ≤ l.length) (hl : l.length ≤ 1099511627776) (hc : l.length ≤ cap) (w : World) (h : w.rangeAt G o (bytesV l)) (hk : headOk l 4 = true) (h8 : ¬ l.length < 8) (hz : ¬ 131072 < numb l 4) (hz2 : ¬ numb l 4 < 24) (hz3 : l.length < numb l 4) :
    Calls Tryd.prog 15 #[.slice (some ⟨G, o, none⟩) l.length cap] w (UnPost (unpack l) w) := by
  have hb0 : Below w.heap.size w (w.alloc (.cells #[.int .u32 0, .int .u32 0, .int .i64 0, .string ⟨#[]⟩, .bool false] 27)) := (Below.refl _ _).alloc (Nat.le_refl _) _
  have HCV := Lib.hid (fun (c : Nat) (W : World) (hW : Below w.heap.size w W) => conv_bytes (fun j v hj => cell_below hW (h j v hj) : W.rangeAt G o (bytesV l)) 0 4 4 c (by omega) (by omega) rfl)
  have kcv := fun (c n : Nat) => HCV.out c ((w.alloc (.cells #[.int .u32 0, .int .u32 0, .int .i64 0, .string ⟨#[]⟩, .bool false] 27)).drewN n) (below_drewN hb0 n)
  have kcv0 := fun (c : Nat) => HCV.out c (w.alloc (.cells #[.int .u32 0, .int .u32 0, .int .i64 0, .string ⟨#[]⟩, .bool false] 27)) hb0
  have hcmp := head_cmp l 4 (by decide)
  generalize bodyOf l 0 4 = hd at *
  simp only [Nat.add_zero] at kcv kcv0
  have hmin : min (l.length : Int) 4 = 4 := by omega
  have HU := Lib.hid ((unpack_head (by omega) hk).trans ((if_neg h8).trans ((if_neg hz).trans ((if_neg hz2).trans (if_pos hz3)))))
  rw [hk] at hcmp
  have HN := Lib.hid (fun (n : Nat) => number_c G o cap l 4 (by omega) hl ((w.alloc (.cells #[.int .u32 0, .int .u32 0, .int .i64 0, .string ⟨#[]⟩, .bool false] 27)).drewN n) (fun j v hj => cell_below (below_drewN hb0 n) (h j v hj)))
  have hlt4 := numb_lt l 4
  generalize numb l 4 = z at *
  clear h hk
  go_enter Tryd.func15, Tryd.ntmps15
  go_wp2
  go_quiet (fail)
  go_wp2_with fail
  refine (HN.out nq).mono ?_; rintro e w2 ⟨rfl, m1, rfl⟩
  have HH := Lib.hid (show (((w.alloc (.cells #[.int .u32 0, .int .u32 0, .int .i64 0, .string ⟨#[]⟩, .bool false] 27)).drewN (nq + m1))).heap[w.heap.size]? = some (.cells #[.int .u32 0, .int .u32 0, .int .i64 0, .string ⟨#[]⟩, .bool false] 27 (0, 0)) from by first | exact heap_alloc_new w _ | (rw [heap_drewN]; exact heap_alloc_new w _))
  go_wp2
  (try simp only [Exit.inBlock, Exit.then])
  refine bodyPost_ret (results_cell2 rfl _ _ w.heap.size 27 _ (0, 0) _ (by rfl) (set5 HH.out) Tryd.underlying27 rfl (by kernel_rfl)) rfl ?_
  exact ⟨by rw [HU.out]; rfl, below_set5 (by repeat (first | with_reducible exact Below.refl _ _ | with_reducible refine below_drewN ?_ _ | with_reducible refine Below.drew ?_ | with_reducible refine Below.alloc ?_ (by first | (simp; done) | (simp; omega)) _ | with_reducible refine Below.setCell ?_ (by first | (simp; done) | (simp; omega)) _)) (Nat.le_refl _)⟩
set_option maxRecDepth 20000 in
set_option maxHeartbeats 4000000 in
theorem unpack_whole (G o cap : Nat) (l : List UInt8) (h4 : 5 ≤ l.length) (hl : l.length ≤ 1099511627776) (hc : l.length ≤ cap) (w : World) (h : w.rangeAt G o (bytesV l)) (hk : headOk l 4 = true) (h8 : ¬ l.length < 8) (hz : ¬ 131072 < numb l 4) (hz2 : ¬ numb l 4 < 24) (hz3 : ¬ l.length < numb l 4) :
    Calls Tryd.prog 15 #[.slice (some ⟨G, o, none⟩) l.length cap] w (UnPost (unpack l) w) := by
  have hb0 : Below w.heap.size w (w.alloc (.cells #[.int .u32 0, .int .u32 0, .int .i64 0, .string ⟨#[]⟩, .bool false] 27)) := (Below.refl _ _).alloc (Nat.le_refl _) _
  have HCV := Lib.hid (fun (c : Nat) (W : World) (hW : Below w.heap.size w W) => conv_bytes (fun j v hj => cell_below hW (h j v hj) : W.rangeAt G o (bytesV l)) 0 4 4 c (by omega) (by omega) rfl)
  have kcv := fun (c n : Nat) => HCV.out c ((w.alloc (.cells #[.int .u32 0, .int .u32 0, .int .i64 0, .string ⟨#[]⟩, .bool false] 27)).drewN n) (below_drewN hb0 n)
  have kcv0 := fun (c : Nat) => HCV.out c (w.alloc (.cells #[.int .u32 0, .int .u32 0, .int .i64 0, .string ⟨#[]⟩, .bool false] 27)) hb0
  have hcmp := head_cmp l 4 (by decide)
  generalize bodyOf l 0 4 = hd at *
  simp only [Nat.add_zero] at kcv kcv0
  have hmin : min (l.length : Int) 4 = 4 := by omega
  have HU := Lib.hid ((unpack_head (by omega) hk).trans ((if_neg h8).trans ((if_neg hz).trans ((if_neg hz2).trans (if_neg hz3)))))
  rw [hk] at hcmp
  have HN := Lib.hid (fun (n : Nat) => number_c G o cap l 4 (by omega) hl ((w.alloc (.cells #[.int .u32 0, .int .u32 0, .int .i64 0, .string ⟨#[]⟩, .bool false] 27)).drewN n) (fun j v hj => cell_below (below_drewN hb0 n) (h j v hj)))
  have HWH := Lib.hid (fun (W : World) (hW : Below w.heap.size w W) => show Calls Tryd.prog 52 #[.slice (some ⟨G, o, none⟩) (numb l 4) cap] W (UnPost (whole l (numb l 4)) W) from by
    have hlt : (l.take (numb l 4)).length = numb l 4 := by rw [List.length_take]; omega
    have hr := rangeAt_take (fun j v hj => cell_below hW (h j v hj) : W.rangeAt G o (bytesV l)) (numb l 4)
    have := whole_c G o cap (l.take (numb l 4)) (by omega) (by omega) (by omega) W (by rw [show bytesV (l.take (numb l 4)) = (bytesV l).take (numb l 4) by simp [bytesV, List.map_take]]; exact hr)
    rw [hlt, whole_take l _ (by omega) (by omega)] at this
    exact this)
  have hlt4 := numb_lt l 4
  generalize numb l 4 = z at *
  clear h hk
  go_enter Tryd.func15, Tryd.ntmps15
  go_wp2
  go_quiet (fail)
  go_wp2_with fail
  refine (HN.out nq).mono ?_; rintro e w2 ⟨rfl, m1, rfl⟩
  go_wp2_with fail
  refine (HWH.out _ (by repeat (first | with_reducible exact Below.refl _ _ | with_reducible refine below_drewN ?_ _ | with_reducible refine Below.drew ?_ | with_reducible refine Below.alloc ?_ (by first | (simp; done) | (simp; omega)) _ | with_reducible refine Below.setCell ?_ (by first | (simp; done) | (simp; omega)) _))).mono ?_; rintro e w3 ⟨he, hb3⟩
  generalize whole l z = r at *
  obtain ⟨⟨id, to, kd, bd, sm⟩, hm⟩ : ∃ m, r.msg = m := ⟨_, rfl⟩
  have he' : e = .returned (.tuple #[.agg #[.int .u32 (id : Int), .int .u32 (to : Int), .int .i64 kd, .string bd, .bool sm], .int .i64 (r.len : Int), .int .i64 (r.err : Int)]) := by rw [he, hm]; rfl
  subst he'
  have HH := Lib.hid ((hb3.block w.heap.size (by simp)).trans (show (((w.alloc (.cells #[.int .u32 0, .int .u32 0, .int .i64 0, .string ⟨#[]⟩, .bool false] 27)).drewN (nq + m1))).heap[w.heap.size]? = some (.cells #[.int .u32 0, .int .u32 0, .int .i64 0, .string ⟨#[]⟩, .bool false] 27 (0, 0)) from by rw [heap_drewN]; exact heap_alloc_new w _))
  have HB3 := Lib.hid (show Below w.heap.size w w3 from (below_drewN hb0 (nq + m1)).trans (hb3.mono (by simp)))
  have HM := Lib.hid hm
  obtain ⟨⟨c0, c1, c2, c3, c4⟩, f0, f1, f2, f3, f4⟩ := cellsOf5 HH.out
  clear he hb3 hm
  go_wp2
  (try simp only [Exit.inBlock, Exit.then])
  refine bodyPost_ret (results_cell2 rfl _ _ w.heap.size 27 _ (0, 0) _ (by rfl) (set5 HH.out) Tryd.underlying27 rfl (by kernel_rfl)) rfl ?_
  exact ⟨by rw [HU.out, HM.out]; rfl, below_set5 HB3.out (Nat.le_refl _)⟩
theorem unpack_c (A : Option Addr) (cap : Nat) (l : List UInt8) (hl : l.length ≤ 1099511627776) (hc : l.length ≤ cap) (w : World) (h : BytesIn w A l) :
    Calls Tryd.prog 15 #[.slice A l.length cap] w (UnPost (unpack l) w) := by
  rcases Nat.eq_zero_or_pos l.length with h0 | h0
  · obtain rfl : l = [] := List.eq_nil_of_length_eq_zero h0
    exact unpack_0 A cap w
  obtain ⟨G, o, rfl, hr⟩ : ∃ G o, A = some ⟨G, o, none⟩ ∧ w.rangeAt G o (bytesV l) := by
    rcases h with h | h
    · rw [h] at h0; simp at h0
    · exact h
  rcases Nat.lt_or_ge l.length 5 with h4 | h4
  · have : l.length = 1 ∨ l.length = 2 ∨ l.length = 3 ∨ l.length = 4 := by omega
    rcases this with e | e | e | e
    · rw [e] at hc ⊢; exact unpack_1 G o cap l e hc w hr
    · rw [e] at hc ⊢; exact unpack_2 G o cap l e hc w hr
    · rw [e] at hc ⊢; exact unpack_3 G o cap l e hc w hr
    · rw [e] at hc ⊢; exact unpack_4 G o cap l e hc w hr
  cases hk : headOk l 4 with
  | false => exact unpack_bad4 G o cap l h4 hl hc w hr hk
  | true =>
    by_cases h8 : l.length < 8
    · exact unpack_few G o cap l h4 hl hc w hr hk h8
    by_cases hz : 131072 < numb l 4
    · exact unpack_long G o cap l h4 hl hc w hr hk h8 hz
    by_cases hz2 : numb l 4 < 24
    · exact unpack_little G o cap l h4 hl hc w hr hk h8 hz hz2
    by_cases hz3 : l.length < numb l 4
    · exact unpack_part G o cap l h4 hl hc w hr hk h8 hz hz2 hz3
    · exact unpack_whole G o cap l h4 hl hc w hr hk h8 hz hz2 hz3
end Go.Proofs.YtkpickojeghppaaDoor
namespace Go.Proofs.YtkpickojeghppaaDoor
open Go.RowKit
theorem numb_drop (l : List UInt8) (k : Nat) (h : k ≤ l.length) : numb (l.drop k) 0 = numb l k := by
  have := numb_right (l.take k) (l.drop k) 0
  rw [List.take_append_drop, List.length_take, Nat.min_eq_left h, Nat.add_zero] at this
  exact this.symm
/-- number(b[k:]) -/
theorem refNumber_at (G o cap : Nat) (l : List UInt8) (k : Nat) (hk : k + 4 ≤ l.length) (hl : l.length ≤ 1099511627776) (w : World) (hr : w.rangeAt G o (bytesV l)) :
    Calls Tryd.prog 53 #[.slice (some ⟨G, o + k, none⟩) (l.length - k) (cap - k)] w fun e w' => e = .returned (.int .u32 (numb l k : Int)) ∧ ∃ m, w' = w.drewN m := by
  have hd := rangeAt_drop hr k
  have := refNumber_c G (o + k) (cap - k) (l.drop k) (by rw [List.length_drop]; omega) (by rw [List.length_drop]; omega) w (by rw [show bytesV (l.drop k) = (bytesV l).drop k by simp [bytesV, List.map_drop]]; exact hd)
  rw [List.length_drop, numb_drop l k (by omega)] at this
  exact this
theorem headOk_succ (l : List UInt8) (k : Nat) (h : k < l.length) (hk : k < 4) (ho : headOk l k = true) (hc : l[k] = magicL[k]'hk) : headOk l (k + 1) = true := by
  unfold headOk at *
  rw [beq_iff_eq] at *
  rw [List.take_succ_eq_append_getElem h, List.take_succ_eq_append_getElem (show k < magicL.length from hk), ho, hc]
  rfl
theorem headOk_turn (l : List UInt8) (k n : Nat) (h : k < l.length) (hk : k < 4) (hn : k < n) (hc : l[k] ≠ magicL[k]'hk) : headOk l n = false := by
  unfold headOk
  rw [beq_eq_false_iff_ne]
  intro e
  apply hc
  have h1 : (l.take n)[k]? = (magicL.take n)[k]? := by rw [e]
  rw [List.getElem?_take, List.getElem?_take, if_pos hn, if_pos hn, List.getElem?_eq_getElem h, List.getElem?_eq_getElem (show k < magicL.length from hk)] at h1
  exact Option.some.inj h1
set_option maxRecDepth 20000 in
set_option maxHeartbeats 16000000 in
theorem refUnpack_some (G o cap : Nat) (l : List UInt8) (h0 : 0 < l.length) (hl : l.length ≤ 1099511627776) (hc : l.length ≤ cap) (w : World) (h : w.rangeAt G o (bytesV l)) :
    Calls Tryd.prog 16 #[.slice (some ⟨G, o, none⟩) l.length cap] w (UnPost (unpack l) w) := by
  have hb0 : Below w.heap.size w (w.alloc (.cells #[.int .u32 0, .int .u32 0, .int .i64 0, .string ⟨#[]⟩, .bool false] 27)) := (Below.refl _ _).alloc (Nat.le_refl _) _
  have HR := Lib.hid (fun (n : Nat) => (fun j v hj => cell_below (below_drewN hb0 n) (h j v hj) : ((w.alloc (.cells #[.int .u32 0, .int .u32 0, .int .i64 0, .string ⟨#[]⟩, .bool false] 27)).drewN n).rangeAt G o (bytesV l)))
  have HA := Lib.hid (fun j v hj => cell_below hb0 (h j v hj) : (w.alloc (.cells #[.int .u32 0, .int .u32 0, .int .i64 0, .string ⟨#[]⟩, .bool false] 27)).rangeAt G o (bytesV l))
  have HRW := Lib.hid (fun (W : World) (hW : Below w.heap.size w W) => (fun j v hj => cell_below hW (h j v hj) : W.rangeAt G o (bytesV l)))
  clear h
  go_enter Tryd.func16, Tryd.ntmps16
  go_wp2
  go_loopg [6] 5 (fun gk i wr => ∃ (k m : Nat), k ≤ 4 ∧ k ≤ l.length ∧ 4 - k < gk ∧ i = .int .i64 k ∧ wr = (w.alloc (.cells #[.int .u32 0, .int .u32 0, .int .i64 0, .string ⟨#[]⟩, .bool false] 27)).drewN m ∧ Hid (headOk l k = true))
  case atStart => exact ⟨0, 0, by omega, by omega, by omega, rfl, rfl, Lib.hid rfl⟩
  case round =>
    obtain ⟨k, m, hk4, hkl, hgk, rfl, rfl, HK⟩ := hrel
    by_cases hgo : k < 4 ∧ k < l.length
    · obtain ⟨hlt4, hltl⟩ := hgo
      have hcell := range_byte HA.out k hltl
      have HS := Lib.hid (headOk_succ l k hltl hlt4 HK.out)
      have HT := Lib.hid (fun (hc : l[k] ≠ magicL[k]'hlt4) => unpack_bad (l := l) (n := min l.length 4) rfl (headOk_turn l k _ hltl hlt4 (by omega) hc))
      have hcases : k = 0 ∨ k = 1 ∨ k = 2 ∨ k = 3 := by omega
      clear HK
      rcases hcases with rfl | rfl | rfl | rfl
      · have HS' := Lib.hid (show l[0] = 100 → headOk l 1 = true from HS.out)
        have HT' := Lib.hid (show l[0] ≠ 100 → unpack l = .bad 280 from HT.out)
        have hcell' : (w.alloc (.cells #[.int .u32 0, .int .u32 0, .int .i64 0, .string ⟨#[]⟩, .bool false] 27)).cell? ⟨G, o, none⟩ = some (.int .u8 ((l[0]).toNat : Int)) := hcell
        clear HS HT hcell
        by_cases hb : l[0] = 100
        · have HS2 := Lib.hid (HS'.out hb)
          have hbf : (((l[0]).toNat : Int) != (((⟨#[100, 107, 116, 49]⟩ : ByteArray)[0]'(by decide)).toNat : Int)) = false := by rw [hb]; rfl
          clear HS' HT' hb
          go_wp2
          go_quiet (fail)
          go_wp2
          go_roundg (gk - 1)
          case measure => omega
          case rel => exact ⟨1, _, by omega, by omega, by omega, rfl, rfl, HS2⟩
        · have HU := Lib.hid (HT'.out hb)
          have hbn : (((l[0]).toNat : Int) != (((⟨#[100, 107, 116, 49]⟩ : ByteArray)[0]'(by decide)).toNat : Int)) = true := bne_of (byte_ne (d := 100) hb)
          clear HS' HT' hb
          go_wp2
          go_quiet (fail)
          have HH := Lib.hid (show ((w.alloc (.cells #[.int .u32 0, .int .u32 0, .int .i64 0, .string ⟨#[]⟩, .bool false] 27)).drewN (m + nq)).heap[w.heap.size]? = some (.cells #[.int .u32 0, .int .u32 0, .int .i64 0, .string ⟨#[]⟩, .bool false] 27 (0, 0)) from by first | exact heap_alloc_new w _ | (rw [heap_drewN]; exact heap_alloc_new w _))
          go_wp2
          (try simp only [Exit.inBlock, Exit.then])
          refine bodyPost_ret (results_cell2 rfl _ _ w.heap.size 27 _ (0, 0) _ (by rfl) (set5 HH.out) Tryd.underlying27 rfl (by kernel_rfl)) rfl ?_
          exact ⟨by rw [HU.out]; rfl, below_set5 (by repeat (first | with_reducible exact Below.refl _ _ | with_reducible refine below_drewN ?_ _ | with_reducible refine Below.drew ?_ | with_reducible refine Below.alloc ?_ (by first | (simp; done) | (simp; omega)) _ | with_reducible refine Below.setCell ?_ (by first | (simp; done) | (simp; omega)) _)) (Nat.le_refl _)⟩
      · have HS' := Lib.hid (show l[1] = 107 → headOk l 2 = true from HS.out)
        have HT' := Lib.hid (show l[1] ≠ 107 → unpack l = .bad 280 from HT.out)
        have hcell' : (w.alloc (.cells #[.int .u32 0, .int .u32 0, .int .i64 0, .string ⟨#[]⟩, .bool false] 27)).cell? ⟨G, o + 1, none⟩ = some (.int .u8 ((l[1]).toNat : Int)) := hcell
        clear HS HT hcell
        by_cases hb : l[1] = 107
        · have HS2 := Lib.hid (HS'.out hb)
          have hbf : (((l[1]).toNat : Int) != (((⟨#[100, 107, 116, 49]⟩ : ByteArray)[1]'(by decide)).toNat : Int)) = false := by rw [hb]; rfl
          clear HS' HT' hb
          go_wp2
          go_quiet (fail)
          go_wp2
          go_roundg (gk - 1)
          case measure => omega
          case rel => exact ⟨2, _, by omega, by omega, by omega, rfl, rfl, HS2⟩
        · have HU := Lib.hid (HT'.out hb)
          have hbn : (((l[1]).toNat : Int) != (((⟨#[100, 107, 116, 49]⟩ : ByteArray)[1]'(by decide)).toNat : Int)) = true := bne_of (byte_ne (d := 107) hb)
          clear HS' HT' hb
          go_wp2
          go_quiet (fail)
          have HH := Lib.hid (show ((w.alloc (.cells #[.int .u32 0, .int .u32 0, .int .i64 0, .string ⟨#[]⟩, .bool false] 27)).drewN (m + nq)).heap[w.heap.size]? = some (.cells #[.int .u32 0, .int .u32 0, .int .i64 0, .string ⟨#[]⟩, .bool false] 27 (0, 0)) from by first | exact heap_alloc_new w _ | (rw [heap_drewN]; exact heap_alloc_new w _))
          go_wp2
          (try simp only [Exit.inBlock, Exit.then])
          refine bodyPost_ret (results_cell2 rfl _ _ w.heap.size 27 _ (0, 0) _ (by rfl) (set5 HH.out) Tryd.underlying27 rfl (by kernel_rfl)) rfl ?_
          exact ⟨by rw [HU.out]; rfl, below_set5 (by repeat (first | with_reducible exact Below.refl _ _ | with_reducible refine below_drewN ?_ _ | with_reducible refine Below.drew ?_ | with_reducible refine Below.alloc ?_ (by first | (simp; done) | (simp; omega)) _ | with_reducible refine Below.setCell ?_ (by first | (simp; done) | (simp; omega)) _)) (Nat.le_refl _)⟩
      · have HS' := Lib.hid (show l[2] = 116 → headOk l 3 = true from HS.out)
        have HT' := Lib.hid (show l[2] ≠ 116 → unpack l = .bad 280 from HT.out)
        have hcell' : (w.alloc (.cells #[.int .u32 0, .int .u32 0, .int .i64 0, .string ⟨#[]⟩, .bool false] 27)).cell? ⟨G, o + 2, none⟩ = some (.int .u8 ((l[2]).toNat : Int)) := hcell
        clear HS HT hcell
        by_cases hb : l[2] = 116
        · have HS2 := Lib.hid (HS'.out hb)
          have hbf : (((l[2]).toNat : Int) != (((⟨#[100, 107, 116, 49]⟩ : ByteArray)[2]'(by decide)).toNat : Int)) = false := by rw [hb]; rfl
          clear HS' HT' hb
          go_wp2
          go_quiet (fail)
          go_wp2
          go_roundg (gk - 1)
          case measure => omega
          case rel => exact ⟨3, _, by omega, by omega, by omega, rfl, rfl, HS2⟩
        · have HU := Lib.hid (HT'.out hb)
          have hbn : (((l[2]).toNat : Int) != (((⟨#[100, 107, 116, 49]⟩ : ByteArray)[2]'(by decide)).toNat : Int)) = true := bne_of (byte_ne (d := 116) hb)
          clear HS' HT' hb
          go_wp2
          go_quiet (fail)
          have HH := Lib.hid (show ((w.alloc (.cells #[.int .u32 0, .int .u32 0, .int .i64 0, .string ⟨#[]⟩, .bool false] 27)).drewN (m + nq)).heap[w.heap.size]? = some (.cells #[.int .u32 0, .int .u32 0, .int .i64 0, .string ⟨#[]⟩, .bool false] 27 (0, 0)) from by first | exact heap_alloc_new w _ | (rw [heap_drewN]; exact heap_alloc_new w _))
          go_wp2
          (try simp only [Exit.inBlock, Exit.then])
          refine bodyPost_ret (results_cell2 rfl _ _ w.heap.size 27 _ (0, 0) _ (by rfl) (set5 HH.out) Tryd.underlying27 rfl (by kernel_rfl)) rfl ?_
          exact ⟨by rw [HU.out]; rfl, below_set5 (by repeat (first | with_reducible exact Below.refl _ _ | with_reducible refine below_drewN ?_ _ | with_reducible refine Below.drew ?_ | with_reducible refine Below.alloc ?_ (by first | (simp; done) | (simp; omega)) _ | with_reducible refine Below.setCell ?_ (by first | (simp; done) | (simp; omega)) _)) (Nat.le_refl _)⟩
      · have HS' := Lib.hid (show l[3] = 49 → headOk l 4 = true from HS.out)
        have HT' := Lib.hid (show l[3] ≠ 49 → unpack l = .bad 280 from HT.out)
        have hcell' : (w.alloc (.cells #[.int .u32 0, .int .u32 0, .int .i64 0, .string ⟨#[]⟩, .bool false] 27)).cell? ⟨G, o + 3, none⟩ = some (.int .u8 ((l[3]).toNat : Int)) := hcell
        clear HS HT hcell
        by_cases hb : l[3] = 49
        · have HS2 := Lib.hid (HS'.out hb)
          have hbf : (((l[3]).toNat : Int) != (((⟨#[100, 107, 116, 49]⟩ : ByteArray)[3]'(by decide)).toNat : Int)) = false := by rw [hb]; rfl
          clear HS' HT' hb
          go_wp2
          go_quiet (fail)
          go_wp2
          go_roundg (gk - 1)
          case measure => omega
          case rel => exact ⟨4, _, by omega, by omega, by omega, rfl, rfl, HS2⟩
        · have HU := Lib.hid (HT'.out hb)
          have hbn : (((l[3]).toNat : Int) != (((⟨#[100, 107, 116, 49]⟩ : ByteArray)[3]'(by decide)).toNat : Int)) = true := bne_of (byte_ne (d := 49) hb)
          clear HS' HT' hb
          go_wp2
          go_quiet (fail)
          have HH := Lib.hid (show ((w.alloc (.cells #[.int .u32 0, .int .u32 0, .int .i64 0, .string ⟨#[]⟩, .bool false] 27)).drewN (m + nq)).heap[w.heap.size]? = some (.cells #[.int .u32 0, .int .u32 0, .int .i64 0, .string ⟨#[]⟩, .bool false] 27 (0, 0)) from by first | exact heap_alloc_new w _ | (rw [heap_drewN]; exact heap_alloc_new w _))
          go_wp2
          (try simp only [Exit.inBlock, Exit.then])
          refine bodyPost_ret (results_cell2 rfl _ _ w.heap.size 27 _ (0, 0) _ (by rfl) (set5 HH.out) Tryd.underlying27 rfl (by kernel_rfl)) rfl ?_
          exact ⟨by rw [HU.out]; rfl, below_set5 (by repeat (first | with_reducible exact Below.refl _ _ | with_reducible refine below_drewN ?_ _ | with_reducible refine Below.drew ?_ | with_reducible refine Below.alloc ?_ (by first | (simp; done) | (simp; omega)) _ | with_reducible refine Below.setCell ?_ (by first | (simp; done) | (simp; omega)) _)) (Nat.le_refl _)⟩
    · rcases Nat.lt_or_ge k 4 with hk | hk
      · obtain rfl : k = l.length := by omega
        have HU := Lib.hid ((unpack_head (n := l.length) (by omega) HK.out).trans (if_pos (by omega)))
        clear HK hgo hk4 hkl
        have HH := Lib.hid (show ((w.alloc (.cells #[.int .u32 0, .int .u32 0, .int .i64 0, .string ⟨#[]⟩, .bool false] 27)).drewN m).heap[w.heap.size]? = some (.cells #[.int .u32 0, .int .u32 0, .int .i64 0, .string ⟨#[]⟩, .bool false] 27 (0, 0)) from by first | exact heap_alloc_new w _ | (rw [heap_drewN]; exact heap_alloc_new w _))
        go_wp2
        (try simp only [Exit.inBlock, Exit.then])
        refine bodyPost_ret (results_cell2 rfl _ _ w.heap.size 27 _ (0, 0) _ (by rfl) (set5 HH.out) Tryd.underlying27 rfl (by kernel_rfl)) rfl ?_
        exact ⟨by rw [HU.out]; rfl, below_set5 (by repeat (first | with_reducible exact Below.refl _ _ | with_reducible refine below_drewN ?_ _ | with_reducible refine Below.drew ?_ | with_reducible refine Below.alloc ?_ (by first | (simp; done) | (simp; omega)) _ | with_reducible refine Below.setCell ?_ (by first | (simp; done) | (simp; omega)) _)) (Nat.le_refl _)⟩
      · obtain rfl : k = 4 := by omega
        have HU0 := Lib.hid (unpack_head (n := 4) (by omega) HK.out)
        clear HK hgo hk4 hk
        by_cases h8 : l.length < 8
        · have HU := Lib.hid (HU0.out.trans (if_pos h8))
          clear HU0
          have HH := Lib.hid (show ((w.alloc (.cells #[.int .u32 0, .int .u32 0, .int .i64 0, .string ⟨#[]⟩, .bool false] 27)).drewN m).heap[w.heap.size]? = some (.cells #[.int .u32 0, .int .u32 0, .int .i64 0, .string ⟨#[]⟩, .bool false] 27 (0, 0)) from by first | exact heap_alloc_new w _ | (rw [heap_drewN]; exact heap_alloc_new w _))
          go_wp2
          (try simp only [Exit.inBlock, Exit.then])
          refine bodyPost_ret (results_cell2 rfl _ _ w.heap.size 27 _ (0, 0) _ (by rfl) (set5 HH.out) Tryd.underlying27 rfl (by kernel_rfl)) rfl ?_
          exact ⟨by rw [HU.out]; rfl, below_set5 (by repeat (first | with_reducible exact Below.refl _ _ | with_reducible refine below_drewN ?_ _ | with_reducible refine Below.drew ?_ | with_reducible refine Below.alloc ?_ (by first | (simp; done) | (simp; omega)) _ | with_reducible refine Below.setCell ?_ (by first | (simp; done) | (simp; omega)) _)) (Nat.le_refl _)⟩
        have HN := Lib.hid (fun (j n : Nat) (hj : j + 4 ≤ l.length) => refNumber_at G o cap l j hj hl _ (HR.out n))
        have h4 := fun (n : Nat) => HN.out 4 n (by omega)
        have HU1 := Lib.hid (HU0.out.trans (if_neg h8))
        have HWT := Lib.hid (fun (h1 : numb l 4 ≤ l.length) (h2 : 24 ≤ numb l 4) => (whole_take l (numb l 4) h1 h2))
        have hlt4 := numb_lt l 4
        generalize numb l 4 = z at *
        have H4 := Lib.hid h4
        clear h4 HU0
        go_wp2_with fail
        refine (H4.out m).mono ?_; rintro e w2 ⟨rfl, m1, rfl⟩
        by_cases hz : 131072 < z
        · have HU := Lib.hid (HU1.out.trans (if_pos hz))
          have HH := Lib.hid (show ((w.alloc (.cells #[.int .u32 0, .int .u32 0, .int .i64 0, .string ⟨#[]⟩, .bool false] 27)).drewN (m + m1)).heap[w.heap.size]? = some (.cells #[.int .u32 0, .int .u32 0, .int .i64 0, .string ⟨#[]⟩, .bool false] 27 (0, 0)) from by first | exact heap_alloc_new w _ | (rw [heap_drewN]; exact heap_alloc_new w _))
          go_wp2
          (try simp only [Exit.inBlock, Exit.then])
          refine bodyPost_ret (results_cell2 rfl _ _ w.heap.size 27 _ (0, 0) _ (by rfl) (set5 HH.out) Tryd.underlying27 rfl (by kernel_rfl)) rfl ?_
          exact ⟨by rw [HU.out]; rfl, below_set5 (by repeat (first | with_reducible exact Below.refl _ _ | with_reducible refine below_drewN ?_ _ | with_reducible refine Below.drew ?_ | with_reducible refine Below.alloc ?_ (by first | (simp; done) | (simp; omega)) _ | with_reducible refine Below.setCell ?_ (by first | (simp; done) | (simp; omega)) _)) (Nat.le_refl _)⟩
        by_cases hz2 : z < 24
        · have HU := Lib.hid (HU1.out.trans ((if_neg hz).trans (if_pos hz2)))
          have HH := Lib.hid (show ((w.alloc (.cells #[.int .u32 0, .int .u32 0, .int .i64 0, .string ⟨#[]⟩, .bool false] 27)).drewN (m + m1)).heap[w.heap.size]? = some (.cells #[.int .u32 0, .int .u32 0, .int .i64 0, .string ⟨#[]⟩, .bool false] 27 (0, 0)) from by first | exact heap_alloc_new w _ | (rw [heap_drewN]; exact heap_alloc_new w _))
          go_wp2
          (try simp only [Exit.inBlock, Exit.then])
          refine bodyPost_ret (results_cell2 rfl _ _ w.heap.size 27 _ (0, 0) _ (by rfl) (set5 HH.out) Tryd.underlying27 rfl (by kernel_rfl)) rfl ?_
          exact ⟨by rw [HU.out]; rfl, below_set5 (by repeat (first | with_reducible exact Below.refl _ _ | with_reducible refine below_drewN ?_ _ | with_reducible refine Below.drew ?_ | with_reducible refine Below.alloc ?_ (by first | (simp; done) | (simp; omega)) _ | with_reducible refine Below.setCell ?_ (by first | (simp; done) | (simp; omega)) _)) (Nat.le_refl _)⟩
        by_cases hz3 : l.length < z
        · have HU := Lib.hid (HU1.out.trans ((if_neg hz).trans ((if_neg hz2).trans (if_pos hz3))))
          have HH := Lib.hid (show ((w.alloc (.cells #[.int .u32 0, .int .u32 0, .int .i64 0, .string ⟨#[]⟩, .bool false] 27)).drewN (m + m1)).heap[w.heap.size]? = some (.cells #[.int .u32 0, .int .u32 0, .int .i64 0, .string ⟨#[]⟩, .bool false] 27 (0, 0)) from by first | exact heap_alloc_new w _ | (rw [heap_drewN]; exact heap_alloc_new w _))
          go_wp2
          (try simp only [Exit.inBlock, Exit.then])
          refine bodyPost_ret (results_cell2 rfl _ _ w.heap.size 27 _ (0, 0) _ (by rfl) (set5 HH.out) Tryd.underlying27 rfl (by kernel_rfl)) rfl ?_
          exact ⟨by rw [HU.out]; rfl, below_set5 (by repeat (first | with_reducible exact Below.refl _ _ | with_reducible refine below_drewN ?_ _ | with_reducible refine Below.drew ?_ | with_reducible refine Below.alloc ?_ (by first | (simp; done) | (simp; omega)) _ | with_reducible refine Below.setCell ?_ (by first | (simp; done) | (simp; omega)) _)) (Nat.le_refl _)⟩
        have HU2 := Lib.hid (HU1.out.trans ((if_neg hz).trans ((if_neg hz2).trans (if_neg hz3))))
        have h16 := HN.out 16 (m + m1) (by omega)
        have h20 := fun (n : Nat) => HN.out 20 n (by omega)
        have h8a := fun (n : Nat) => HN.out 8 n (by omega)
        have h12 := fun (n : Nat) => HN.out 12 n (by omega)
        have H20 := Lib.hid h20
        have H8 := Lib.hid h8a
        have H12 := Lib.hid h12
        clear H4 HU1 h20 h8a h12
        go_wp2_with fail
        refine h16.mono ?_; rintro e w2 ⟨rfl, m2, rfl⟩
        clear h16
        go_wp2_with fail
        refine (H20.out (m + m1 + m2)).mono ?_; rintro e w2 ⟨rfl, m3, rfl⟩
        clear H20
        unfold whole at HU2
        have hlt16 := numb_lt l 16
        have hlt20 := numb_lt l 20
        by_cases hk1 : numb l 16 < 1 ∨ 6 < numb l 16
        · have HU := Lib.hid (HU2.out.trans (if_pos hk1))
          generalize numb l 16 = kd at *
          generalize numb l 20 = fl at *
          clear HU2
          rcases hk1 with hk1 | hk1
          · skip
            have HH := Lib.hid (show ((w.alloc (.cells #[.int .u32 0, .int .u32 0, .int .i64 0, .string ⟨#[]⟩, .bool false] 27)).drewN (m + m1 + m2 + m3)).heap[w.heap.size]? = some (.cells #[.int .u32 0, .int .u32 0, .int .i64 0, .string ⟨#[]⟩, .bool false] 27 (0, 0)) from by first | exact heap_alloc_new w _ | (rw [heap_drewN]; exact heap_alloc_new w _))
            go_wp2
            (try simp only [Exit.inBlock, Exit.then])
            refine bodyPost_ret (results_cell2 rfl _ _ w.heap.size 27 _ (0, 0) _ (by rfl) (set5 HH.out) Tryd.underlying27 rfl (by kernel_rfl)) rfl ?_
            exact ⟨by rw [HU.out]; rfl, below_set5 (by repeat (first | with_reducible exact Below.refl _ _ | with_reducible refine below_drewN ?_ _ | with_reducible refine Below.drew ?_ | with_reducible refine Below.alloc ?_ (by first | (simp; done) | (simp; omega)) _ | with_reducible refine Below.setCell ?_ (by first | (simp; done) | (simp; omega)) _)) (Nat.le_refl _)⟩
          · have hk1' : ¬ kd < 1 := by omega
            have HH := Lib.hid (show ((w.alloc (.cells #[.int .u32 0, .int .u32 0, .int .i64 0, .string ⟨#[]⟩, .bool false] 27)).drewN (m + m1 + m2 + m3)).heap[w.heap.size]? = some (.cells #[.int .u32 0, .int .u32 0, .int .i64 0, .string ⟨#[]⟩, .bool false] 27 (0, 0)) from by first | exact heap_alloc_new w _ | (rw [heap_drewN]; exact heap_alloc_new w _))
            go_wp2
            (try simp only [Exit.inBlock, Exit.then])
            refine bodyPost_ret (results_cell2 rfl _ _ w.heap.size 27 _ (0, 0) _ (by rfl) (set5 HH.out) Tryd.underlying27 rfl (by kernel_rfl)) rfl ?_
            exact ⟨by rw [HU.out]; rfl, below_set5 (by repeat (first | with_reducible exact Below.refl _ _ | with_reducible refine below_drewN ?_ _ | with_reducible refine Below.drew ?_ | with_reducible refine Below.alloc ?_ (by first | (simp; done) | (simp; omega)) _ | with_reducible refine Below.setCell ?_ (by first | (simp; done) | (simp; omega)) _)) (Nat.le_refl _)⟩
        have HU3 := Lib.hid (HU2.out.trans (if_neg hk1))
        have k1 : ¬ numb l 16 < 1 := fun e => hk1 (.inl e)
        have k2 : ¬ 6 < numb l 16 := fun e => hk1 (.inr e)
        clear HU2 hk1
        by_cases hf : 1 < numb l 20
        · have HU := Lib.hid (HU3.out.trans (if_pos hf))
          generalize numb l 16 = kd at *
          generalize numb l 20 = fl at *
          have HH := Lib.hid (show ((w.alloc (.cells #[.int .u32 0, .int .u32 0, .int .i64 0, .string ⟨#[]⟩, .bool false] 27)).drewN (m + m1 + m2 + m3)).heap[w.heap.size]? = some (.cells #[.int .u32 0, .int .u32 0, .int .i64 0, .string ⟨#[]⟩, .bool false] 27 (0, 0)) from by first | exact heap_alloc_new w _ | (rw [heap_drewN]; exact heap_alloc_new w _))
          go_wp2
          (try simp only [Exit.inBlock, Exit.then])
          refine bodyPost_ret (results_cell2 rfl _ _ w.heap.size 27 _ (0, 0) _ (by rfl) (set5 HH.out) Tryd.underlying27 rfl (by kernel_rfl)) rfl ?_
          exact ⟨by rw [HU.out]; rfl, below_set5 (by repeat (first | with_reducible exact Below.refl _ _ | with_reducible refine below_drewN ?_ _ | with_reducible refine Below.drew ?_ | with_reducible refine Below.alloc ?_ (by first | (simp; done) | (simp; omega)) _ | with_reducible refine Below.setCell ?_ (by first | (simp; done) | (simp; omega)) _)) (Nat.le_refl _)⟩
        have HU4 := Lib.hid (HU3.out.trans (if_neg hf))
        clear HU3
        have zs : IntKind.u32.wrap ((z : Int) - 4) = (z : Int) - 4 := by rw [wrap_u32]; omega
        have zn : ((z : Int) - 4).toNat = z - 4 := by omega
        have zp : 0 ≤ (z : Int) - 4 := by omega
        have zl : (z : Int) - 4 ≤ (l.length : Int) := by omega
        have zc : (z : Int) - 4 ≤ (cap : Int) := by omega
        by_cases f1 : numb l 20 = 1
        · have HU5 := Lib.hid (HU4.out.trans (if_pos f1))
          clear HU4
          by_cases h28 : z < 28
          · have HU := Lib.hid (HU5.out.trans (if_pos h28))
            generalize numb l 16 = kd at *
            generalize numb l 20 = fl at *
            subst f1
            clear HU5 zs zn zp zl zc
            have HH := Lib.hid (show ((w.alloc (.cells #[.int .u32 0, .int .u32 0, .int .i64 0, .string ⟨#[]⟩, .bool false] 27)).drewN (m + m1 + m2 + m3)).heap[w.heap.size]? = some (.cells #[.int .u32 0, .int .u32 0, .int .i64 0, .string ⟨#[]⟩, .bool false] 27 (0, 0)) from by first | exact heap_alloc_new w _ | (rw [heap_drewN]; exact heap_alloc_new w _))
            go_wp2
            (try simp only [Exit.inBlock, Exit.then])
            refine bodyPost_ret (results_cell2 rfl _ _ w.heap.size 27 _ (0, 0) _ (by rfl) (set5 HH.out) Tryd.underlying27 rfl (by kernel_rfl)) rfl ?_
            exact ⟨by rw [HU.out]; rfl, below_set5 (by repeat (first | with_reducible exact Below.refl _ _ | with_reducible refine below_drewN ?_ _ | with_reducible refine Below.drew ?_ | with_reducible refine Below.alloc ?_ (by first | (simp; done) | (simp; omega)) _ | with_reducible refine Below.setCell ?_ (by first | (simp; done) | (simp; omega)) _)) (Nat.le_refl _)⟩
          have HU6 := Lib.hid (HU5.out.trans (if_neg h28))
          have HSUM := Lib.hid (fun (n : Nat) => show Calls Tryd.prog 19 #[.slice (some ⟨G, o, none⟩) (z - 4) cap] ((w.alloc (.cells #[.int .u32 0, .int .u32 0, .int .i64 0, .string ⟨#[]⟩, .bool false] 27)).drewN n) _ from by
            have := refSum_c (some ⟨G, o, none⟩) cap (l.take (z - 4)) (by rw [List.length_take]; unfold maxLen; omega) ((w.alloc (.cells #[.int .u32 0, .int .u32 0, .int .i64 0, .string ⟨#[]⟩, .bool false] 27)).drewN n) (.inr ⟨G, o, rfl, by
              have hr := rangeAt_take (HR.out n) (z - 4)
              rw [show bytesV (l.take (z - 4)) = (bytesV l).take (z - 4) by simp [bytesV, List.map_take]]; exact hr⟩)
            rw [List.length_take, Nat.min_eq_left (by omega)] at this
            exact this)
          have HEND := Lib.hid (fun (n : Nat) => HN.out (z - 4) n (by omega))
          clear HU5
          have hclt := crc_lt (l.take (z - 4))
          have hnlt := numb_lt l (z - 4)
          by_cases hcr : crc (l.take (z - 4)) = numb l (z - 4)
          · have HU := Lib.hid (HU6.out.trans (if_neg (fun e => e hcr)))
            have i8lt := numb_lt l 8
            have i12lt := numb_lt l 12
            have HCR := Lib.hid hcr
            rw [← hcr] at HEND hnlt
            obtain ⟨bd, hbd⟩ : ∃ b, bodyOf l 24 (z - 4) = b := ⟨_, rfl⟩
            rw [hbd] at HU
            have H8W := Lib.hid (fun (W : World) (hW : Below w.heap.size w W) => refNumber_at G o cap l 8 (by omega) hl W (HRW.out W hW))
            have H12W := Lib.hid (fun (W : World) (hW : Below w.heap.size w W) => refNumber_at G o cap l 12 (by omega) hl W (HRW.out W hW))
            have HCV := Lib.hid (fun (W : World) (hW : Below w.heap.size w W) => show (convert 28 9 (.slice (some ⟨G, o + 24, none⟩) (z - 4 - 24) (cap - 24))).run Tryd.prog W = .ok (.string bd) W by rw [← hbd]; exact conv_bytes (HRW.out W hW) 24 (z - 4) (z - 4 - 24) (cap - 24) (by omega) (by omega) rfl)
            have nc8 : ¬ cap = 8 := by omega
            have nc12 : ¬ cap = 12 := by omega
            have nc24 : ¬ cap = 24 := by omega
            have li8 : (8 : Int) ≤ (l.length : Int) := by omega
            have li12 : (12 : Int) ≤ (l.length : Int) := by omega
            have zi24 : (24 : Int) ≤ (z : Int) - 4 := by omega
            have zil : (z : Int) ≤ (l.length : Int) := by omega
            have zic : (z : Int) ≤ (cap : Int) := by omega
            have wz : IntKind.i64.wrap (z : Int) = (z : Int) := IntWalk.i64_in _ (by omega)
            have z28 : (28 : Int) ≤ (z : Int) := by omega
            have zb28 : decide ((z : Int) < 28) = false := decide_eq_false (by omega)
            clear HU6 hcr hbd
            generalize crc (l.take (z - 4)) = cr at *
            generalize numb l 16 = kd at *
            generalize numb l 20 = fl at *
            subst f1
            generalize numb l 8 = i8 at *
            generalize numb l 12 = i12 at *
            have wk : IntKind.i64.wrap (kd : Int) = (kd : Int) := IntWalk.i64_in _ (by omega)
            go_wp2
            go_quiet ((first | (go_at_call 19; first | exact quietS (HSUM.out _) | exact quietS2 (HSUM.out _)) | (go_at_call 53; first | exact quietD (HEND.out _) | exact quietD2 (HEND.out _))))
            go_wp2
            go_region_held3 (fun W => (convert 28 9 (.slice (some ⟨G, o + 24, none⟩) (z - 4 - 24) (cap - 24))).run Tryd.prog W = .ok (.string bd) W)
              (exact HCV.out _ (by repeat (first | with_reducible exact Below.refl _ _ | with_reducible refine below_drewN ?_ _ | with_reducible refine Below.drew ?_ | with_reducible refine Below.alloc ?_ (by first | (simp; done) | (simp; omega)) _ | with_reducible refine Below.setCell ?_ (by first | (simp; done) | (simp; omega)) _)))
              ((first | (go_at_call 53; with_reducible refine (H8W.out _ (by repeat (first | with_reducible exact Below.refl _ _ | with_reducible refine below_drewN ?_ _ | with_reducible refine Below.drew ?_ | with_reducible refine Below.alloc ?_ (by first | (simp; done) | (simp; omega)) _ | with_reducible refine Below.setCell ?_ (by first | (simp; done) | (simp; omega)) _))).mono ?_; rintro e wz ⟨rfl, q8, rfl⟩) | (go_at_call 53; with_reducible refine (H12W.out _ (by repeat (first | with_reducible exact Below.refl _ _ | with_reducible refine below_drewN ?_ _ | with_reducible refine Below.drew ?_ | with_reducible refine Below.alloc ?_ (by first | (simp; done) | (simp; omega)) _ | with_reducible refine Below.setCell ?_ (by first | (simp; done) | (simp; omega)) _))).mono ?_; rintro e wz ⟨rfl, q12, rfl⟩)))
            have HH := Lib.hid (show ((w.alloc (.cells #[.int .u32 0, .int .u32 0, .int .i64 0, .string ⟨#[]⟩, .bool false] 27)).drewN (m + m1 + m2 + m3 + nq + 1 + q8 + q12)).heap[w.heap.size]? = some (.cells #[.int .u32 0, .int .u32 0, .int .i64 0, .string ⟨#[]⟩, .bool false] 27 (0, 0)) from by first | exact heap_alloc_new w _ | (rw [heap_drewN]; exact heap_alloc_new w _))
            go_wp2
            (try simp only [Exit.inBlock, Exit.then])
            refine bodyPost_ret (results_cell2 rfl _ _ w.heap.size 27 _ (0, 0) _ (by rfl) (set5 HH.out) Tryd.underlying27 rfl (by kernel_rfl)) rfl ?_
            exact ⟨by rw [HU.out]; rfl, below_set5 (by repeat (first | with_reducible exact Below.refl _ _ | with_reducible refine below_drewN ?_ _ | with_reducible refine Below.drew ?_ | with_reducible refine Below.alloc ?_ (by first | (simp; done) | (simp; omega)) _ | with_reducible refine Below.setCell ?_ (by first | (simp; done) | (simp; omega)) _)) (Nat.le_refl _)⟩
          · have HU := Lib.hid (HU6.out.trans (if_pos hcr))
            have hbn : ((crc (l.take (z - 4)) : Int) != (numb l (z - 4) : Int)) = true := by rw [bne_iff_ne]; omega
            generalize crc (l.take (z - 4)) = cr at *
            generalize numb l (z - 4) = nb at *
            generalize numb l 16 = kd at *
            generalize numb l 20 = fl at *
            subst f1
            clear HU6 hcr
            go_wp2
            go_quiet ((first | (go_at_call 19; first | exact quietS (HSUM.out _) | exact quietS2 (HSUM.out _)) | (go_at_call 53; first | exact quietD (HEND.out _) | exact quietD2 (HEND.out _))))
            have HH := Lib.hid (show ((w.alloc (.cells #[.int .u32 0, .int .u32 0, .int .i64 0, .string ⟨#[]⟩, .bool false] 27)).drewN (m + m1 + m2 + m3 + nq)).heap[w.heap.size]? = some (.cells #[.int .u32 0, .int .u32 0, .int .i64 0, .string ⟨#[]⟩, .bool false] 27 (0, 0)) from by first | exact heap_alloc_new w _ | (rw [heap_drewN]; exact heap_alloc_new w _))
            go_wp2
            (try simp only [Exit.inBlock, Exit.then])
            refine bodyPost_ret (results_cell2 rfl _ _ w.heap.size 27 _ (0, 0) _ (by rfl) (set5 HH.out) Tryd.underlying27 rfl (by kernel_rfl)) rfl ?_
            exact ⟨by rw [HU.out]; rfl, below_set5 (by repeat (first | with_reducible exact Below.refl _ _ | with_reducible refine below_drewN ?_ _ | with_reducible refine Below.drew ?_ | with_reducible refine Below.alloc ?_ (by first | (simp; done) | (simp; omega)) _ | with_reducible refine Below.setCell ?_ (by first | (simp; done) | (simp; omega)) _)) (Nat.le_refl _)⟩
        · have HU := Lib.hid (HU4.out.trans (if_neg f1))
          have f0 : numb l 20 = 0 := by omega
          clear HU4 f1 zs zn zp zl zc
          have i8lt := numb_lt l 8
          have i12lt := numb_lt l 12
          obtain ⟨bd, hbd⟩ : ∃ b, bodyOf l 24 z = b := ⟨_, rfl⟩
          rw [hbd] at HU
          have H8W := Lib.hid (fun (W : World) (hW : Below w.heap.size w W) => refNumber_at G o cap l 8 (by omega) hl W (HRW.out W hW))
          have H12W := Lib.hid (fun (W : World) (hW : Below w.heap.size w W) => refNumber_at G o cap l 12 (by omega) hl W (HRW.out W hW))
          have HBD := Lib.hid hbd
          clear hbd
          by_cases hcap : cap = 24
          · subst hcap
            obtain rfl : z = 24 := by omega
            have hlen := Lib.hid (show l.length = 24 by omega)
            have HCV := Lib.hid (fun (W : World) (hW : Below w.heap.size w W) => show (convert 28 9 (.slice (some ⟨G, o, none⟩) (24 - 24) (24 - 24))).run Tryd.prog W = .ok (.string bd) W by
              rw [← HBD.out, show bodyOf l 24 24 = ⟨#[]⟩ by unfold bodyOf; rw [List.drop_of_length_le (by rw [List.length_take]; omega)]]
              exact run_convert_bytes_nil0 W G o)
            have li8 : (8 : Int) ≤ (l.length : Int) := by omega
            have li12 : (12 : Int) ≤ (l.length : Int) := by omega
            have li24 : (24 : Int) ≤ (l.length : Int) := by omega
            generalize numb l 16 = kd at *
            generalize numb l 20 = fl at *
            subst f0
            generalize numb l 8 = i8 at *
            generalize numb l 12 = i12 at *
            have wk : IntKind.i64.wrap (kd : Int) = (kd : Int) := IntWalk.i64_in _ (by omega)
            go_wp2
            go_quiet (fail)
            go_wp2
            go_region_held3 (fun W => (convert 28 9 (.slice (some ⟨G, o, none⟩) (24 - 24) (24 - 24))).run Tryd.prog W = .ok (.string bd) W)
              (exact HCV.out _ (by repeat (first | with_reducible exact Below.refl _ _ | with_reducible refine below_drewN ?_ _ | with_reducible refine Below.drew ?_ | with_reducible refine Below.alloc ?_ (by first | (simp; done) | (simp; omega)) _ | with_reducible refine Below.setCell ?_ (by first | (simp; done) | (simp; omega)) _)))
              ((first | (go_at_call 53; with_reducible refine (H8W.out _ (by repeat (first | with_reducible exact Below.refl _ _ | with_reducible refine below_drewN ?_ _ | with_reducible refine Below.drew ?_ | with_reducible refine Below.alloc ?_ (by first | (simp; done) | (simp; omega)) _ | with_reducible refine Below.setCell ?_ (by first | (simp; done) | (simp; omega)) _))).mono ?_; rintro e wz ⟨rfl, q8, rfl⟩) | (go_at_call 53; with_reducible refine (H12W.out _ (by repeat (first | with_reducible exact Below.refl _ _ | with_reducible refine below_drewN ?_ _ | with_reducible refine Below.drew ?_ | with_reducible refine Below.alloc ?_ (by first | (simp; done) | (simp; omega)) _ | with_reducible refine Below.setCell ?_ (by first | (simp; done) | (simp; omega)) _))).mono ?_; rintro e wz ⟨rfl, q12, rfl⟩)))
            have HH := Lib.hid (show ((w.alloc (.cells #[.int .u32 0, .int .u32 0, .int .i64 0, .string ⟨#[]⟩, .bool false] 27)).drewN (m + m1 + m2 + m3 + nq + 1 + q8 + q12)).heap[w.heap.size]? = some (.cells #[.int .u32 0, .int .u32 0, .int .i64 0, .string ⟨#[]⟩, .bool false] 27 (0, 0)) from by first | exact heap_alloc_new w _ | (rw [heap_drewN]; exact heap_alloc_new w _))
            go_wp2
            (try simp only [Exit.inBlock, Exit.then])
            refine bodyPost_ret (results_cell2 rfl _ _ w.heap.size 27 _ (0, 0) _ (by rfl) (set5 HH.out) Tryd.underlying27 rfl (by kernel_rfl)) rfl ?_
            exact ⟨by rw [HU.out]; rfl, below_set5 (by repeat (first | with_reducible exact Below.refl _ _ | with_reducible refine below_drewN ?_ _ | with_reducible refine Below.drew ?_ | with_reducible refine Below.alloc ?_ (by first | (simp; done) | (simp; omega)) _ | with_reducible refine Below.setCell ?_ (by first | (simp; done) | (simp; omega)) _)) (Nat.le_refl _)⟩
          · have HCV := Lib.hid (fun (W : World) (hW : Below w.heap.size w W) => show (convert 28 9 (.slice (some ⟨G, o + 24, none⟩) (z - 24) (cap - 24))).run Tryd.prog W = .ok (.string bd) W by rw [← HBD.out]; exact conv_bytes (HRW.out W hW) 24 z (z - 24) (cap - 24) (by omega) (by omega) rfl)
            have hcap24 : 24 < cap := by omega
            have nc8 : ¬ cap = 8 := by omega
            have nc12 : ¬ cap = 12 := by omega
            have nc24 : ¬ cap = 24 := by omega
            have li8 : (8 : Int) ≤ (l.length : Int) := by omega
            have li12 : (12 : Int) ≤ (l.length : Int) := by omega
            have zi24 : (24 : Int) ≤ (z : Int) := by omega
            have zil : (z : Int) ≤ (l.length : Int) := by omega
            have zic : (z : Int) ≤ (cap : Int) := by omega
            have wz : IntKind.i64.wrap (z : Int) = (z : Int) := IntWalk.i64_in _ (by omega)
            generalize numb l 16 = kd at *
            generalize numb l 20 = fl at *
            subst f0
            generalize numb l 8 = i8 at *
            generalize numb l 12 = i12 at *
            have wk : IntKind.i64.wrap (kd : Int) = (kd : Int) := IntWalk.i64_in _ (by omega)
            go_wp2
            go_quiet (fail)
            go_wp2
            go_region_held3 (fun W => (convert 28 9 (.slice (some ⟨G, o + 24, none⟩) (z - 24) (cap - 24))).run Tryd.prog W = .ok (.string bd) W)
              (exact HCV.out _ (by repeat (first | with_reducible exact Below.refl _ _ | with_reducible refine below_drewN ?_ _ | with_reducible refine Below.drew ?_ | with_reducible refine Below.alloc ?_ (by first | (simp; done) | (simp; omega)) _ | with_reducible refine Below.setCell ?_ (by first | (simp; done) | (simp; omega)) _)))
              ((first | (go_at_call 53; with_reducible refine (H8W.out _ (by repeat (first | with_reducible exact Below.refl _ _ | with_reducible refine below_drewN ?_ _ | with_reducible refine Below.drew ?_ | with_reducible refine Below.alloc ?_ (by first | (simp; done) | (simp; omega)) _ | with_reducible refine Below.setCell ?_ (by first | (simp; done) | (simp; omega)) _))).mono ?_; rintro e wz ⟨rfl, q8, rfl⟩) | (go_at_call 53; with_reducible refine (H12W.out _ (by repeat (first | with_reducible exact Below.refl _ _ | with_reducible refine below_drewN ?_ _ | with_reducible refine Below.drew ?_ | with_reducible refine Below.alloc ?_ (by first | (simp; done) | (simp; omega)) _ | with_reducible refine Below.setCell ?_ (by first | (simp; done) | (simp; omega)) _))).mono ?_; rintro e wz ⟨rfl, q12, rfl⟩)))
            have HH := Lib.hid (show ((w.alloc (.cells #[.int .u32 0, .int .u32 0, .int .i64 0, .string ⟨#[]⟩, .bool false] 27)).drewN (m + m1 + m2 + m3 + nq + 1 + q8 + q12)).heap[w.heap.size]? = some (.cells #[.int .u32 0, .int .u32 0, .int .i64 0, .string ⟨#[]⟩, .bool false] 27 (0, 0)) from by first | exact heap_alloc_new w _ | (rw [heap_drewN]; exact heap_alloc_new w _))
            go_wp2
            (try simp only [Exit.inBlock, Exit.then])
            refine bodyPost_ret (results_cell2 rfl _ _ w.heap.size 27 _ (0, 0) _ (by rfl) (set5 HH.out) Tryd.underlying27 rfl (by kernel_rfl)) rfl ?_
            exact ⟨by rw [HU.out]; rfl, below_set5 (by repeat (first | with_reducible exact Below.refl _ _ | with_reducible refine below_drewN ?_ _ | with_reducible refine Below.drew ?_ | with_reducible refine Below.alloc ?_ (by first | (simp; done) | (simp; omega)) _ | with_reducible refine Below.setCell ?_ (by first | (simp; done) | (simp; omega)) _)) (Nat.le_refl _)⟩
end Go.Proofs.YtkpickojeghppaaDoor
