/- The walk of takes (the document's client). Conditions: at most a thousand asks are open, at most 2 to the 40 replies are kept. -/
import Derived.Test.YtkpickojeghppaaDoorRca
import Derived.Test.YtkpickojeghppaaDoorRcr
import Derived.Test.YtkpickojeghppaaDoorClib
namespace Go.Proofs.YtkpickojeghppaaDoor
open Go.RowKit
/-- a message has been taken; an error has ended the session -/
def Cl.took (s : Cl) (m : WMsg) : Cl := (s.take m).1.failed (s.take m).2
theorem rcfails_b (R : Nat) (V : CV) (s : Cl) (e : Nat) (w : World) (h : RCK.At w R V s) (w1 : World) (hb : Below w.heap.size w w1) :
    Calls Tryd.prog 69 #[.pointer (some ⟨R, 0, none⟩), .int .i64 (e : Int)] w1 (RCK.Post R V s w (s.stop e) (.tuple #[])) :=
  (rcfails_c R V s e w1 (StAt.below h hb)).mono (fun _ _ hp => EK.seq (Turn.of_below hb) (fun _ hg => .inl hg) hp)
/-- what came has grown -/
theorem rc_cgrown {w : World} {R : Nat} {V : CV} {s s2 : Cl} (h : RCK.At w R V s) {q' : Value} {w1 : World} (hu : Upd w w1 V.r.ownBlock q'.ownBlock) (hs : Slab w1 2 q' s2.came.length (cameV s2.came))
    (hc : ((rcCells R V s).setIfInBounds 10 q') = rcCells R { V with r := q' } s2) (hi : s2.closed = s.closed) (hin : s2.inp = s.inp) (ho : s2.out = s.out) (hr : s2.asked = s.asked) :
    RCK.At (w1.setCell ⟨R, 10, none⟩ q') R { V with r := q' } s2 ∧ Turn (RCK.F R V s) w (w1.setCell ⟨R, 10, none⟩ q') ∧ ∀ g, RCK.F R { V with r := q' } s2 g → RCK.F R V s g ∨ w.heap.size ≤ g := by
  have hR := h.ltR
  have hb1 : w1.heap[R]? = some (.cells (rcCells R V s) 79 (0, 0)) := (hu.block hR (h.nR _ (.tail _ (.tail _ (.tail _ (.head _)))))).trans h.blk
  have hb2 := heap_setCell_same w1 R 10 _ _ q' hb1
  rw [hc] at hb2
  have hn : ∀ g, q'.ownBlock = some g → V.r.ownBlock = some g ∨ w.heap.size ≤ g := fun g hg => by
    rcases hu.own with e | ⟨q, e, hq⟩
    · left; rw [← e]; exact hg
    · right; rw [e] at hg; rw [← Option.some.inj hg]; exact hq
  have hne : ∀ g, q'.ownBlock = some g → g ≠ R := fun g hg e => by
    subst e
    rcases hn g hg with e | e
    · exact h.nR _ (.tail _ (.tail _ (.tail _ (.head _)))) e
    · omega
  have hs2 : Slab (w1.setCell ⟨R, 10, none⟩ q') 2 q' s2.came.length (cameV s2.came) := Slab.same hs (fun g hg => heap_setCell_other _ _ _ _ (hne g hg))
  refine EK.repl (K := RCK) (s2 := s2) [⟨1, V.i, s.inp.length, bytesV s.inp, s.closed = false⟩, ⟨1, V.o, s.out.length, bytesV s.out, True⟩, ⟨1, V.q, s.asked.length, numsV s.asked, True⟩] []
    ⟨2, V.r, s.came.length, cameV s.came, True⟩ ⟨2, q', s2.came.length, cameV s2.came, True⟩ rfl (by show clParts _ s2 = _; simp only [clParts, hi, hin, ho, hr]; rfl) h ?_ hb2 (fun _ => hs2) (fun g hg => Slab.lt hs2 hg) hn
  exact ((Turn.refl (fun g => g = R ∨ V.r.ownBlock = some g) w).upd hu (fun g hg => .inl (.inr hg))).set (.inl (.inl rfl)) 10 q'
/-- the first ask is no more -/
theorem rc_qtail {w : World} {R G o o2 cap : Nat} {vi vo vr : Value} {s : Cl} {x : Nat} {r : List Nat} (h : RCK.At w R ⟨vi, vo, .slice (some ⟨G, o, none⟩) s.asked.length cap, vr⟩ s) (hx : s.asked = x :: r) (c3 : Nat) (hc3 : c3 = cap - 1) (hp : o2 = o + 1 ∨ cap - 1 = 0) :
    RCK.At (w.setCell ⟨R, 9, none⟩ (.slice (some ⟨G, o2, none⟩) (s.asked.length - 1) c3)) R ⟨vi, vo, .slice (some ⟨G, o2, none⟩) (s.asked.length - 1) c3, vr⟩ { s with asked := r } ∧
    Turn (RCK.F R ⟨vi, vo, .slice (some ⟨G, o, none⟩) s.asked.length cap, vr⟩ s) w (w.setCell ⟨R, 9, none⟩ (.slice (some ⟨G, o2, none⟩) (s.asked.length - 1) c3)) ∧
    ∀ g, RCK.F R ⟨vi, vo, .slice (some ⟨G, o2, none⟩) (s.asked.length - 1) c3, vr⟩ { s with asked := r } g → RCK.F R ⟨vi, vo, .slice (some ⟨G, o, none⟩) s.asked.length cap, vr⟩ s g ∨ w.heap.size ≤ g := by
  subst hc3
  have hG : G < w.heap.size := h.lt _ (.tail _ (.tail _ (.head _))) G rfl
  have hne : G ≠ R := fun e => h.nR _ (.tail _ (.tail _ (.head _))) (by rw [← e]; rfl)
  have hs := Slab.tail (rc_asked h) 1 (by rw [hx]; simp) (o2 := o2) (by simpa using hp)
  rw [hx] at hs
  have hs2 : Slab w 1 (.slice (some ⟨G, o2, none⟩) (s.asked.length - 1) (cap - 1)) r.length (numsV r) := by rw [hx]; exact hs
  exact EK.repl (K := RCK) (v2 := ⟨vi, vo, .slice (some ⟨G, o2, none⟩) (s.asked.length - 1) (cap - 1), vr⟩) (s2 := { s with asked := r }) [⟨1, vi, s.inp.length, bytesV s.inp, s.closed = false⟩, ⟨1, vo, s.out.length, bytesV s.out, True⟩] [⟨2, vr, s.came.length, cameV s.came, True⟩]
    ⟨1, .slice (some ⟨G, o, none⟩) s.asked.length cap, s.asked.length, numsV s.asked, True⟩ ⟨1, .slice (some ⟨G, o2, none⟩) (s.asked.length - 1) (cap - 1), r.length, numsV r, True⟩ rfl rfl h ((Turn.refl (fun g => g = R ∨ _) w).set (.inl (.inl rfl)) 9 _) (heap_setCell_same _ R 9 _ _ _ h.blk)
    (fun _ => Slab.same hs2 (fun g hg => heap_setCell_other _ _ _ _ (by rw [← Option.some.inj hg]; exact hne))) (fun g hg => by rw [← Option.some.inj hg]; simpa using hG) (fun g hg => .inl hg)
set_option maxRecDepth 20000 in
set_option maxHeartbeats 4000000 in
/-- a fault ahead of the welcome -/
theorem rctF6 (R : Nat) (V : CV) (s : Cl) (id to : Nat) (body : ByteArray) (sm : Bool) (hT : s.take ⟨id, to, 6, body, sm⟩ = (s, 284)) (hb : s.began = false) (w : World) (h : RCK.At w R V s) :
    Calls Tryd.prog 70 #[.pointer (some ⟨R, 0, none⟩), .agg #[.int .u32 (id : Int), .int .u32 (to : Int), .int .i64 6, .string body, .bool sm]] w (RCK.Post R V s w (s.took ⟨id, to, 6, body, sm⟩) (.tuple #[])) := by
  have HT := Lib.hid (show s.took ⟨id, to, 6, body, sm⟩ = s.stop 284 by unfold Cl.took Cl.failed; rw [hT]; exact if_neg (show ¬ (284 : Nat) = 0 by decide))
  have hRl := h.ltR
  have hb0 : Below w.heap.size w (w.alloc (.cells #[.int .u32 (id : Int), .int .u32 (to : Int), .int .i64 6, .string body, .bool sm] 27)) := (Below.refl _ _).alloc (Nat.le_refl _) _
  obtain ⟨⟨_, _, _, _, _, c5, c6, c7, _, c9, _⟩, _⟩ := rc_cells h
  rw [hb] at c5
  have HFL := Lib.hid (fun (n m : Nat) => rcfails_b R V s 284 w h (((w.alloc (.cells #[.int .u32 (id : Int), .int .u32 (to : Int), .int .i64 6, .string body, .bool sm] 27)).drewN n).drewN m) (below_drewN (below_drewN hb0 n) m))
  have HAT := Lib.hid (fun (n : Nat) => show RCK.At ((w.alloc (.cells #[.int .u32 (id : Int), .int .u32 (to : Int), .int .i64 6, .string body, .bool sm] 27)).drewN n) R V s from StAt.below h (below_drewN hb0 n))
  have HBX := Lib.hid (fun (n : Nat) => show ((w.alloc (.cells #[.int .u32 (id : Int), .int .u32 (to : Int), .int .i64 6, .string body, .bool sm] 27)).drewN n).heap[w.heap.size]? = some (.cells #[.int .u32 (id : Int), .int .u32 (to : Int), .int .i64 6, .string body, .bool sm] 27) from heap_alloc_new w _)
  have HBE := Lib.hid (And.intro hb h.ltR)
  clear h hb hb0 hT
  go_enter Tryd.func70, Tryd.ntmps70
  go_wp2
  go_quiet (fail)
  obtain ⟨⟨_, _, _, _, _, c5, c6, c7, _, c9, _⟩, _⟩ := rc_cells (HAT.out nq)
  clear HAT
  obtain ⟨⟨b0, b1, b2, b3, b4⟩, _⟩ := cellsOf5 (HBX.out nq)
  rw [HBE.out.1] at c5
  have HFN := Lib.hid (HFL.out nq)
  clear HFL HBX
  generalize (w.alloc (.cells #[.int .u32 (id : Int), .int .u32 (to : Int), .int .i64 6, .string body, .bool sm] 27)).drewN nq = W at *
  go_wp2
  go_quiet (fail)
  go_wp2_with fail
  refine (HFN.out _).mono ?_; rintro e w2 ⟨V2, rfl, h2, ht2, hn2⟩
  have HF := Lib.hid (And.intro h2 (And.intro ht2 hn2))
  clear h2 ht2 hn2
  go_wp2
  go_end0
  rw [HT.out]
  exact ⟨V2, rfl, HF.out.1, HF.out.2.1, HF.out.2.2⟩
set_option maxRecDepth 20000 in
set_option maxHeartbeats 4000000 in
/-- a reply ahead of the welcome -/
theorem rctF4 (R : Nat) (V : CV) (s : Cl) (id to : Nat) (body : ByteArray) (sm : Bool) (hT : s.take ⟨id, to, 4, body, sm⟩ = (s, 284)) (hb : s.began = false) (w : World) (h : RCK.At w R V s) :
    Calls Tryd.prog 70 #[.pointer (some ⟨R, 0, none⟩), .agg #[.int .u32 (id : Int), .int .u32 (to : Int), .int .i64 4, .string body, .bool sm]] w (RCK.Post R V s w (s.took ⟨id, to, 4, body, sm⟩) (.tuple #[])) := by
  have HT := Lib.hid (show s.took ⟨id, to, 4, body, sm⟩ = s.stop 284 by unfold Cl.took Cl.failed; rw [hT]; exact if_neg (show ¬ (284 : Nat) = 0 by decide))
  have hRl := h.ltR
  have hb0 : Below w.heap.size w (w.alloc (.cells #[.int .u32 (id : Int), .int .u32 (to : Int), .int .i64 4, .string body, .bool sm] 27)) := (Below.refl _ _).alloc (Nat.le_refl _) _
  obtain ⟨⟨_, _, _, _, _, c5, c6, c7, _, c9, _⟩, _⟩ := rc_cells h
  rw [hb] at c5
  have HFL := Lib.hid (fun (n m : Nat) => rcfails_b R V s 284 w h (((w.alloc (.cells #[.int .u32 (id : Int), .int .u32 (to : Int), .int .i64 4, .string body, .bool sm] 27)).drewN n).drewN m) (below_drewN (below_drewN hb0 n) m))
  have HAT := Lib.hid (fun (n : Nat) => show RCK.At ((w.alloc (.cells #[.int .u32 (id : Int), .int .u32 (to : Int), .int .i64 4, .string body, .bool sm] 27)).drewN n) R V s from StAt.below h (below_drewN hb0 n))
  have HBX := Lib.hid (fun (n : Nat) => show ((w.alloc (.cells #[.int .u32 (id : Int), .int .u32 (to : Int), .int .i64 4, .string body, .bool sm] 27)).drewN n).heap[w.heap.size]? = some (.cells #[.int .u32 (id : Int), .int .u32 (to : Int), .int .i64 4, .string body, .bool sm] 27) from heap_alloc_new w _)
  have HBE := Lib.hid (And.intro hb h.ltR)
  clear h hb hb0 hT
  go_enter Tryd.func70, Tryd.ntmps70
  go_wp2
  go_quiet (fail)
  obtain ⟨⟨_, _, _, _, _, c5, c6, c7, _, c9, _⟩, _⟩ := rc_cells (HAT.out nq)
  clear HAT
  obtain ⟨⟨b0, b1, b2, b3, b4⟩, _⟩ := cellsOf5 (HBX.out nq)
  rw [HBE.out.1] at c5
  have HFN := Lib.hid (HFL.out nq)
  clear HFL HBX
  generalize (w.alloc (.cells #[.int .u32 (id : Int), .int .u32 (to : Int), .int .i64 4, .string body, .bool sm] 27)).drewN nq = W at *
  go_wp2
  go_quiet (fail)
  go_wp2_with fail
  refine (HFN.out _).mono ?_; rintro e w2 ⟨V2, rfl, h2, ht2, hn2⟩
  have HF := Lib.hid (And.intro h2 (And.intro ht2 hn2))
  clear h2 ht2 hn2
  go_wp2
  go_end0
  rw [HT.out]
  exact ⟨V2, rfl, HF.out.1, HF.out.2.1, HF.out.2.2⟩
set_option maxRecDepth 20000 in
set_option maxHeartbeats 4000000 in
/-- a bye ahead of the welcome -/
theorem rctF5 (R : Nat) (V : CV) (s : Cl) (id to : Nat) (body : ByteArray) (sm : Bool) (hT : s.take ⟨id, to, 5, body, sm⟩ = (s, 284)) (hb : s.began = false) (w : World) (h : RCK.At w R V s) :
    Calls Tryd.prog 70 #[.pointer (some ⟨R, 0, none⟩), .agg #[.int .u32 (id : Int), .int .u32 (to : Int), .int .i64 5, .string body, .bool sm]] w (RCK.Post R V s w (s.took ⟨id, to, 5, body, sm⟩) (.tuple #[])) := by
  have HT := Lib.hid (show s.took ⟨id, to, 5, body, sm⟩ = s.stop 284 by unfold Cl.took Cl.failed; rw [hT]; exact if_neg (show ¬ (284 : Nat) = 0 by decide))
  have hRl := h.ltR
  have hb0 : Below w.heap.size w (w.alloc (.cells #[.int .u32 (id : Int), .int .u32 (to : Int), .int .i64 5, .string body, .bool sm] 27)) := (Below.refl _ _).alloc (Nat.le_refl _) _
  obtain ⟨⟨_, _, _, _, _, c5, c6, c7, _, c9, _⟩, _⟩ := rc_cells h
  rw [hb] at c5
  have HFL := Lib.hid (fun (n m : Nat) => rcfails_b R V s 284 w h (((w.alloc (.cells #[.int .u32 (id : Int), .int .u32 (to : Int), .int .i64 5, .string body, .bool sm] 27)).drewN n).drewN m) (below_drewN (below_drewN hb0 n) m))
  have HAT := Lib.hid (fun (n : Nat) => show RCK.At ((w.alloc (.cells #[.int .u32 (id : Int), .int .u32 (to : Int), .int .i64 5, .string body, .bool sm] 27)).drewN n) R V s from StAt.below h (below_drewN hb0 n))
  have HBX := Lib.hid (fun (n : Nat) => show ((w.alloc (.cells #[.int .u32 (id : Int), .int .u32 (to : Int), .int .i64 5, .string body, .bool sm] 27)).drewN n).heap[w.heap.size]? = some (.cells #[.int .u32 (id : Int), .int .u32 (to : Int), .int .i64 5, .string body, .bool sm] 27) from heap_alloc_new w _)
  have HBE := Lib.hid (And.intro hb h.ltR)
  clear h hb hb0 hT
  go_enter Tryd.func70, Tryd.ntmps70
  go_wp2
  go_quiet (fail)
  obtain ⟨⟨_, _, _, _, _, c5, c6, c7, _, c9, _⟩, _⟩ := rc_cells (HAT.out nq)
  clear HAT
  obtain ⟨⟨b0, b1, b2, b3, b4⟩, _⟩ := cellsOf5 (HBX.out nq)
  rw [HBE.out.1] at c5
  have HFN := Lib.hid (HFL.out nq)
  clear HFL HBX
  generalize (w.alloc (.cells #[.int .u32 (id : Int), .int .u32 (to : Int), .int .i64 5, .string body, .bool sm] 27)).drewN nq = W at *
  go_wp2
  go_quiet (fail)
  go_wp2_with fail
  refine (HFN.out _).mono ?_; rintro e w2 ⟨V2, rfl, h2, ht2, hn2⟩
  have HF := Lib.hid (And.intro h2 (And.intro ht2 hn2))
  clear h2 ht2 hn2
  go_wp2
  go_end0
  rw [HT.out]
  exact ⟨V2, rfl, HF.out.1, HF.out.2.1, HF.out.2.2⟩
set_option maxRecDepth 20000 in
set_option maxHeartbeats 4000000 in
/-- a welcome to something else -/
theorem rctF2 (R : Nat) (V : CV) (s : Cl) (id to : Nat) (body : ByteArray) (sm : Bool) (hT : s.take ⟨id, to, 2, body, sm⟩ = (s, 284)) (hb : s.began = false) (ht : to ≠ 1) (w : World) (h : RCK.At w R V s) :
    Calls Tryd.prog 70 #[.pointer (some ⟨R, 0, none⟩), .agg #[.int .u32 (id : Int), .int .u32 (to : Int), .int .i64 2, .string body, .bool sm]] w (RCK.Post R V s w (s.took ⟨id, to, 2, body, sm⟩) (.tuple #[])) := by
  have HT := Lib.hid (show s.took ⟨id, to, 2, body, sm⟩ = s.stop 284 by unfold Cl.took Cl.failed; rw [hT]; exact if_neg (show ¬ (284 : Nat) = 0 by decide))
  have hRl := h.ltR
  have ht1 : ((to : Int) == 1) = false := by rw [beq_eq_false_iff_ne]; omega
  clear ht
  have hb0 : Below w.heap.size w (w.alloc (.cells #[.int .u32 (id : Int), .int .u32 (to : Int), .int .i64 2, .string body, .bool sm] 27)) := (Below.refl _ _).alloc (Nat.le_refl _) _
  obtain ⟨⟨_, _, _, _, _, c5, c6, c7, _, c9, _⟩, _⟩ := rc_cells h
  rw [hb] at c5
  have HFL := Lib.hid (fun (n m : Nat) => rcfails_b R V s 284 w h (((w.alloc (.cells #[.int .u32 (id : Int), .int .u32 (to : Int), .int .i64 2, .string body, .bool sm] 27)).drewN n).drewN m) (below_drewN (below_drewN hb0 n) m))
  have HAT := Lib.hid (fun (n : Nat) => show RCK.At ((w.alloc (.cells #[.int .u32 (id : Int), .int .u32 (to : Int), .int .i64 2, .string body, .bool sm] 27)).drewN n) R V s from StAt.below h (below_drewN hb0 n))
  have HBX := Lib.hid (fun (n : Nat) => show ((w.alloc (.cells #[.int .u32 (id : Int), .int .u32 (to : Int), .int .i64 2, .string body, .bool sm] 27)).drewN n).heap[w.heap.size]? = some (.cells #[.int .u32 (id : Int), .int .u32 (to : Int), .int .i64 2, .string body, .bool sm] 27) from heap_alloc_new w _)
  have HBE := Lib.hid (And.intro hb h.ltR)
  clear h hb hb0 hT
  go_enter Tryd.func70, Tryd.ntmps70
  go_wp2
  go_quiet (fail)
  obtain ⟨⟨_, _, _, _, _, c5, c6, c7, _, c9, _⟩, _⟩ := rc_cells (HAT.out nq)
  clear HAT
  obtain ⟨⟨b0, b1, b2, b3, b4⟩, _⟩ := cellsOf5 (HBX.out nq)
  rw [HBE.out.1] at c5
  have HFN := Lib.hid (HFL.out nq)
  clear HFL HBX
  generalize (w.alloc (.cells #[.int .u32 (id : Int), .int .u32 (to : Int), .int .i64 2, .string body, .bool sm] 27)).drewN nq = W at *
  go_wp2
  go_quiet (fail)
  go_wp2_with fail
  refine (HFN.out _).mono ?_; rintro e w2 ⟨V2, rfl, h2, ht2, hn2⟩
  have HF := Lib.hid (And.intro h2 (And.intro ht2 hn2))
  clear h2 ht2 hn2
  go_wp2
  go_end0
  rw [HT.out]
  exact ⟨V2, rfl, HF.out.1, HF.out.2.1, HF.out.2.2⟩
set_option maxRecDepth 20000 in
set_option maxHeartbeats 4000000 in
/-- whatever else, ahead of the welcome -/
theorem rctFx (R : Nat) (V : CV) (s : Cl) (id to : Nat) (kind : Int) (body : ByteArray) (sm : Bool) (hT : s.take ⟨id, to, kind, body, sm⟩ = (s, 284)) (hb : s.began = false) (h2 : kind ≠ 2) (h4 : kind ≠ 4) (h5 : kind ≠ 5) (h6 : kind ≠ 6) (w : World) (h : RCK.At w R V s) :
    Calls Tryd.prog 70 #[.pointer (some ⟨R, 0, none⟩), .agg #[.int .u32 (id : Int), .int .u32 (to : Int), .int .i64 kind, .string body, .bool sm]] w (RCK.Post R V s w (s.took ⟨id, to, kind, body, sm⟩) (.tuple #[])) := by
  have HT := Lib.hid (show s.took ⟨id, to, kind, body, sm⟩ = s.stop 284 by unfold Cl.took Cl.failed; rw [hT]; exact if_neg (show ¬ (284 : Nat) = 0 by decide))
  have hRl := h.ltR
  have k2 : (kind == 2) = false := by rw [beq_eq_false_iff_ne]; exact h2
  have k4 : (kind == 4) = false := by rw [beq_eq_false_iff_ne]; exact h4
  have k5 : (kind == 5) = false := by rw [beq_eq_false_iff_ne]; exact h5
  have k6 : (kind == 6) = false := by rw [beq_eq_false_iff_ne]; exact h6
  clear h2 h4 h5 h6
  have hb0 : Below w.heap.size w (w.alloc (.cells #[.int .u32 (id : Int), .int .u32 (to : Int), .int .i64 kind, .string body, .bool sm] 27)) := (Below.refl _ _).alloc (Nat.le_refl _) _
  obtain ⟨⟨_, _, _, _, _, c5, c6, c7, _, c9, _⟩, _⟩ := rc_cells h
  rw [hb] at c5
  have HFL := Lib.hid (fun (n m : Nat) => rcfails_b R V s 284 w h (((w.alloc (.cells #[.int .u32 (id : Int), .int .u32 (to : Int), .int .i64 kind, .string body, .bool sm] 27)).drewN n).drewN m) (below_drewN (below_drewN hb0 n) m))
  have HAT := Lib.hid (fun (n : Nat) => show RCK.At ((w.alloc (.cells #[.int .u32 (id : Int), .int .u32 (to : Int), .int .i64 kind, .string body, .bool sm] 27)).drewN n) R V s from StAt.below h (below_drewN hb0 n))
  have HBX := Lib.hid (fun (n : Nat) => show ((w.alloc (.cells #[.int .u32 (id : Int), .int .u32 (to : Int), .int .i64 kind, .string body, .bool sm] 27)).drewN n).heap[w.heap.size]? = some (.cells #[.int .u32 (id : Int), .int .u32 (to : Int), .int .i64 kind, .string body, .bool sm] 27) from heap_alloc_new w _)
  have HBE := Lib.hid (And.intro hb h.ltR)
  clear h hb hb0 hT
  go_enter Tryd.func70, Tryd.ntmps70
  go_wp2
  go_quiet (fail)
  obtain ⟨⟨_, _, _, _, _, c5, c6, c7, _, c9, _⟩, _⟩ := rc_cells (HAT.out nq)
  clear HAT
  obtain ⟨⟨b0, b1, b2, b3, b4⟩, _⟩ := cellsOf5 (HBX.out nq)
  rw [HBE.out.1] at c5
  have HFN := Lib.hid (HFL.out nq)
  clear HFL HBX
  generalize (w.alloc (.cells #[.int .u32 (id : Int), .int .u32 (to : Int), .int .i64 kind, .string body, .bool sm] 27)).drewN nq = W at *
  go_wp2
  go_quiet (fail)
  go_wp2_with fail
  refine (HFN.out _).mono ?_; rintro e w2 ⟨V2, rfl, h2, ht2, hn2⟩
  have HF := Lib.hid (And.intro h2 (And.intro ht2 hn2))
  clear h2 ht2 hn2
  go_wp2
  go_end0
  rw [HT.out]
  exact ⟨V2, rfl, HF.out.1, HF.out.2.1, HF.out.2.2⟩
set_option maxRecDepth 20000 in
set_option maxHeartbeats 4000000 in
/-- a second welcome -/
theorem rctT2 (R : Nat) (V : CV) (s : Cl) (id to : Nat) (body : ByteArray) (sm : Bool) (hT : s.take ⟨id, to, 2, body, sm⟩ = (s, 284)) (hb : s.began = true) (w : World) (h : RCK.At w R V s) :
    Calls Tryd.prog 70 #[.pointer (some ⟨R, 0, none⟩), .agg #[.int .u32 (id : Int), .int .u32 (to : Int), .int .i64 2, .string body, .bool sm]] w (RCK.Post R V s w (s.took ⟨id, to, 2, body, sm⟩) (.tuple #[])) := by
  have HT := Lib.hid (show s.took ⟨id, to, 2, body, sm⟩ = s.stop 284 by unfold Cl.took Cl.failed; rw [hT]; exact if_neg (show ¬ (284 : Nat) = 0 by decide))
  have hRl := h.ltR
  have hb0 : Below w.heap.size w (w.alloc (.cells #[.int .u32 (id : Int), .int .u32 (to : Int), .int .i64 2, .string body, .bool sm] 27)) := (Below.refl _ _).alloc (Nat.le_refl _) _
  obtain ⟨⟨_, _, _, _, _, c5, c6, c7, _, c9, _⟩, _⟩ := rc_cells h
  rw [hb] at c5
  have HFL := Lib.hid (fun (n m : Nat) => rcfails_b R V s 284 w h (((w.alloc (.cells #[.int .u32 (id : Int), .int .u32 (to : Int), .int .i64 2, .string body, .bool sm] 27)).drewN n).drewN m) (below_drewN (below_drewN hb0 n) m))
  have HAT := Lib.hid (fun (n : Nat) => show RCK.At ((w.alloc (.cells #[.int .u32 (id : Int), .int .u32 (to : Int), .int .i64 2, .string body, .bool sm] 27)).drewN n) R V s from StAt.below h (below_drewN hb0 n))
  have HBX := Lib.hid (fun (n : Nat) => show ((w.alloc (.cells #[.int .u32 (id : Int), .int .u32 (to : Int), .int .i64 2, .string body, .bool sm] 27)).drewN n).heap[w.heap.size]? = some (.cells #[.int .u32 (id : Int), .int .u32 (to : Int), .int .i64 2, .string body, .bool sm] 27) from heap_alloc_new w _)
  have HBE := Lib.hid (And.intro hb h.ltR)
  clear h hb hb0 hT
  go_enter Tryd.func70, Tryd.ntmps70
  go_wp2
  go_quiet (fail)
  obtain ⟨⟨_, _, _, _, _, c5, c6, c7, _, c9, _⟩, _⟩ := rc_cells (HAT.out nq)
  clear HAT
  obtain ⟨⟨b0, b1, b2, b3, b4⟩, _⟩ := cellsOf5 (HBX.out nq)
  rw [HBE.out.1] at c5
  have HFN := Lib.hid (HFL.out nq)
  clear HFL HBX
  generalize (w.alloc (.cells #[.int .u32 (id : Int), .int .u32 (to : Int), .int .i64 2, .string body, .bool sm] 27)).drewN nq = W at *
  go_wp2
  go_quiet (fail)
  go_wp2_with fail
  refine (HFN.out _).mono ?_; rintro e w2 ⟨V2, rfl, h2, ht2, hn2⟩
  have HF := Lib.hid (And.intro h2 (And.intro ht2 hn2))
  clear h2 ht2 hn2
  go_wp2
  go_end0
  rw [HT.out]
  exact ⟨V2, rfl, HF.out.1, HF.out.2.1, HF.out.2.2⟩
set_option maxRecDepth 20000 in
set_option maxHeartbeats 4000000 in
/-- whatever else -/
theorem rctTx (R : Nat) (V : CV) (s : Cl) (id to : Nat) (kind : Int) (body : ByteArray) (sm : Bool) (hT : s.take ⟨id, to, kind, body, sm⟩ = (s, 284)) (hb : s.began = true) (h4 : kind ≠ 4) (h5 : kind ≠ 5) (h6 : kind ≠ 6) (w : World) (h : RCK.At w R V s) :
    Calls Tryd.prog 70 #[.pointer (some ⟨R, 0, none⟩), .agg #[.int .u32 (id : Int), .int .u32 (to : Int), .int .i64 kind, .string body, .bool sm]] w (RCK.Post R V s w (s.took ⟨id, to, kind, body, sm⟩) (.tuple #[])) := by
  have HT := Lib.hid (show s.took ⟨id, to, kind, body, sm⟩ = s.stop 284 by unfold Cl.took Cl.failed; rw [hT]; exact if_neg (show ¬ (284 : Nat) = 0 by decide))
  have hRl := h.ltR
  have k4 : (kind == 4) = false := by rw [beq_eq_false_iff_ne]; exact h4
  have k5 : (kind == 5) = false := by rw [beq_eq_false_iff_ne]; exact h5
  have k6 : (kind == 6) = false := by rw [beq_eq_false_iff_ne]; exact h6
  clear h4 h5 h6
  have hb0 : Below w.heap.size w (w.alloc (.cells #[.int .u32 (id : Int), .int .u32 (to : Int), .int .i64 kind, .string body, .bool sm] 27)) := (Below.refl _ _).alloc (Nat.le_refl _) _
  obtain ⟨⟨_, _, _, _, _, c5, c6, c7, _, c9, _⟩, _⟩ := rc_cells h
  rw [hb] at c5
  have HFL := Lib.hid (fun (n m : Nat) => rcfails_b R V s 284 w h (((w.alloc (.cells #[.int .u32 (id : Int), .int .u32 (to : Int), .int .i64 kind, .string body, .bool sm] 27)).drewN n).drewN m) (below_drewN (below_drewN hb0 n) m))
  have HAT := Lib.hid (fun (n : Nat) => show RCK.At ((w.alloc (.cells #[.int .u32 (id : Int), .int .u32 (to : Int), .int .i64 kind, .string body, .bool sm] 27)).drewN n) R V s from StAt.below h (below_drewN hb0 n))
  have HBX := Lib.hid (fun (n : Nat) => show ((w.alloc (.cells #[.int .u32 (id : Int), .int .u32 (to : Int), .int .i64 kind, .string body, .bool sm] 27)).drewN n).heap[w.heap.size]? = some (.cells #[.int .u32 (id : Int), .int .u32 (to : Int), .int .i64 kind, .string body, .bool sm] 27) from heap_alloc_new w _)
  have HBE := Lib.hid (And.intro hb h.ltR)
  clear h hb hb0 hT
  go_enter Tryd.func70, Tryd.ntmps70
  go_wp2
  go_quiet (fail)
  obtain ⟨⟨_, _, _, _, _, c5, c6, c7, _, c9, _⟩, _⟩ := rc_cells (HAT.out nq)
  clear HAT
  obtain ⟨⟨b0, b1, b2, b3, b4⟩, _⟩ := cellsOf5 (HBX.out nq)
  rw [HBE.out.1] at c5
  have HFN := Lib.hid (HFL.out nq)
  clear HFL HBX
  generalize (w.alloc (.cells #[.int .u32 (id : Int), .int .u32 (to : Int), .int .i64 kind, .string body, .bool sm] 27)).drewN nq = W at *
  go_wp2
  go_quiet (fail)
  go_wp2_with fail
  refine (HFN.out _).mono ?_; rintro e w2 ⟨V2, rfl, h2, ht2, hn2⟩
  have HF := Lib.hid (And.intro h2 (And.intro ht2 hn2))
  clear h2 ht2 hn2
  go_wp2
  go_end0
  rw [HT.out]
  exact ⟨V2, rfl, HF.out.1, HF.out.2.1, HF.out.2.2⟩
set_option maxRecDepth 20000 in
set_option maxHeartbeats 4000000 in
/-- a reply to nothing -/
theorem rctT4n (R : Nat) (V : CV) (s : Cl) (id to : Nat) (body : ByteArray) (sm : Bool) (hT : s.take ⟨id, to, 4, body, sm⟩ = (s, 284)) (hb : s.began = true) (hq : s.asked = []) (w : World) (h : RCK.At w R V s) :
    Calls Tryd.prog 70 #[.pointer (some ⟨R, 0, none⟩), .agg #[.int .u32 (id : Int), .int .u32 (to : Int), .int .i64 4, .string body, .bool sm]] w (RCK.Post R V s w (s.took ⟨id, to, 4, body, sm⟩) (.tuple #[])) := by
  have HT := Lib.hid (show s.took ⟨id, to, 4, body, sm⟩ = s.stop 284 by unfold Cl.took Cl.failed; rw [hT]; exact if_neg (show ¬ (284 : Nat) = 0 by decide))
  have hRl := h.ltR
  have hb0 : Below w.heap.size w (w.alloc (.cells #[.int .u32 (id : Int), .int .u32 (to : Int), .int .i64 4, .string body, .bool sm] 27)) := (Below.refl _ _).alloc (Nat.le_refl _) _
  obtain ⟨⟨_, _, _, _, _, c5, c6, c7, _, c9, _⟩, _⟩ := rc_cells h
  rw [hb] at c5
  obtain ⟨A, cap, hvq, _, _, _⟩ := Slab.form (rc_asked h)
  have hz : s.asked.length = 0 := by rw [hq]; rfl
  rw [hz] at hvq
  rw [hvq] at c9
  have HVQ := Lib.hid hvq
  clear hvq hz hq
  have HFL := Lib.hid (fun (n m : Nat) => rcfails_b R V s 284 w h (((w.alloc (.cells #[.int .u32 (id : Int), .int .u32 (to : Int), .int .i64 4, .string body, .bool sm] 27)).drewN n).drewN m) (below_drewN (below_drewN hb0 n) m))
  have HAT := Lib.hid (fun (n : Nat) => show RCK.At ((w.alloc (.cells #[.int .u32 (id : Int), .int .u32 (to : Int), .int .i64 4, .string body, .bool sm] 27)).drewN n) R V s from StAt.below h (below_drewN hb0 n))
  have HBX := Lib.hid (fun (n : Nat) => show ((w.alloc (.cells #[.int .u32 (id : Int), .int .u32 (to : Int), .int .i64 4, .string body, .bool sm] 27)).drewN n).heap[w.heap.size]? = some (.cells #[.int .u32 (id : Int), .int .u32 (to : Int), .int .i64 4, .string body, .bool sm] 27) from heap_alloc_new w _)
  have HBE := Lib.hid (And.intro hb h.ltR)
  clear h hb hb0 hT
  go_enter Tryd.func70, Tryd.ntmps70
  go_wp2
  go_quiet (fail)
  obtain ⟨⟨_, _, _, _, _, c5, c6, c7, _, c9, _⟩, _⟩ := rc_cells (HAT.out nq)
  rw [HVQ.out] at c9
  clear HAT
  obtain ⟨⟨b0, b1, b2, b3, b4⟩, _⟩ := cellsOf5 (HBX.out nq)
  rw [HBE.out.1] at c5
  have HFN := Lib.hid (HFL.out nq)
  clear HFL HBX
  generalize (w.alloc (.cells #[.int .u32 (id : Int), .int .u32 (to : Int), .int .i64 4, .string body, .bool sm] 27)).drewN nq = W at *
  go_wp2
  go_quiet (fail)
  go_wp2_with fail
  refine (HFN.out _).mono ?_; rintro e w2 ⟨V2, rfl, h2, ht2, hn2⟩
  have HF := Lib.hid (And.intro h2 (And.intro ht2 hn2))
  clear h2 ht2 hn2
  go_wp2
  go_end0
  rw [HT.out]
  exact ⟨V2, rfl, HF.out.1, HF.out.2.1, HF.out.2.2⟩
set_option maxRecDepth 20000 in
set_option maxHeartbeats 4000000 in
/-- a reply to another ask -/
theorem rctT4x (R : Nat) (V : CV) (s : Cl) (id to : Nat) (body : ByteArray) (sm : Bool) (hT : s.take ⟨id, to, 4, body, sm⟩ = (s, 284)) (hb : s.began = true) (x : Nat) (r : List Nat) (hq : s.asked = x :: r) (hal : s.asked.length ≤ 1000) (hx : to ≠ x) (w : World) (h : RCK.At w R V s) :
    Calls Tryd.prog 70 #[.pointer (some ⟨R, 0, none⟩), .agg #[.int .u32 (id : Int), .int .u32 (to : Int), .int .i64 4, .string body, .bool sm]] w (RCK.Post R V s w (s.took ⟨id, to, 4, body, sm⟩) (.tuple #[])) := by
  have HT := Lib.hid (show s.took ⟨id, to, 4, body, sm⟩ = s.stop 284 by unfold Cl.took Cl.failed; rw [hT]; exact if_neg (show ¬ (284 : Nat) = 0 by decide))
  have hRl := h.ltR
  have hb0 : Below w.heap.size w (w.alloc (.cells #[.int .u32 (id : Int), .int .u32 (to : Int), .int .i64 4, .string body, .bool sm] 27)) := (Below.refl _ _).alloc (Nat.le_refl _) _
  obtain ⟨⟨_, _, _, _, _, c5, c6, c7, _, c9, _⟩, _⟩ := rc_cells h
  rw [hb] at c5
  obtain ⟨A, cap, hvq, _, _, hform⟩ := Slab.form (rc_asked h)
  obtain ⟨G, o, rfl, hG⟩ : ∃ G o, A = some ⟨G, o, none⟩ ∧ w.rangeAt G o (numsV s.asked) := by
    rcases hform with ⟨_, h0, _⟩ | ⟨g, off, h1, _, _, h2, _⟩
    · rw [hq] at h0; simp at h0
    · exact ⟨g, off, h1, h2⟩
  have d0 : w.cell? ⟨G, o, none⟩ = some (.int .u32 (x : Int)) := hG 0 _ (by rw [hq]; rfl)
  have hGl := cell_lt d0
  simp only at hGl
  have hnp : 0 < s.asked.length := by rw [hq]; simp
  have hnd : decide (0 < s.asked.length) = true := decide_eq_true hnp
  have hxb : ((to : Int) == (x : Int)) = false := by rw [beq_eq_false_iff_ne]; omega
  rw [hvq] at c9
  have HVQ := Lib.hid hvq
  clear hvq hform hG hq hx
  have HFL := Lib.hid (fun (n m : Nat) => rcfails_b R V s 284 w h (((w.alloc (.cells #[.int .u32 (id : Int), .int .u32 (to : Int), .int .i64 4, .string body, .bool sm] 27)).drewN n).drewN m) (below_drewN (below_drewN hb0 n) m))
  have HAT := Lib.hid (fun (n : Nat) => show RCK.At ((w.alloc (.cells #[.int .u32 (id : Int), .int .u32 (to : Int), .int .i64 4, .string body, .bool sm] 27)).drewN n) R V s from StAt.below h (below_drewN hb0 n))
  have HBX := Lib.hid (fun (n : Nat) => show ((w.alloc (.cells #[.int .u32 (id : Int), .int .u32 (to : Int), .int .i64 4, .string body, .bool sm] 27)).drewN n).heap[w.heap.size]? = some (.cells #[.int .u32 (id : Int), .int .u32 (to : Int), .int .i64 4, .string body, .bool sm] 27) from heap_alloc_new w _)
  have HBE := Lib.hid (And.intro hb h.ltR)
  clear h hb hb0 hT
  go_enter Tryd.func70, Tryd.ntmps70
  go_wp2
  go_quiet (fail)
  obtain ⟨⟨_, _, _, _, _, c5, c6, c7, _, c9, _⟩, _⟩ := rc_cells (HAT.out nq)
  rw [HVQ.out] at c9
  clear HAT
  obtain ⟨⟨b0, b1, b2, b3, b4⟩, _⟩ := cellsOf5 (HBX.out nq)
  rw [HBE.out.1] at c5
  have HFN := Lib.hid (HFL.out nq)
  clear HFL HBX
  generalize (w.alloc (.cells #[.int .u32 (id : Int), .int .u32 (to : Int), .int .i64 4, .string body, .bool sm] 27)).drewN nq = W at *
  go_wp2
  go_quiet (fail)
  go_wp2_with fail
  refine (HFN.out _).mono ?_; rintro e w2 ⟨V2, rfl, h2, ht2, hn2⟩
  have HF := Lib.hid (And.intro h2 (And.intro ht2 hn2))
  clear h2 ht2 hn2
  go_wp2
  go_end0
  rw [HT.out]
  exact ⟨V2, rfl, HF.out.1, HF.out.2.1, HF.out.2.2⟩
set_option maxRecDepth 20000 in
set_option maxHeartbeats 4000000 in
/-- a bye that nobody asked for -/
theorem rctT5e (R : Nat) (V : CV) (s : Cl) (id to : Nat) (body : ByteArray) (sm : Bool) (hT : s.take ⟨id, to, 5, body, sm⟩ = (s, 284)) (hb : s.began = true) (he : s.ending = false) (w : World) (h : RCK.At w R V s) :
    Calls Tryd.prog 70 #[.pointer (some ⟨R, 0, none⟩), .agg #[.int .u32 (id : Int), .int .u32 (to : Int), .int .i64 5, .string body, .bool sm]] w (RCK.Post R V s w (s.took ⟨id, to, 5, body, sm⟩) (.tuple #[])) := by
  have HT := Lib.hid (show s.took ⟨id, to, 5, body, sm⟩ = s.stop 284 by unfold Cl.took Cl.failed; rw [hT]; exact if_neg (show ¬ (284 : Nat) = 0 by decide))
  have hRl := h.ltR
  have hb0 : Below w.heap.size w (w.alloc (.cells #[.int .u32 (id : Int), .int .u32 (to : Int), .int .i64 5, .string body, .bool sm] 27)) := (Below.refl _ _).alloc (Nat.le_refl _) _
  obtain ⟨⟨_, _, _, _, _, c5, c6, c7, _, c9, _⟩, _⟩ := rc_cells h
  rw [hb] at c5
  have HE := Lib.hid he
  rw [he] at c6
  clear he
  have HFL := Lib.hid (fun (n m : Nat) => rcfails_b R V s 284 w h (((w.alloc (.cells #[.int .u32 (id : Int), .int .u32 (to : Int), .int .i64 5, .string body, .bool sm] 27)).drewN n).drewN m) (below_drewN (below_drewN hb0 n) m))
  have HAT := Lib.hid (fun (n : Nat) => show RCK.At ((w.alloc (.cells #[.int .u32 (id : Int), .int .u32 (to : Int), .int .i64 5, .string body, .bool sm] 27)).drewN n) R V s from StAt.below h (below_drewN hb0 n))
  have HBX := Lib.hid (fun (n : Nat) => show ((w.alloc (.cells #[.int .u32 (id : Int), .int .u32 (to : Int), .int .i64 5, .string body, .bool sm] 27)).drewN n).heap[w.heap.size]? = some (.cells #[.int .u32 (id : Int), .int .u32 (to : Int), .int .i64 5, .string body, .bool sm] 27) from heap_alloc_new w _)
  have HBE := Lib.hid (And.intro hb h.ltR)
  clear h hb hb0 hT
  go_enter Tryd.func70, Tryd.ntmps70
  go_wp2
  go_quiet (fail)
  obtain ⟨⟨_, _, _, _, _, c5, c6, c7, _, c9, _⟩, _⟩ := rc_cells (HAT.out nq)
  rw [HE.out] at c6
  clear HAT
  obtain ⟨⟨b0, b1, b2, b3, b4⟩, _⟩ := cellsOf5 (HBX.out nq)
  rw [HBE.out.1] at c5
  have HFN := Lib.hid (HFL.out nq)
  clear HFL HBX
  generalize (w.alloc (.cells #[.int .u32 (id : Int), .int .u32 (to : Int), .int .i64 5, .string body, .bool sm] 27)).drewN nq = W at *
  go_wp2
  go_quiet (fail)
  go_wp2_with fail
  refine (HFN.out _).mono ?_; rintro e w2 ⟨V2, rfl, h2, ht2, hn2⟩
  have HF := Lib.hid (And.intro h2 (And.intro ht2 hn2))
  clear h2 ht2 hn2
  go_wp2
  go_end0
  rw [HT.out]
  exact ⟨V2, rfl, HF.out.1, HF.out.2.1, HF.out.2.2⟩
set_option maxRecDepth 20000 in
set_option maxHeartbeats 4000000 in
/-- a bye to something else -/
theorem rctT5t (R : Nat) (V : CV) (s : Cl) (id to : Nat) (body : ByteArray) (sm : Bool) (hT : s.take ⟨id, to, 5, body, sm⟩ = (s, 284)) (hb : s.began = true) (he : s.ending = true) (ht : to ≠ s.bye) (w : World) (h : RCK.At w R V s) :
    Calls Tryd.prog 70 #[.pointer (some ⟨R, 0, none⟩), .agg #[.int .u32 (id : Int), .int .u32 (to : Int), .int .i64 5, .string body, .bool sm]] w (RCK.Post R V s w (s.took ⟨id, to, 5, body, sm⟩) (.tuple #[])) := by
  have HT := Lib.hid (show s.took ⟨id, to, 5, body, sm⟩ = s.stop 284 by unfold Cl.took Cl.failed; rw [hT]; exact if_neg (show ¬ (284 : Nat) = 0 by decide))
  have hRl := h.ltR
  have hb0 : Below w.heap.size w (w.alloc (.cells #[.int .u32 (id : Int), .int .u32 (to : Int), .int .i64 5, .string body, .bool sm] 27)) := (Below.refl _ _).alloc (Nat.le_refl _) _
  obtain ⟨⟨_, _, _, _, _, c5, c6, c7, _, c9, _⟩, _⟩ := rc_cells h
  rw [hb] at c5
  have htb : ((to : Int) == (s.bye : Int)) = false := by rw [beq_eq_false_iff_ne]; omega
  have HE := Lib.hid he
  rw [he] at c6
  clear he ht
  have HFL := Lib.hid (fun (n m : Nat) => rcfails_b R V s 284 w h (((w.alloc (.cells #[.int .u32 (id : Int), .int .u32 (to : Int), .int .i64 5, .string body, .bool sm] 27)).drewN n).drewN m) (below_drewN (below_drewN hb0 n) m))
  have HAT := Lib.hid (fun (n : Nat) => show RCK.At ((w.alloc (.cells #[.int .u32 (id : Int), .int .u32 (to : Int), .int .i64 5, .string body, .bool sm] 27)).drewN n) R V s from StAt.below h (below_drewN hb0 n))
  have HBX := Lib.hid (fun (n : Nat) => show ((w.alloc (.cells #[.int .u32 (id : Int), .int .u32 (to : Int), .int .i64 5, .string body, .bool sm] 27)).drewN n).heap[w.heap.size]? = some (.cells #[.int .u32 (id : Int), .int .u32 (to : Int), .int .i64 5, .string body, .bool sm] 27) from heap_alloc_new w _)
  have HBE := Lib.hid (And.intro hb h.ltR)
  clear h hb hb0 hT
  go_enter Tryd.func70, Tryd.ntmps70
  go_wp2
  go_quiet (fail)
  obtain ⟨⟨_, _, _, _, _, c5, c6, c7, _, c9, _⟩, _⟩ := rc_cells (HAT.out nq)
  rw [HE.out] at c6
  clear HAT
  obtain ⟨⟨b0, b1, b2, b3, b4⟩, _⟩ := cellsOf5 (HBX.out nq)
  rw [HBE.out.1] at c5
  have HFN := Lib.hid (HFL.out nq)
  clear HFL HBX
  generalize (w.alloc (.cells #[.int .u32 (id : Int), .int .u32 (to : Int), .int .i64 5, .string body, .bool sm] 27)).drewN nq = W at *
  go_wp2
  go_quiet (fail)
  go_wp2_with fail
  refine (HFN.out _).mono ?_; rintro e w2 ⟨V2, rfl, h2, ht2, hn2⟩
  have HF := Lib.hid (And.intro h2 (And.intro ht2 hn2))
  clear h2 ht2 hn2
  go_wp2
  go_end0
  rw [HT.out]
  exact ⟨V2, rfl, HF.out.1, HF.out.2.1, HF.out.2.2⟩
set_option maxRecDepth 20000 in
set_option maxHeartbeats 4000000 in
/-- a bye ahead of the replies -/
theorem rctT5q (R : Nat) (V : CV) (s : Cl) (id to : Nat) (body : ByteArray) (sm : Bool) (hT : s.take ⟨id, to, 5, body, sm⟩ = (s, 284)) (hb : s.began = true) (he : s.ending = true) (ht : to = s.bye) (hq : s.asked ≠ []) (hal : s.asked.length ≤ 1000) (w : World) (h : RCK.At w R V s) :
    Calls Tryd.prog 70 #[.pointer (some ⟨R, 0, none⟩), .agg #[.int .u32 (id : Int), .int .u32 (to : Int), .int .i64 5, .string body, .bool sm]] w (RCK.Post R V s w (s.took ⟨id, to, 5, body, sm⟩) (.tuple #[])) := by
  have HT := Lib.hid (show s.took ⟨id, to, 5, body, sm⟩ = s.stop 284 by unfold Cl.took Cl.failed; rw [hT]; exact if_neg (show ¬ (284 : Nat) = 0 by decide))
  have hRl := h.ltR
  have hb0 : Below w.heap.size w (w.alloc (.cells #[.int .u32 (id : Int), .int .u32 (to : Int), .int .i64 5, .string body, .bool sm] 27)) := (Below.refl _ _).alloc (Nat.le_refl _) _
  obtain ⟨⟨_, _, _, _, _, c5, c6, c7, _, c9, _⟩, _⟩ := rc_cells h
  rw [hb] at c5
  obtain ⟨A, cap, hvq, _, _, _⟩ := Slab.form (rc_asked h)
  have hl : 0 < s.asked.length := by
    rcases Nat.eq_zero_or_pos s.asked.length with e | e
    · exact absurd (List.eq_nil_of_length_eq_zero e) hq
    · exact e
  have hlb : ((s.asked.length : Int) == 0) = false := by rw [beq_eq_false_iff_ne]; omega
  rw [hvq] at c9
  have HVQ := Lib.hid hvq
  have HE := Lib.hid (And.intro he ht)
  rw [he] at c6
  rw [← ht] at c7
  clear he ht hq hvq
  have HFL := Lib.hid (fun (n m : Nat) => rcfails_b R V s 284 w h (((w.alloc (.cells #[.int .u32 (id : Int), .int .u32 (to : Int), .int .i64 5, .string body, .bool sm] 27)).drewN n).drewN m) (below_drewN (below_drewN hb0 n) m))
  have HAT := Lib.hid (fun (n : Nat) => show RCK.At ((w.alloc (.cells #[.int .u32 (id : Int), .int .u32 (to : Int), .int .i64 5, .string body, .bool sm] 27)).drewN n) R V s from StAt.below h (below_drewN hb0 n))
  have HBX := Lib.hid (fun (n : Nat) => show ((w.alloc (.cells #[.int .u32 (id : Int), .int .u32 (to : Int), .int .i64 5, .string body, .bool sm] 27)).drewN n).heap[w.heap.size]? = some (.cells #[.int .u32 (id : Int), .int .u32 (to : Int), .int .i64 5, .string body, .bool sm] 27) from heap_alloc_new w _)
  have HBE := Lib.hid (And.intro hb h.ltR)
  clear h hb hb0 hT
  go_enter Tryd.func70, Tryd.ntmps70
  go_wp2
  go_quiet (fail)
  obtain ⟨⟨_, _, _, _, _, c5, c6, c7, _, c9, _⟩, _⟩ := rc_cells (HAT.out nq)
  rw [HVQ.out] at c9
  rw [HE.out.1] at c6
  rw [← HE.out.2] at c7
  clear HAT
  obtain ⟨⟨b0, b1, b2, b3, b4⟩, _⟩ := cellsOf5 (HBX.out nq)
  rw [HBE.out.1] at c5
  have HFN := Lib.hid (HFL.out nq)
  clear HFL HBX
  generalize (w.alloc (.cells #[.int .u32 (id : Int), .int .u32 (to : Int), .int .i64 5, .string body, .bool sm] 27)).drewN nq = W at *
  go_wp2
  go_quiet (fail)
  go_wp2_with fail
  refine (HFN.out _).mono ?_; rintro e w2 ⟨V2, rfl, h2, ht2, hn2⟩
  have HF := Lib.hid (And.intro h2 (And.intro ht2 hn2))
  clear h2 ht2 hn2
  go_wp2
  go_end0
  rw [HT.out]
  exact ⟨V2, rfl, HF.out.1, HF.out.2.1, HF.out.2.2⟩
end Go.Proofs.YtkpickojeghppaaDoor
