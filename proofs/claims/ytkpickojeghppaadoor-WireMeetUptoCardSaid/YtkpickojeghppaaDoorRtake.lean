/- The walk of takes (the document's server). Conditions: what goes out is shorter than 2 to the 38. -/
import Derived.Test.YtkpickojeghppaaDoorRnext
import Derived.Deep.RegionLaw
namespace Go.Proofs.YtkpickojeghppaaDoor
open Go.RowKit
/-- a message has been taken; an error has failed the session -/
def Sv.took (s : Sv) (m : WMsg) : Sv := (s.take m).1.failed (s.take m).2
theorem rs_seq {R : Nat} {V V1 : RV} {s s1 s2 : Sv} {w w1 w2 : World} {r : Value} {e : Ending} (ht : Turn (RSK.F R V s) w w1) (hn : ∀ g, RSK.F R V1 s1 g → RSK.F R V s g ∨ w.heap.size ≤ g) (hp : RSK.Post R V1 s1 w1 s2 r e w2) : RSK.Post R V s w s2 r e w2 := EK.seq ht hn hp
/-- fails, behind what only makes memory -/
theorem rfails_b (R : Nat) (V : RV) (s : Sv) (e : Nat) (he : e ≤ 999999) (hlen : s.out.length ≤ 274877906944) (w : World) (h : RSK.At w R V s) (w1 : World) (hb : Below w.heap.size w w1) :
    Calls Tryd.prog 58 #[.pointer (some ⟨R, 0, none⟩), .int .i64 (e : Int)] w1 (RSK.Post R V s w (s.fail e) (.tuple #[])) :=
  (rfails_c R V s e he hlen w1 (StAt.below h hb)).mono (fun _ _ hp => EK.seq (Turn.of_below hb) (fun _ hg => .inl hg) hp)
theorem rs_grown {w : World} {R : Nat} {V : RV} {s s2 : Sv} (h : RSK.At w R V s) {q' : Value} {w1 : World} (hu : Upd w w1 V.h.ownBlock q'.ownBlock) (hs : Slab w1 3 q' s2.held.length (heldV s2.held))
    (hc : ((rsCells R V s).setIfInBounds 8 q') = rsCells R { V with h := q' } s2) (hi : s2.closed = s.closed) (he : s2.ending = s.ending) (hin : s2.inp = s.inp) (ho : s2.out = s.out) :
    RSK.At (w1.setCell ⟨R, 8, none⟩ q') R { V with h := q' } s2 ∧ Turn (RSK.F R V s) w (w1.setCell ⟨R, 8, none⟩ q') ∧ ∀ g, RSK.F R { V with h := q' } s2 g → RSK.F R V s g ∨ w.heap.size ≤ g := by
  have hR := h.ltR
  have hb1 : w1.heap[R]? = some (.cells (rsCells R V s) 59 (0, 0)) := (hu.block hR (h.nR _ (.tail _ (.tail _ (.head _))))).trans h.blk
  have hb2 := heap_setCell_same w1 R 8 _ _ q' hb1
  rw [hc] at hb2
  have hn : ∀ g, q'.ownBlock = some g → V.h.ownBlock = some g ∨ w.heap.size ≤ g := fun g hg => by
    rcases hu.own with e | ⟨q, e, hq⟩
    · left; rw [← e]; exact hg
    · right; rw [e] at hg; rw [← Option.some.inj hg]; exact hq
  have hne : ∀ g, q'.ownBlock = some g → g ≠ R := fun g hg e => by
    subst e
    rcases hn g hg with e | e
    · exact h.nR _ (.tail _ (.tail _ (.head _))) e
    · omega
  have hs2 : Slab (w1.setCell ⟨R, 8, none⟩ q') 3 q' s2.held.length (heldV s2.held) := Slab.same hs (fun g hg => heap_setCell_other _ _ _ _ (hne g hg))
  refine EK.repl (K := RSK) (s2 := s2) [⟨1, V.i, s.inp.length, bytesV s.inp, s.closed = false ∧ s.ending = false⟩, ⟨1, V.o, s.out.length, bytesV s.out, True⟩] []
    ⟨3, V.h, s.held.length, heldV s.held, True⟩ ⟨3, q', s2.held.length, heldV s2.held, True⟩ rfl (by show rsParts _ s2 = _; simp only [rsParts, hi, he, hin, ho]; rfl) h ?_ hb2 (fun _ => hs2) (fun g hg => Slab.lt hs2 hg) hn
  exact ((Turn.refl (fun g => g = R ∨ V.h.ownBlock = some g) w).upd hu (fun g hg => .inl (.inr hg))).set (.inl (.inl rfl)) 8 q'
/-- a bye has come: nothing is read any more -/
theorem rs_byes {w : World} {R : Nat} {V : RV} {s : Sv} (h : RSK.At w R V s) (id : Nat) :
    RSK.At (((w.setCell ⟨R, 6, none⟩ (.bool true)).setCell ⟨R, 7, none⟩ (.int .u32 (id : Int))).setCell ⟨R, 0, none⟩ (.slice none 0 0)) R { V with i := .slice none 0 0 } { s with bye := id, ending := true } ∧
    Turn (fun g => g = R) w (((w.setCell ⟨R, 6, none⟩ (.bool true)).setCell ⟨R, 7, none⟩ (.int .u32 (id : Int))).setCell ⟨R, 0, none⟩ (.slice none 0 0)) ∧
    ∀ g, RSK.F R { V with i := .slice none 0 0 } { s with bye := id, ending := true } g → RSK.F R V s g ∨ w.heap.size ≤ g := by
  have ht := ((((Turn.refl (fun g => g = R) w).set (g := R) (.inl rfl) 6 (.bool true)).set (g := R) (.inl rfl) 7 (.int .u32 (id : Int))).set (g := R) (.inl rfl) 0 (.slice none 0 0))
  have hb := heap_setCell_same _ R 0 _ _ (.slice none 0 0) (heap_setCell_same _ R 7 _ _ (.int .u32 (id : Int)) (heap_setCell_same _ R 6 _ _ (.bool true) h.blk))
  obtain ⟨a, b, c⟩ := EK.repl (K := RSK) (v2 := { V with i := .slice none 0 0 }) (s2 := { s with bye := id, ending := true }) [] [⟨1, V.o, s.out.length, bytesV s.out, True⟩, ⟨3, V.h, s.held.length, heldV s.held, True⟩]
    ⟨1, V.i, s.inp.length, bytesV s.inp, s.closed = false ∧ s.ending = false⟩ ⟨1, .slice none 0 0, s.inp.length, bytesV s.inp, s.closed = false ∧ true = false⟩ rfl rfl h (ht.weak (fun g hg => .inl hg)) hb (fun hh => absurd hh.2 (by decide)) (fun g hg => by cases hg) (fun g hg => by cases hg)
  exact ⟨a, ht, c⟩
set_option maxRecDepth 20000 in
set_option maxHeartbeats 4000000 in
/-- hello -/
theorem rtake1_c (R : Nat) (V : RV) (s : Sv) (hb : s.began = false) (hc : s.closed = false) (he : s.ending = false) (id to : Nat) (body : ByteArray) (sm : Bool) (hm : MsgOk ⟨id, to, 1, body, sm⟩) (hp : packE ((msgTo id 2 body).summed sm) = 0) (hlen : s.out.length ≤ 274877906944) (w : World) (h : RSK.At w R V s) :
    Calls Tryd.prog 59 #[.pointer (some ⟨R, 0, none⟩), .agg #[.int .u32 (id : Int), .int .u32 (to : Int), .int .i64 1, .string body, .bool sm]] w (RSK.Post R V s w (s.took ⟨id, to, 1, body, sm⟩) (.tuple #[])) := by
  have HT := Lib.hid (show s.took ⟨id, to, 1, body, sm⟩ = ({ s with sums := sm, began := true } : Sv).send (msgTo id 2 body) by
    have ht : s.take ⟨id, to, 1, body, sm⟩ = (({ s with sums := sm, began := true } : Sv).send (msgTo id 2 body), packE ((msgTo id 2 body).summed sm)) := by unfold Sv.take; rw [if_pos hb, if_neg (by simp)]
    unfold Sv.took Sv.failed
    rw [ht]
    exact if_pos hp)
  have hRl := h.ltR
  have c5 := (rs_cells h).1.2.2.2.2.2.1
  have c4 := (rs_cells h).1.2.2.2.2.1
  have f5 := (rs_cells h).2 5
  have f4 := (rs_cells h).2 4
  rw [hb] at c5
  obtain ⟨hid, _, _, _, hbs⟩ := hm
  simp only at hid hbs
  have h1 := rs_put h (s2 := { s with sums := sm, began := true }) (((Turn.refl (fun g => g = R) w).set (g := R) (.inl rfl) 5 (.bool true)).set (g := R) (.inl rfl) 4 (.bool sm)) (heap_setCell_same _ R 4 _ _ (.bool sm) (heap_setCell_same _ R 5 _ _ (.bool true) h.blk)) (fun _ _ => ⟨hc, he, rfl⟩) rfl rfl
  have hb2 : ∀ n, Below ((w.setCell ⟨R, 5, none⟩ (.bool true)).setCell ⟨R, 4, none⟩ (.bool sm)).heap.size ((w.setCell ⟨R, 5, none⟩ (.bool true)).setCell ⟨R, 4, none⟩ (.bool sm)) ((((w.setCell ⟨R, 5, none⟩ (.bool true)).setCell ⟨R, 4, none⟩ (.bool sm)).alloc (.cells #[.int .u32 (id : Int), .int .u32 (to : Int), .int .i64 1, .string body, .bool sm] 27)).drewN n) := fun n => below_drewN ((Below.refl _ _).alloc (Nat.le_refl _) _) n
  have hq : ∀ n, RSK.At ((((w.setCell ⟨R, 5, none⟩ (.bool true)).setCell ⟨R, 4, none⟩ (.bool sm)).alloc (.cells #[.int .u32 (id : Int), .int .u32 (to : Int), .int .i64 1, .string body, .bool sm] 27)).drewN n) R V { s with sums := sm, began := true } := fun n => StAt.below h1.1 (hb2 n)
  have HSEND := Lib.hid (fun (n : Nat) => (show Calls Tryd.prog 64 #[.pointer (some ⟨R, 0, none⟩), .agg #[.int .u32 0, .int .u32 (id : Int), .int .i64 2, .string body, .bool false]] _ _ from
    goes_c R (rsCells R V { s with sums := sm, began := true }) 59 V.o s.out sm (msgTo id 2 body) (msgTo_ok hid (by decide) (by decide) hbs) hlen _ (hq n).blk rfl rfl (rs_out (s := { s with sums := sm, began := true }) (hq n)) (h.nR _ (.tail _ (.head _)))).mono (R' := fun e w2 => (∃ b, e = .returned (.bool b)) ∧ Hid (RSK.Post R V s w (({ s with sums := sm, began := true } : Sv).send (msgTo id 2 body)) (.tuple #[]) (.returned (.tuple #[])) w2)) (fun e w2 hp => by
      obtain ⟨V2, he2, ha, ht, hn⟩ := rs_sent (hq n) hp
      exact ⟨⟨_, he2⟩, Lib.hid (EK.seq (h1.2.1.trans (Turn.of_below (hb2 n))) (fun g hg => h1.2.2 g hg) ⟨V2, rfl, ha, ht, hn⟩)⟩))
  clear h hc he hb hp h1 hb2 hq
  go_enter Tryd.func59, Tryd.ntmps59
  go_wp2
  go_region_with (go_at_call 64; refine (HSEND.out _).mono ?_; rintro e w2 ⟨⟨bb, rfl⟩, HF⟩)
  all_goals (
    go_wp2
    go_end0
    rw [HT.out]
    exact HF.out)
set_option maxRecDepth 20000 in
set_option maxHeartbeats 4000000 in
/-- a bye -/
theorem rtake5_c (R : Nat) (V : RV) (s : Sv) (hb : s.began = true) (id to : Nat) (body : ByteArray) (sm : Bool) (hid : id < 4294967296) (hlen : s.out.length ≤ 274877906944) (w : World) (h : RSK.At w R V s) :
    Calls Tryd.prog 59 #[.pointer (some ⟨R, 0, none⟩), .agg #[.int .u32 (id : Int), .int .u32 (to : Int), .int .i64 5, .string body, .bool sm]] w (RSK.Post R V s w (s.took ⟨id, to, 5, body, sm⟩) (.tuple #[])) := by
  have HT := Lib.hid (show s.took ⟨id, to, 5, body, sm⟩ = ({ s with bye := id, ending := true } : Sv).parts by
    have ht : s.take ⟨id, to, 5, body, sm⟩ = (({ s with bye := id, ending := true } : Sv).parts, 0) := by unfold Sv.take; rw [if_neg (by rw [hb]; decide), if_neg (by simp), if_pos rfl]
    unfold Sv.took Sv.failed
    rw [ht]
    exact if_pos rfl)
  have hRl := h.ltR
  have hb0 : Below w.heap.size w (w.alloc (.cells #[.int .u32 (id : Int), .int .u32 (to : Int), .int .i64 5, .string body, .bool sm] 27)) := (Below.refl _ _).alloc (Nat.le_refl _) _
  have c5 := (rs_cells h).1.2.2.2.2.2.1
  rw [hb] at c5
  have HW := Lib.hid (fun (n : Nat) => And.intro (StAt.below h (below_drewN hb0 n) : RSK.At _ R V s) (And.intro (below_drewN hb0 n) (show ((w.alloc (.cells #[.int .u32 (id : Int), .int .u32 (to : Int), .int .i64 5, .string body, .bool sm] 27)).drewN n).heap[w.heap.size]? = some (.cells #[.int .u32 (id : Int), .int .u32 (to : Int), .int .i64 5, .string body, .bool sm] 27) from heap_alloc_new w _)))
  clear h hb0
  have HBG := Lib.hid hb
  clear hb
  go_enter Tryd.func59, Tryd.ntmps59
  go_wp2
  go_quiet (fail)
  have hb := HBG.out
  obtain ⟨h1, hb1, hx1⟩ := HW.out nq
  obtain ⟨⟨b0, b1, b2, b3, b4⟩, _⟩ := cellsOf5 hx1
  have d5 := (rs_cells h1).1.2.2.2.2.2.1
  have d6 := (rs_cells h1).1.2.2.2.2.2.2.1
  have d7 := (rs_cells h1).1.2.2.2.2.2.2.2.1
  have d0 := (rs_cells h1).1.1
  have f6 := (rs_cells h1).2 6
  have f7 := (rs_cells h1).2 7
  have f0 := (rs_cells h1).2 0
  have hby := rs_byes h1 id
  have HP := Lib.hid ((rparts_c R { V with i := .slice none 0 0 } { s with bye := id, ending := true } hlen hid _ hby.1).mono (fun e w3 hq => EK.seq (Turn.of_below hb1) (fun g hg => .inl hg) (EK.seq (hby.2.1.weak (fun g hg => .inl hg)) hby.2.2 hq) : ∀ e w3, _ → RSK.Post R V s w ({ s with bye := id, ending := true } : Sv).parts (.tuple #[]) e w3))
  clear h1 hb1 hx1 hby HW
  generalize (w.alloc (.cells #[.int .u32 (id : Int), .int .u32 (to : Int), .int .i64 5, .string body, .bool sm] 27)).drewN nq = W at *
  rw [hb] at d5
  clear hb
  go_wp2_with fail
  refine HP.out.mono ?_; rintro e w2 ⟨V2, rfl, h2, ht2, hn2⟩
  have HF := Lib.hid (And.intro h2 (And.intro ht2 hn2))
  clear h2 ht2 hn2
  go_wp2
  go_end0
  rw [HT.out]
  exact ⟨V2, rfl, HF.out.1, HF.out.2.1, HF.out.2.2⟩
set_option maxRecDepth 20000 in
set_option maxHeartbeats 4000000 in
/-- what may not come -/
theorem rtake0_c (R : Nat) (V : RV) (s : Sv) (id to : Nat) (kind : Int) (body : ByteArray) (sm : Bool) (hT : s.take ⟨id, to, kind, body, sm⟩ = (s, 284)) (hcase : s.began = false ∧ kind ≠ 1 ∨ s.began = true ∧ (kind = 1 ∨ kind = 3 ∧ id ≤ s.last ∨ kind ≠ 3 ∧ kind ≠ 5)) (hlen : s.out.length ≤ 274877906944) (w : World) (h : RSK.At w R V s) :
    Calls Tryd.prog 59 #[.pointer (some ⟨R, 0, none⟩), .agg #[.int .u32 (id : Int), .int .u32 (to : Int), .int .i64 kind, .string body, .bool sm]] w (RSK.Post R V s w (s.took ⟨id, to, kind, body, sm⟩) (.tuple #[])) := by
  have HT := Lib.hid (show s.took ⟨id, to, kind, body, sm⟩ = s.fail 284 by unfold Sv.took Sv.failed; rw [hT]; exact if_neg (show ¬ (284 : Nat) = 0 by decide))
  have hRl := h.ltR
  rcases hcase with ⟨hb, hk⟩ | ⟨hb, hk⟩
  · by_cases hk3 : kind = 3
    · subst hk3
      clear hk
      have hb0 : Below w.heap.size w (w.alloc (.cells #[.int .u32 (id : Int), .int .u32 (to : Int), .int .i64 3, .string body, .bool sm] 27)) := (Below.refl _ _).alloc (Nat.le_refl _) _
      have HFL := Lib.hid (fun (n : Nat) => rfails_b R V s 284 (by omega) hlen w h ((w.alloc (.cells #[.int .u32 (id : Int), .int .u32 (to : Int), .int .i64 3, .string body, .bool sm] 27)).drewN n) (below_drewN hb0 n))
      have c5 := (rs_cells h).1.2.2.2.2.2.1
      have c9 := (rs_cells h).1.2.2.2.2.2.2.2.2.2
      rw [hb] at c5
      clear h hb hb0 hlen hT
      go_enter Tryd.func59, Tryd.ntmps59
      go_wp2
      go_quiet (fail)
      have c5q := cell_below (show Below w.heap.size w ((w.alloc (.cells #[.int .u32 (id : Int), .int .u32 (to : Int), .int .i64 3, .string body, .bool sm] 27)).drewN nq) from below_drewN ((Below.refl _ _).alloc (Nat.le_refl _) _) nq) c5
      obtain ⟨⟨b0, b1, b2, b3, b4⟩, _⟩ := cellsOf5 (show ((w.alloc (.cells #[.int .u32 (id : Int), .int .u32 (to : Int), .int .i64 3, .string body, .bool sm] 27)).drewN nq).heap[w.heap.size]? = some (.cells #[.int .u32 (id : Int), .int .u32 (to : Int), .int .i64 3, .string body, .bool sm] 27) from heap_alloc_new w _)
      have HFN := Lib.hid (HFL.out nq)
      clear HFL
      generalize (w.alloc (.cells #[.int .u32 (id : Int), .int .u32 (to : Int), .int .i64 3, .string body, .bool sm] 27)).drewN nq = W at *
      go_wp2_with fail
      refine HFN.out.mono ?_; rintro e w2 ⟨V2, rfl, h2, ht2, hn2⟩
      have HF := Lib.hid (And.intro h2 (And.intro ht2 hn2))
      clear h2 ht2 hn2
      go_wp2
      go_end0
      rw [HT.out]
      exact ⟨V2, rfl, HF.out.1, HF.out.2.1, HF.out.2.2⟩
    · by_cases hk5 : kind = 5
      · subst hk5
        clear hk hk3
        have hb0 : Below w.heap.size w (w.alloc (.cells #[.int .u32 (id : Int), .int .u32 (to : Int), .int .i64 5, .string body, .bool sm] 27)) := (Below.refl _ _).alloc (Nat.le_refl _) _
        have HFL := Lib.hid (fun (n : Nat) => rfails_b R V s 284 (by omega) hlen w h ((w.alloc (.cells #[.int .u32 (id : Int), .int .u32 (to : Int), .int .i64 5, .string body, .bool sm] 27)).drewN n) (below_drewN hb0 n))
        have c5 := (rs_cells h).1.2.2.2.2.2.1
        have c9 := (rs_cells h).1.2.2.2.2.2.2.2.2.2
        rw [hb] at c5
        clear h hb hb0 hlen hT
        go_enter Tryd.func59, Tryd.ntmps59
        go_wp2
        go_quiet (fail)
        have c5q := cell_below (show Below w.heap.size w ((w.alloc (.cells #[.int .u32 (id : Int), .int .u32 (to : Int), .int .i64 5, .string body, .bool sm] 27)).drewN nq) from below_drewN ((Below.refl _ _).alloc (Nat.le_refl _) _) nq) c5
        obtain ⟨⟨b0, b1, b2, b3, b4⟩, _⟩ := cellsOf5 (show ((w.alloc (.cells #[.int .u32 (id : Int), .int .u32 (to : Int), .int .i64 5, .string body, .bool sm] 27)).drewN nq).heap[w.heap.size]? = some (.cells #[.int .u32 (id : Int), .int .u32 (to : Int), .int .i64 5, .string body, .bool sm] 27) from heap_alloc_new w _)
        have HFN := Lib.hid (HFL.out nq)
        clear HFL
        generalize (w.alloc (.cells #[.int .u32 (id : Int), .int .u32 (to : Int), .int .i64 5, .string body, .bool sm] 27)).drewN nq = W at *
        go_wp2_with fail
        refine HFN.out.mono ?_; rintro e w2 ⟨V2, rfl, h2, ht2, hn2⟩
        have HF := Lib.hid (And.intro h2 (And.intro ht2 hn2))
        clear h2 ht2 hn2
        go_wp2
        go_end0
        rw [HT.out]
        exact ⟨V2, rfl, HF.out.1, HF.out.2.1, HF.out.2.2⟩
      · have k1 : (kind == 1) = false := by rw [beq_eq_false_iff_ne]; exact hk
        have k3 : (kind == 3) = false := by rw [beq_eq_false_iff_ne]; exact hk3
        have k5 : (kind == 5) = false := by rw [beq_eq_false_iff_ne]; exact hk5
        clear hk hk3 hk5
        have hb0 : Below w.heap.size w (w.alloc (.cells #[.int .u32 (id : Int), .int .u32 (to : Int), .int .i64 kind, .string body, .bool sm] 27)) := (Below.refl _ _).alloc (Nat.le_refl _) _
        have HFL := Lib.hid (fun (n : Nat) => rfails_b R V s 284 (by omega) hlen w h ((w.alloc (.cells #[.int .u32 (id : Int), .int .u32 (to : Int), .int .i64 kind, .string body, .bool sm] 27)).drewN n) (below_drewN hb0 n))
        have c5 := (rs_cells h).1.2.2.2.2.2.1
        have c9 := (rs_cells h).1.2.2.2.2.2.2.2.2.2
        rw [hb] at c5
        clear h hb hb0 hlen hT
        go_enter Tryd.func59, Tryd.ntmps59
        go_wp2
        go_quiet (fail)
        have c5q := cell_below (show Below w.heap.size w ((w.alloc (.cells #[.int .u32 (id : Int), .int .u32 (to : Int), .int .i64 kind, .string body, .bool sm] 27)).drewN nq) from below_drewN ((Below.refl _ _).alloc (Nat.le_refl _) _) nq) c5
        obtain ⟨⟨b0, b1, b2, b3, b4⟩, _⟩ := cellsOf5 (show ((w.alloc (.cells #[.int .u32 (id : Int), .int .u32 (to : Int), .int .i64 kind, .string body, .bool sm] 27)).drewN nq).heap[w.heap.size]? = some (.cells #[.int .u32 (id : Int), .int .u32 (to : Int), .int .i64 kind, .string body, .bool sm] 27) from heap_alloc_new w _)
        have HFN := Lib.hid (HFL.out nq)
        clear HFL
        generalize (w.alloc (.cells #[.int .u32 (id : Int), .int .u32 (to : Int), .int .i64 kind, .string body, .bool sm] 27)).drewN nq = W at *
        go_wp2_with fail
        refine HFN.out.mono ?_; rintro e w2 ⟨V2, rfl, h2, ht2, hn2⟩
        have HF := Lib.hid (And.intro h2 (And.intro ht2 hn2))
        clear h2 ht2 hn2
        go_wp2
        go_end0
        rw [HT.out]
        exact ⟨V2, rfl, HF.out.1, HF.out.2.1, HF.out.2.2⟩
  · by_cases hk1 : kind = 1
    · subst hk1
      clear hk
      have hb0 : Below w.heap.size w (w.alloc (.cells #[.int .u32 (id : Int), .int .u32 (to : Int), .int .i64 1, .string body, .bool sm] 27)) := (Below.refl _ _).alloc (Nat.le_refl _) _
      have HFL := Lib.hid (fun (n : Nat) => rfails_b R V s 284 (by omega) hlen w h ((w.alloc (.cells #[.int .u32 (id : Int), .int .u32 (to : Int), .int .i64 1, .string body, .bool sm] 27)).drewN n) (below_drewN hb0 n))
      have c5 := (rs_cells h).1.2.2.2.2.2.1
      have c9 := (rs_cells h).1.2.2.2.2.2.2.2.2.2
      rw [hb] at c5
      clear h hb hb0 hlen hT
      go_enter Tryd.func59, Tryd.ntmps59
      go_wp2
      go_quiet (fail)
      have c5q := cell_below (show Below w.heap.size w ((w.alloc (.cells #[.int .u32 (id : Int), .int .u32 (to : Int), .int .i64 1, .string body, .bool sm] 27)).drewN nq) from below_drewN ((Below.refl _ _).alloc (Nat.le_refl _) _) nq) c5
      obtain ⟨⟨b0, b1, b2, b3, b4⟩, _⟩ := cellsOf5 (show ((w.alloc (.cells #[.int .u32 (id : Int), .int .u32 (to : Int), .int .i64 1, .string body, .bool sm] 27)).drewN nq).heap[w.heap.size]? = some (.cells #[.int .u32 (id : Int), .int .u32 (to : Int), .int .i64 1, .string body, .bool sm] 27) from heap_alloc_new w _)
      have HFN := Lib.hid (HFL.out nq)
      clear HFL
      generalize (w.alloc (.cells #[.int .u32 (id : Int), .int .u32 (to : Int), .int .i64 1, .string body, .bool sm] 27)).drewN nq = W at *
      go_wp2_with fail
      refine HFN.out.mono ?_; rintro e w2 ⟨V2, rfl, h2, ht2, hn2⟩
      have HF := Lib.hid (And.intro h2 (And.intro ht2 hn2))
      clear h2 ht2 hn2
      go_wp2
      go_end0
      rw [HT.out]
      exact ⟨V2, rfl, HF.out.1, HF.out.2.1, HF.out.2.2⟩
    · by_cases hk3 : kind = 3
      · subst hk3
        have hle : id ≤ s.last := by
          rcases hk with hk | hk | hk
          · exact absurd hk hk1
          · exact hk.2
          · exact absurd rfl hk.1
        have hlb : decide ((s.last : Int) < (id : Int)) = false := by rw [decide_eq_false_iff_not]; omega
        have hlb2 : decide (s.last < id) = false := by rw [decide_eq_false_iff_not]; omega
        clear hk hk1 hle
        have hb0 : Below w.heap.size w (w.alloc (.cells #[.int .u32 (id : Int), .int .u32 (to : Int), .int .i64 3, .string body, .bool sm] 27)) := (Below.refl _ _).alloc (Nat.le_refl _) _
        have HFL := Lib.hid (fun (n : Nat) => rfails_b R V s 284 (by omega) hlen w h ((w.alloc (.cells #[.int .u32 (id : Int), .int .u32 (to : Int), .int .i64 3, .string body, .bool sm] 27)).drewN n) (below_drewN hb0 n))
        have c5 := (rs_cells h).1.2.2.2.2.2.1
        have c9 := (rs_cells h).1.2.2.2.2.2.2.2.2.2
        rw [hb] at c5
        clear h hb hb0 hlen hT
        go_enter Tryd.func59, Tryd.ntmps59
        go_wp2
        go_quiet (fail)
        have c5q := cell_below (show Below w.heap.size w ((w.alloc (.cells #[.int .u32 (id : Int), .int .u32 (to : Int), .int .i64 3, .string body, .bool sm] 27)).drewN nq) from below_drewN ((Below.refl _ _).alloc (Nat.le_refl _) _) nq) c5
        obtain ⟨⟨b0, b1, b2, b3, b4⟩, _⟩ := cellsOf5 (show ((w.alloc (.cells #[.int .u32 (id : Int), .int .u32 (to : Int), .int .i64 3, .string body, .bool sm] 27)).drewN nq).heap[w.heap.size]? = some (.cells #[.int .u32 (id : Int), .int .u32 (to : Int), .int .i64 3, .string body, .bool sm] 27) from heap_alloc_new w _)
        have HFN := Lib.hid (HFL.out nq)
        clear HFL
        generalize (w.alloc (.cells #[.int .u32 (id : Int), .int .u32 (to : Int), .int .i64 3, .string body, .bool sm] 27)).drewN nq = W at *
        go_wp2_with fail
        refine HFN.out.mono ?_; rintro e w2 ⟨V2, rfl, h2, ht2, hn2⟩
        have HF := Lib.hid (And.intro h2 (And.intro ht2 hn2))
        clear h2 ht2 hn2
        go_wp2
        go_end0
        rw [HT.out]
        exact ⟨V2, rfl, HF.out.1, HF.out.2.1, HF.out.2.2⟩
      · have hk5 : kind ≠ 5 := by
          rcases hk with hk | hk | hk
          · exact absurd hk hk1
          · exact absurd hk.1 hk3
          · exact hk.2
        have k1 : (kind == 1) = false := by rw [beq_eq_false_iff_ne]; exact hk1
        have k3 : (kind == 3) = false := by rw [beq_eq_false_iff_ne]; exact hk3
        have k5 : (kind == 5) = false := by rw [beq_eq_false_iff_ne]; exact hk5
        clear hk hk1 hk3 hk5
        have hb0 : Below w.heap.size w (w.alloc (.cells #[.int .u32 (id : Int), .int .u32 (to : Int), .int .i64 kind, .string body, .bool sm] 27)) := (Below.refl _ _).alloc (Nat.le_refl _) _
        have HFL := Lib.hid (fun (n : Nat) => rfails_b R V s 284 (by omega) hlen w h ((w.alloc (.cells #[.int .u32 (id : Int), .int .u32 (to : Int), .int .i64 kind, .string body, .bool sm] 27)).drewN n) (below_drewN hb0 n))
        have c5 := (rs_cells h).1.2.2.2.2.2.1
        have c9 := (rs_cells h).1.2.2.2.2.2.2.2.2.2
        rw [hb] at c5
        clear h hb hb0 hlen hT
        go_enter Tryd.func59, Tryd.ntmps59
        go_wp2
        go_quiet (fail)
        have c5q := cell_below (show Below w.heap.size w ((w.alloc (.cells #[.int .u32 (id : Int), .int .u32 (to : Int), .int .i64 kind, .string body, .bool sm] 27)).drewN nq) from below_drewN ((Below.refl _ _).alloc (Nat.le_refl _) _) nq) c5
        obtain ⟨⟨b0, b1, b2, b3, b4⟩, _⟩ := cellsOf5 (show ((w.alloc (.cells #[.int .u32 (id : Int), .int .u32 (to : Int), .int .i64 kind, .string body, .bool sm] 27)).drewN nq).heap[w.heap.size]? = some (.cells #[.int .u32 (id : Int), .int .u32 (to : Int), .int .i64 kind, .string body, .bool sm] 27) from heap_alloc_new w _)
        have HFN := Lib.hid (HFL.out nq)
        clear HFL
        generalize (w.alloc (.cells #[.int .u32 (id : Int), .int .u32 (to : Int), .int .i64 kind, .string body, .bool sm] 27)).drewN nq = W at *
        go_wp2_with fail
        refine HFN.out.mono ?_; rintro e w2 ⟨V2, rfl, h2, ht2, hn2⟩
        have HF := Lib.hid (And.intro h2 (And.intro ht2 hn2))
        clear h2 ht2 hn2
        go_wp2
        go_end0
        rw [HT.out]
        exact ⟨V2, rfl, HF.out.1, HF.out.2.1, HF.out.2.2⟩
theorem held2Ty : SlTy Tryd.prog 57 113 (.agg #[.int .u32 0, .string ⟨#[]⟩, .bool false]) 3 32 := ⟨by kernel_rfl, by kernel_rfl, by kernel_rfl, by decide⟩
set_option maxRecDepth 20000 in
set_option maxHeartbeats 8000000 in
/-- an ask -/
theorem rtake3_c (R : Nat) (V : RV) (s : Sv) (hb : s.began = true) (id to : Nat) (body : ByteArray) (sm : Bool) (hlt : s.last < id) (hhl : s.held.length ≤ 1000) (hlen : s.out.length ≤ 274877906944) (w : World) (h : RSK.At w R V s) :
    Calls Tryd.prog 59 #[.pointer (some ⟨R, 0, none⟩), .agg #[.int .u32 (id : Int), .int .u32 (to : Int), .int .i64 3, .string body, .bool sm]] w (RSK.Post R V s w (s.took ⟨id, to, 3, body, sm⟩) (.tuple #[])) := by
  have hRl := h.ltR
  have hb0 : Below w.heap.size w (w.alloc (.cells #[.int .u32 (id : Int), .int .u32 (to : Int), .int .i64 3, .string body, .bool sm] 27)) := (Below.refl _ _).alloc (Nat.le_refl _) _
  have c5 := (rs_cells h).1.2.2.2.2.2.1
  rw [hb] at c5
  have c9 : (w.alloc (.cells #[.int .u32 (id : Int), .int .u32 (to : Int), .int .i64 3, .string body, .bool sm] 27)).cell? ⟨R, 9, none⟩ = some (.int .u32 (s.last : Int)) := cell_below hb0 (rs_cells h).1.2.2.2.2.2.2.2.2.2
  obtain ⟨A, cap, hvh, hnc, hcm, _⟩ := Slab.form (rs_held h)
  obtain ⟨vi, vo, vh⟩ := V
  simp only at hvh
  subst hvh
  have HW := Lib.hid (fun (n : Nat) => And.intro (StAt.below h (below_drewN hb0 n) : RSK.At _ R ⟨vi, vo, .slice A s.held.length cap⟩ s) (And.intro (below_drewN hb0 n) (show ((w.alloc (.cells #[.int .u32 (id : Int), .int .u32 (to : Int), .int .i64 3, .string body, .bool sm] 27)).drewN n).heap[w.heap.size]? = some (.cells #[.int .u32 (id : Int), .int .u32 (to : Int), .int .i64 3, .string body, .bool sm] 27) from heap_alloc_new w _)))
  by_cases hfull : 16 ≤ s.held.length
  · have HT := Lib.hid (show s.took ⟨id, to, 3, body, sm⟩ = s.fail 5 by
      have ht : s.take ⟨id, to, 3, body, sm⟩ = (s, 5) := by unfold Sv.take; rw [if_neg (by rw [hb]; decide), if_pos rfl, if_neg (by show ¬ id ≤ s.last; omega), if_pos hfull]
      unfold Sv.took Sv.failed
      rw [ht]
      exact if_neg (show ¬ (5 : Nat) = 0 by decide))
    have HFL := Lib.hid (fun (n : Nat) => rfails_b R ⟨vi, vo, .slice A s.held.length cap⟩ s 5 (by omega) hlen w h ((w.alloc (.cells #[.int .u32 (id : Int), .int .u32 (to : Int), .int .i64 3, .string body, .bool sm] 27)).drewN n) (below_drewN hb0 n))
    clear h hb hb0 hlen
    go_enter Tryd.func59, Tryd.ntmps59
    go_wp2
    go_quiet (fail)
    have c8 := (rs_cells (HW.out nq).1).1.2.2.2.2.2.2.2.2.1
    have HFN := Lib.hid (HFL.out nq)
    clear HFL HW c5 c9
    generalize (w.alloc (.cells #[.int .u32 (id : Int), .int .u32 (to : Int), .int .i64 3, .string body, .bool sm] 27)).drewN nq = W at *
    go_wp2_with fail
    refine HFN.out.mono ?_; rintro e w2 ⟨V2, rfl, h2, ht2, hn2⟩
    have HF := Lib.hid (And.intro h2 (And.intro ht2 hn2))
    clear h2 ht2 hn2
    go_wp2
    go_end0
    rw [HT.out]
    exact ⟨V2, rfl, HF.out.1, HF.out.2.1, HF.out.2.2⟩
  · have HT := Lib.hid (show s.took ⟨id, to, 3, body, sm⟩ = { s with last := id, held := s.held ++ [(id, body, false)] } by
      have ht : s.take ⟨id, to, 3, body, sm⟩ = ({ s with last := id, held := s.held ++ [(id, body, false)] }, 0) := by unfold Sv.take; rw [if_neg (by rw [hb]; decide), if_pos rfl, if_neg (by show ¬ id ≤ s.last; omega), if_neg hfull]
      unfold Sv.took Sv.failed
      rw [ht]
      exact if_pos rfl)
    clear h hb hb0 hlen
    go_enter Tryd.func59, Tryd.ntmps59
    go_wp2
    go_quiet (fail)
    obtain ⟨h1, hb1, hx1⟩ := HW.out nq
    have H1 := Lib.hid h1
    have HB1 := Lib.hid hb1
    have HX1 := Lib.hid hx1
    have c8 := (rs_cells h1).1.2.2.2.2.2.2.2.2.1
    have d9 := (rs_cells h1).1.2.2.2.2.2.2.2.2.2
    have f9 := (rs_cells h1).2 9
    have hRl1 := h1.ltR
    obtain ⟨⟨b0, b1, b2, b3, b4⟩, _⟩ := cellsOf5 hx1
    have hput := rs_put h1 (s2 := { s with last := id }) ((Turn.refl (fun g => g = R) _).set (g := R) (.inl rfl) 9 (.int .u32 (id : Int))) (heap_setCell_same _ R 9 _ _ (.int .u32 (id : Int)) h1.blk) (fun a b => ⟨a, b, rfl⟩) rfl rfl
    have H2 := Lib.hid hput.1
    have HT2 := Lib.hid (show Turn (RSK.F R ⟨vi, vo, .slice A s.held.length cap⟩ s) w _ from (Turn.of_below hb1).trans (hput.2.1.weak (fun g hg => .inl hg)))
    have c8' := (rs_cells hput.1).1.2.2.2.2.2.2.2.2.1
    have f8' := (rs_cells hput.1).2 8
    have hRl2 := hput.1.ltR
    have hne : w.heap.size ≠ R := by omega
    have hx2 : (World.setCell _ ⟨R, 9, none⟩ (.int .u32 (id : Int))).heap[w.heap.size]? = _ := (heap_setCell_other _ ⟨R, 9, none⟩ w.heap.size (.int .u32 (id : Int)) hne).trans hx1
    have HX2 := Lib.hid hx2
    clear h1 hb1 hx1 hx2 HW c5 c9 hput
    generalize (w.alloc (.cells #[.int .u32 (id : Int), .int .u32 (to : Int), .int .i64 3, .string body, .bool sm] 27)).drewN nq = W at *
    go_wp2
    clear b0 b1 b2 b3 b4 c8 d9 f9 H1 HX1 HB1 hRl1
    generalize (W.setCell ⟨R, 9, none⟩ (.int .u32 (id : Int))) = W1 at *
    obtain ⟨⟨b0, b1, b2, b3, b4⟩, _⟩ := cellsOf5 HX2.out
    have c8a := cell_below (show Below W1.heap.size W1 (W1.alloc (.cells #[.int .u32 (id : Int), .string body, .bool false] 113)) from (by repeat (first | with_reducible exact Below.refl _ _ | with_reducible refine below_drewN ?_ _ | with_reducible refine Below.drew ?_ | with_reducible refine Below.alloc ?_ (by first | (simp; done) | (simp; omega)) _ | with_reducible refine Below.setCell ?_ (by first | (simp; done) | (simp; omega)) _))) c8'
    have c8b := cell_below (show Below W1.heap.size W1 (W1.drew.alloc (.cells #[.int .u32 (id : Int), .string body, .bool false] 113)) from (by repeat (first | with_reducible exact Below.refl _ _ | with_reducible refine below_drewN ?_ _ | with_reducible refine Below.drew ?_ | with_reducible refine Below.alloc ?_ (by first | (simp; done) | (simp; omega)) _ | with_reducible refine Below.setCell ?_ (by first | (simp; done) | (simp; omega)) _))) c8'
    go_region_law (first
      | (refine step_slab held2Ty 57 (by rfl) _ _ (by rfl) (.slice A s.held.length cap) s.held.length (heldV s.held) (by rfl) (Slab.below (rs_held H2.out) (by repeat (first | with_reducible exact Below.refl _ _ | with_reducible refine below_drewN ?_ _ | with_reducible refine Below.drew ?_ | with_reducible refine Below.alloc ?_ (by first | (simp; done) | (simp; omega)) _ | with_reducible refine Below.setCell ?_ (by first | (simp; done) | (simp; omega)) _))) (.slice (some ⟨W1.heap.size, 0, none⟩) 1 1) (by rfl) 1 (askV (id, body, false)) (Src.ofSlice _ held2Ty.slice _ 1 1 _ rfl (World.news_of_block (heap_alloc_new _ _)) (by simp [askV, Value.oneCell'])) (by unfold maxLen; omega) (by omega) ?_; intro vh2 W2 hs2 hu2; have hBq : RSK.At _ R ⟨vi, vo, .slice A s.held.length cap⟩ { s with last := id } := StAt.below (w' := W1.drew.alloc (.cells #[.int .u32 (id : Int), .string body, .bool false] 113)) H2.out (by repeat (first | with_reducible exact Below.refl _ _ | with_reducible refine below_drewN ?_ _ | with_reducible refine Below.drew ?_ | with_reducible refine Below.alloc ?_ (by first | (simp; done) | (simp; omega)) _ | with_reducible refine Below.setCell ?_ (by first | (simp; done) | (simp; omega)) _)); have hbq := (hu2.block hBq.ltR (hBq.nR _ (.tail _ (.tail _ (.head _))))).trans hBq.blk; have d8 : W2.cell? ⟨R, 8, none⟩ = some (.slice A s.held.length cap) := cell_of_row _ _ _ _ _ _ hbq; have e8 : W2.frozen? ⟨R, 8, none⟩ = false := frozen_of_row _ _ _ _ _ hbq; have hs2' : Slab W2 3 vh2 (s.held ++ [(id, body, false)]).length (heldV (s.held ++ [(id, body, false)])) := (by rw [List.length_append, heldV_append]; exact hs2); obtain ⟨hf1, hf2, hf3⟩ := rs_grown hBq (s2 := { s with last := id, held := s.held ++ [(id, body, false)] }) hu2 hs2' rfl rfl rfl rfl rfl; have HFIN := Lib.hid (And.intro hf1 (And.intro (HT2.out.trans ((Turn.of_below (S := fun g => RSK.F R ⟨vi, vo, .slice A s.held.length cap⟩ s g ∨ w.heap.size ≤ g) (show Below W1.heap.size W1 (W1.drew.alloc (.cells #[.int .u32 (id : Int), .string body, .bool false] 113)) from (by repeat (first | with_reducible exact Below.refl _ _ | with_reducible refine below_drewN ?_ _ | with_reducible refine Below.drew ?_ | with_reducible refine Below.alloc ?_ (by first | (simp; done) | (simp; omega)) _ | with_reducible refine Below.setCell ?_ (by first | (simp; done) | (simp; omega)) _)))).trans ((hf2.weak (fun g hg => .inl hg)).weak (fun g hg => .inl hg)))) (show ∀ g, RSK.F R ⟨vi, vo, vh2⟩ { s with last := id, held := s.held ++ [(id, body, false)] } g → RSK.F R ⟨vi, vo, .slice A s.held.length cap⟩ s g ∨ w.heap.size ≤ g from fun g hg => (hf3 g hg).elim .inl (fun e => .inr (Nat.le_trans (Nat.le_trans HT2.out.size (show W1.heap.size ≤ (W1.drew.alloc (.cells #[.int .u32 (id : Int), .string body, .bool false] 113)).heap.size by simp)) e))))); obtain ⟨A2, cap2, hv2, _⟩ := Slab.form hs2; subst hv2; clear hs2 hu2 hBq hbq hs2' hf1 hf2 hf3))
    all_goals (
      go_wp2
      go_end0
      rw [HT.out]
      exact ⟨_, rfl, HFIN.out.1, HFIN.out.2.1, HFIN.out.2.2⟩)
theorem rtake_c (R : Nat) (V : RV) (s : Sv) (hok : s.Ok) (hc : s.closed = false) (he : s.ending = false) (m : WMsg) (hm : MsgOk m) (hp : packE ((msgTo m.id 2 m.body).summed m.sum) = 0) (hlen : s.out.length ≤ 274877906944) (w : World) (h : RSK.At w R V s) :
    Calls Tryd.prog 59 #[.pointer (some ⟨R, 0, none⟩), .agg (msgV m).toArray] w (RSK.Post R V s w (s.took m) (.tuple #[])) := by
  obtain ⟨id, to, kind, body, sm⟩ := m
  show Calls Tryd.prog 59 #[.pointer (some ⟨R, 0, none⟩), .agg #[.int .u32 (id : Int), .int .u32 (to : Int), .int .i64 kind, .string body, .bool sm]] w (RSK.Post R V s w (s.took ⟨id, to, kind, body, sm⟩) (.tuple #[]))
  cases hb : s.began with
  | false =>
    by_cases hk : kind = 1
    · subst hk
      exact rtake1_c R V s hb hc he id to body sm hm hp hlen w h
    · exact rtake0_c R V s id to kind body sm (by unfold Sv.take; rw [if_pos hb, if_pos hk]) (.inl ⟨hb, hk⟩) hlen w h
  | true =>
    have hbn : ¬ s.began = false := by rw [hb]; decide
    by_cases hk3 : kind = 3
    · subst hk3
      by_cases hle : id ≤ s.last
      · exact rtake0_c R V s id to 3 body sm (by unfold Sv.take; rw [if_neg hbn, if_pos rfl, if_pos hle]) (.inr ⟨hb, .inr (.inl ⟨rfl, hle⟩)⟩) hlen w h
      · exact rtake3_c R V s hb id to body sm (by omega) (by have := hok.held; omega) hlen w h
    · by_cases hk5 : kind = 5
      · subst hk5
        exact rtake5_c R V s hb id to body sm hm.1 hlen w h
      · exact rtake0_c R V s id to kind body sm (by unfold Sv.take; rw [if_neg hbn, if_neg hk3, if_neg hk5]) (.inr ⟨hb, .inr (.inr ⟨hk3, hk5⟩)⟩) hlen w h
end Go.Proofs.YtkpickojeghppaaDoor
