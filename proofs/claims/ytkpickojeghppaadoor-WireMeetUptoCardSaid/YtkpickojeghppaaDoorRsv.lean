/- The document's server in memory; the walks of parts, Sent. Conditions: what goes out is shorter than 2 to the 38. -/
import Derived.Test.YtkpickojeghppaaDoorRgoes
import Derived.Test.YtkpickojeghppaaDoorClia
namespace Go.Proofs.YtkpickojeghppaaDoor
open Go.RowKit
structure RV where
  i : Value
  o : Value
  h : Value
def rsCells (_ : Nat) (V : RV) (s : Sv) : Array Value :=
  #[V.i, V.o, .bool s.closed, .int .i64 (s.why : Int), .bool s.sums, .bool s.began, .bool s.ending, .int .u32 (s.bye : Int), V.h, .int .u32 (s.last : Int)]
def rsParts (V : RV) (s : Sv) : List Part :=
  [⟨1, V.i, s.inp.length, bytesV s.inp, s.closed = false ∧ s.ending = false⟩, ⟨1, V.o, s.out.length, bytesV s.out, True⟩, ⟨3, V.h, s.held.length, heldV s.held, True⟩]
def RSK : EK RV Sv := ⟨59, rsCells, rsParts⟩
section
variable {w : World} {R : Nat} {V : RV} {s : Sv}
theorem rs_cells (h : RSK.At w R V s) :
    (w.cell? ⟨R, 0, none⟩ = some V.i ∧ w.cell? ⟨R, 1, none⟩ = some V.o ∧ w.cell? ⟨R, 2, none⟩ = some (.bool s.closed) ∧ w.cell? ⟨R, 3, none⟩ = some (.int .i64 (s.why : Int)) ∧ w.cell? ⟨R, 4, none⟩ = some (.bool s.sums) ∧ w.cell? ⟨R, 5, none⟩ = some (.bool s.began) ∧ w.cell? ⟨R, 6, none⟩ = some (.bool s.ending) ∧ w.cell? ⟨R, 7, none⟩ = some (.int .u32 (s.bye : Int)) ∧ w.cell? ⟨R, 8, none⟩ = some V.h ∧ w.cell? ⟨R, 9, none⟩ = some (.int .u32 (s.last : Int))) ∧ ∀ i : Nat, w.frozen? ⟨R, i, none⟩ = false :=
  ⟨⟨cell_of_row _ _ _ _ _ _ h.blk, cell_of_row _ _ _ _ _ _ h.blk, cell_of_row _ _ _ _ _ _ h.blk, cell_of_row _ _ _ _ _ _ h.blk, cell_of_row _ _ _ _ _ _ h.blk, cell_of_row _ _ _ _ _ _ h.blk, cell_of_row _ _ _ _ _ _ h.blk, cell_of_row _ _ _ _ _ _ h.blk, cell_of_row _ _ _ _ _ _ h.blk, cell_of_row _ _ _ _ _ _ h.blk⟩, fun _ => frozen_of_row _ _ _ _ _ h.blk⟩
theorem rs_in (h : RSK.At w R V s) (hc : s.closed = false) (he : s.ending = false) : BSlab w V.i s.inp := h.slab _ (.head _) ⟨hc, he⟩
theorem rs_out (h : RSK.At w R V s) : BSlab w V.o s.out := h.slab _ (.tail _ (.head _)) trivial
theorem rs_held (h : RSK.At w R V s) : Slab w 3 V.h s.held.length (heldV s.held) := h.slab _ (.tail _ (.tail _ (.head _))) trivial
theorem rs_F {R : Nat} {V : RV} {s : Sv} (s2 : Sv) {g : Nat} (h : RSK.F R V s g) : RSK.F R V s2 g := stF_map R (ps := rsParts V s2) (qs := rsParts V s) rfl g h
/-- only cells beside the slices have turned -/
theorem rs_put (h : RSK.At w R V s) {w' : World} {s2 : Sv} (ht : Turn (fun g => g = R) w w') (hb : w'.heap[R]? = some (.cells (rsCells R V s2) 59 (0, 0)))
    (hi : s2.closed = false → s2.ending = false → s.closed = false ∧ s.ending = false ∧ s2.inp = s.inp) (ho : s2.out = s.out) (hh : s2.held = s.held) :
    RSK.At w' R V s2 ∧ Turn (RSK.F R V s) w w' ∧ ∀ g, RSK.F R V s2 g → RSK.F R V s g ∨ w.heap.size ≤ g := by
  refine EK.put h ht hb rfl (fun p hp hon => ?_)
  simp only [RSK, rsParts, List.mem_cons, List.not_mem_nil, or_false] at hp
  rcases hp with rfl | rfl | rfl
  · obtain ⟨a, b, c⟩ := hi hon.1 hon.2
    exact ⟨_, .head _, ⟨a, b⟩, rfl, rfl, by rw [c], by rw [c]⟩
  · exact ⟨_, .tail _ (.head _), trivial, rfl, rfl, by rw [ho], by rw [ho]⟩
  · exact ⟨_, .tail _ (.tail _ (.head _)), trivial, rfl, rfl, by rw [hh], by rw [hh]⟩
/-- a message has gone out -/
theorem rs_sent (h : RSK.At w R V s) {m : WMsg} {e : Ending} {w' : World} (hp : GoesPost R (rsCells R V s) 59 V.o s.out (m.summed s.sums) w e w') :
    RSK.Post R V s w (s.send m) (.bool (goesB (m.summed s.sums))) e w' := by
  obtain ⟨vo', he, hs, hb, ht, hn⟩ := hp
  obtain ⟨a, b, c⟩ := EK.repl (K := RSK) (v2 := { V with o := vo' }) (s2 := s.send m) [⟨1, V.i, s.inp.length, bytesV s.inp, s.closed = false ∧ s.ending = false⟩] [⟨3, V.h, s.held.length, heldV s.held, True⟩]
    ⟨1, V.o, s.out.length, bytesV s.out, True⟩ ⟨1, vo', (s.send m).out.length, bytesV (s.send m).out, True⟩ rfl rfl h ht hb (fun _ => hs) (fun g hg => Slab.lt hs hg) hn
  exact ⟨{ V with o := vo' }, he, a, b, c⟩
end
set_option maxRecDepth 20000 in
set_option maxHeartbeats 4000000 in
theorem rparts_c (R : Nat) (V : RV) (s : Sv) (hlen : s.out.length ≤ 274877906944) (hby : s.bye < 4294967296) (w : World) (h : RSK.At w R V s) :
    Calls Tryd.prog 65 #[.pointer (some ⟨R, 0, none⟩)] w (RSK.Post R V s w s.parts (.tuple #[])) := by
  obtain ⟨⟨_, _, c2, _, _, _, c6, c7, c8, _⟩, hf⟩ := rs_cells h
  have f2 := hf 2
  obtain ⟨A, cap, hvh, _, _, _⟩ := Slab.form (rs_held h)
  obtain ⟨vi, vo, vh⟩ := V
  simp only at hvh c8
  subst hvh
  have H := Lib.hid h
  by_cases hall : (s.ending && s.held.isEmpty && !s.closed) = true
  · have HP := Lib.hid (show s.parts = { s.send (msgTo s.bye 5 ⟨#[]⟩) with closed := true } from if_pos hall)
    simp only [Bool.and_eq_true, Bool.not_eq_true'] at hall
    obtain ⟨⟨he, hl⟩, hc⟩ := hall
    have hl0 : s.held.length = 0 := by rw [List.isEmpty_iff.1 hl]; rfl
    rw [he] at c6
    rw [hc] at c2
    have c8' := c8
    rw [hl0] at c8'
    have HSEND := Lib.hid (fun (n : Nat) => (show Calls Tryd.prog 64 #[.pointer (some ⟨R, 0, none⟩), .agg #[.int .u32 0, .int .u32 (s.bye : Int), .int .i64 5, .string ⟨#[]⟩, .bool false]] (w.drewN n) _ from
      goes_c R (rsCells R ⟨vi, vo, .slice A s.held.length cap⟩ s) 59 vo s.out s.sums (msgTo s.bye 5 ⟨#[]⟩) (msgTo_ok hby (by decide) (by decide) (by decide)) hlen _ (StAt.below h (below_drewN' w n)).blk rfl rfl (rs_out (StAt.below h (below_drewN' w n))) (h.nR _ (.tail _ (.head _)))).mono (R' := fun e w2 => ∃ V2, (∃ b, e = .returned (.bool b)) ∧ Hid (RSK.At w2 R V2 (s.send (msgTo s.bye 5 ⟨#[]⟩)) ∧ Turn (RSK.F R ⟨vi, vo, .slice A s.held.length cap⟩ s) w w2 ∧ ∀ g, RSK.F R V2 (s.send (msgTo s.bye 5 ⟨#[]⟩)) g → RSK.F R ⟨vi, vo, .slice A s.held.length cap⟩ s g ∨ w.heap.size ≤ g) ∧ w2.cell? ⟨R, 2, none⟩ = some (.bool s.closed) ∧ w2.frozen? ⟨R, 2, none⟩ = false) (fun e w2 hp => by
        obtain ⟨V2, he2, ha, ht, hn⟩ := rs_sent (StAt.below h (below_drewN' w n)) hp
        exact ⟨V2, ⟨_, he2⟩, Lib.hid ⟨ha, (Turn.of_below (below_drewN' w n)).trans (ht.weak (fun g hg => .inl hg)), hn⟩, (rs_cells ha).1.2.2.1, (rs_cells ha).2 2⟩))
    clear h hf hl hl0 hc he c8
    go_enter Tryd.func65, Tryd.ntmps65
    go_wp2
    go_region_with (go_at_call 64; refine (HSEND.out _).mono ?_; rintro e w2 ⟨V2, ⟨bb, rfl⟩, HF, d2, e2⟩)
    all_goals (
      go_wp2
      go_end0
      rw [HP.out]
      obtain ⟨a, b, c⟩ := rs_put HF.out.1 (s2 := { s.send (msgTo s.bye 5 ⟨#[]⟩) with closed := true }) ((Turn.refl (fun g => g = R) w2).set (.inl rfl) 2 (.bool true)) (heap_setCell_same _ _ 2 _ _ (.bool true) HF.out.1.blk) (fun a => by cases a) rfl rfl
      exact EK.seq HF.out.2.1 HF.out.2.2 ⟨V2, rfl, a, b, c⟩)
  · have HP := Lib.hid (show s.parts = s from if_neg hall)
    by_cases he : s.ending = true
    · rw [he] at c6
      by_cases hl : s.held.length = 0
      · have hc : s.closed = true := by
          have h1 : s.held = [] := List.eq_nil_of_length_eq_zero hl
          rw [he, h1] at hall
          simpa using hall
        rw [hc] at c2
        have c8' := c8
        rw [hl] at c8'
        clear h hf hall he hl hc c8
        go_enter Tryd.func65, Tryd.ntmps65
        go_wp2
        go_end0
        rw [HP.out]
        exact EK.post_same H.out _
      · have hlb : ((s.held.length : Int) == 0) = false := by rw [beq_eq_false_iff_ne]; omega
        clear h hf hall he hl
        go_enter Tryd.func65, Tryd.ntmps65
        go_wp2
        go_end0
        rw [HP.out]
        exact EK.post_same H.out _
    · have he2 : s.ending = false := by simpa using he
      rw [he2] at c6
      clear h hf hall he he2
      go_enter Tryd.func65, Tryd.ntmps65
      go_wp2
      go_end0
      rw [HP.out]
      exact EK.post_same H.out _
/-- Sent: what went out; it is the caller's -/
theorem sent_w (R : Nat) (cs : Array Value) (T : TypeId) (vo : Value) (w : World) (hR : w.heap[R]? = some (.cells cs T (0, 0))) (h1 : cs[1]? = some vo) :
    Calls Tryd.prog 31 #[.pointer (some ⟨R, 0, none⟩)] w fun e w' => e = .returned vo ∧ w'.heap[R]? = some (.cells (cs.setIfInBounds 1 (.slice none 0 0)) T (0, 0)) ∧ Turn (fun g => g = R) w w' := by
  have c1 : w.cell? ⟨R, 1, none⟩ = some vo := (cell_of_row _ _ _ _ _ _ hR).trans h1
  have f1 : w.frozen? ⟨R, 1, none⟩ = false := frozen_of_row _ _ _ _ _ hR
  have HR := Lib.hid hR
  clear hR h1
  go_enter Tryd.func31, Tryd.ntmps31
  go_wp2
  go_ret
  exact ⟨rfl, heap_setCell_same _ _ _ _ _ _ HR.out, (Turn.refl (fun g => g = R) w).set (.inl rfl) 1 _⟩
def RsOutPost (R : Nat) (V : RV) (s : Sv) (w : World) (e : Ending) (w' : World) : Prop :=
  e = .returned V.o ∧ RSK.At w' R { V with o := .slice none 0 0 } { s with out := [] } ∧ BSlab w' V.o s.out ∧ Turn (fun g => g = R) w w'
theorem rsSent_c (R : Nat) (V : RV) (s : Sv) (w : World) (h : RSK.At w R V s) : Calls Tryd.prog 31 #[.pointer (some ⟨R, 0, none⟩)] w (RsOutPost R V s w) := by
  refine (sent_w R (rsCells R V s) 59 V.o w h.blk rfl).mono ?_
  rintro e w' ⟨he, hb, ht⟩
  refine ⟨he, ?_, Slab.turn (rs_out h) ht (fun g hg e => h.nR _ (.tail _ (.head _)) (by rw [← e]; exact hg)), ht⟩
  exact (EK.repl (K := RSK) (v2 := { V with o := .slice none 0 0 }) (s2 := { s with out := [] }) [⟨1, V.i, s.inp.length, bytesV s.inp, s.closed = false ∧ s.ending = false⟩] [⟨3, V.h, s.held.length, heldV s.held, True⟩]
    ⟨1, V.o, s.out.length, bytesV s.out, True⟩ ⟨1, .slice none 0 0, 0, [], True⟩ rfl rfl h (ht.weak (fun g hg => .inl hg)) hb (fun _ => slab_nil _ _) (fun g hg => by cases hg) (fun g hg => by cases hg)).1
end Go.Proofs.YtkpickojeghppaaDoor
