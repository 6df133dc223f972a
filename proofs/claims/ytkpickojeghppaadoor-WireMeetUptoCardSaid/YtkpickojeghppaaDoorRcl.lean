/- The document's client in memory; the walks of NewClient, Sent, Bye, Reply, fails. Conditions: what goes out is shorter than 2 to the 38. -/
import Derived.Test.YtkpickojeghppaaDoorRsv
namespace Go.Proofs.YtkpickojeghppaaDoor
open Go.RowKit
def rcCells (_ : Nat) (V : CV) (s : Cl) : Array Value :=
  #[V.i, V.o, .bool s.closed, .int .i64 (s.why : Int), .bool s.sums, .bool s.began, .bool s.ending, .int .u32 (s.bye : Int), .int .u32 ((s.id - 1 : Nat) : Int), V.q, V.r]
def RCK : EK CV Cl := ⟨79, rcCells, clParts⟩
section
variable {w : World} {R : Nat} {V : CV} {s : Cl}
theorem rc_cells (h : RCK.At w R V s) :
    (w.cell? ⟨R, 0, none⟩ = some V.i ∧ w.cell? ⟨R, 1, none⟩ = some V.o ∧ w.cell? ⟨R, 2, none⟩ = some (.bool s.closed) ∧ w.cell? ⟨R, 3, none⟩ = some (.int .i64 (s.why : Int)) ∧ w.cell? ⟨R, 4, none⟩ = some (.bool s.sums) ∧ w.cell? ⟨R, 5, none⟩ = some (.bool s.began) ∧ w.cell? ⟨R, 6, none⟩ = some (.bool s.ending) ∧ w.cell? ⟨R, 7, none⟩ = some (.int .u32 (s.bye : Int)) ∧ w.cell? ⟨R, 8, none⟩ = some (.int .u32 ((s.id - 1 : Nat) : Int)) ∧ w.cell? ⟨R, 9, none⟩ = some V.q ∧ w.cell? ⟨R, 10, none⟩ = some V.r) ∧ ∀ i : Nat, w.frozen? ⟨R, i, none⟩ = false :=
  ⟨⟨cell_of_row _ _ _ _ _ _ h.blk, cell_of_row _ _ _ _ _ _ h.blk, cell_of_row _ _ _ _ _ _ h.blk, cell_of_row _ _ _ _ _ _ h.blk, cell_of_row _ _ _ _ _ _ h.blk, cell_of_row _ _ _ _ _ _ h.blk, cell_of_row _ _ _ _ _ _ h.blk, cell_of_row _ _ _ _ _ _ h.blk, cell_of_row _ _ _ _ _ _ h.blk, cell_of_row _ _ _ _ _ _ h.blk, cell_of_row _ _ _ _ _ _ h.blk⟩, fun _ => frozen_of_row _ _ _ _ _ h.blk⟩
theorem rc_in (h : RCK.At w R V s) (hc : s.closed = false) : BSlab w V.i s.inp := h.slab _ (.head _) hc
theorem rc_out (h : RCK.At w R V s) : BSlab w V.o s.out := h.slab _ (.tail _ (.head _)) trivial
theorem rc_asked (h : RCK.At w R V s) : Slab w 1 V.q s.asked.length (numsV s.asked) := h.slab _ (.tail _ (.tail _ (.head _))) trivial
theorem rc_came (h : RCK.At w R V s) : Slab w 2 V.r s.came.length (cameV s.came) := h.slab _ (.tail _ (.tail _ (.tail _ (.head _)))) trivial
/-- only cells beside the slices have turned -/
theorem rc_put (h : RCK.At w R V s) {w' : World} {s2 : Cl} (ht : Turn (fun g => g = R) w w') (hb : w'.heap[R]? = some (.cells (rcCells R V s2) 79 (0, 0)))
    (hi : s2.closed = false → s.closed = false ∧ s2.inp = s.inp) (ho : s2.out = s.out) (hq : s2.asked = s.asked) (hr : s2.came = s.came) :
    RCK.At w' R V s2 ∧ Turn (RCK.F R V s) w w' ∧ ∀ g, RCK.F R V s2 g → RCK.F R V s g ∨ w.heap.size ≤ g := by
  refine EK.put h ht hb rfl (fun p hp hon => ?_)
  simp only [RCK, clParts, List.mem_cons, List.not_mem_nil, or_false] at hp
  rcases hp with rfl | rfl | rfl | rfl
  · obtain ⟨a, b⟩ := hi hon
    exact ⟨_, .head _, a, rfl, rfl, by rw [b], by rw [b]⟩
  · exact ⟨_, .tail _ (.head _), trivial, rfl, rfl, by rw [ho], by rw [ho]⟩
  · exact ⟨_, .tail _ (.tail _ (.head _)), trivial, rfl, rfl, by rw [hq], by rw [hq]⟩
  · exact ⟨_, .tail _ (.tail _ (.tail _ (.head _))), trivial, rfl, rfl, by rw [hr], by rw [hr]⟩
theorem rc_F {R : Nat} {V : CV} {s : Cl} (s2 : Cl) {g : Nat} (h : RCK.F R V s g) : RCK.F R V s2 g := stF_map R (ps := clParts V s2) (qs := clParts V s) rfl g h
/-- a message has gone out -/
theorem rc_sent (h : RCK.At w R V s) {m : WMsg} {e : Ending} {w' : World} (hp : GoesPost R (rcCells R V s) 79 V.o s.out (m.summed s.sums) w e w') :
    RCK.Post R V s w (s.send m) (.bool (goesB (m.summed s.sums))) e w' := by
  obtain ⟨vo', he, hs, hb, ht, hn⟩ := hp
  obtain ⟨a, b, c⟩ := EK.repl (K := RCK) (v2 := { V with o := vo' }) (s2 := s.send m) [⟨1, V.i, s.inp.length, bytesV s.inp, s.closed = false⟩] [⟨1, V.q, s.asked.length, numsV s.asked, True⟩, ⟨2, V.r, s.came.length, cameV s.came, True⟩]
    ⟨1, V.o, s.out.length, bytesV s.out, True⟩ ⟨1, vo', (s.send m).out.length, bytesV (s.send m).out, True⟩ rfl rfl h ht hb (fun _ => hs) (fun g hg => Slab.lt hs hg) hn
  exact ⟨{ V with o := vo' }, he, a, b, c⟩
end
def RcOutPost (R : Nat) (V : CV) (s : Cl) (w : World) (e : Ending) (w' : World) : Prop :=
  e = .returned V.o ∧ RCK.At w' R { V with o := .slice none 0 0 } { s with out := [] } ∧ BSlab w' V.o s.out ∧ Turn (fun g => g = R) w w'
theorem rcSent_c (R : Nat) (V : CV) (s : Cl) (w : World) (h : RCK.At w R V s) : Calls Tryd.prog 31 #[.pointer (some ⟨R, 0, none⟩)] w (RcOutPost R V s w) := by
  refine (sent_w R (rcCells R V s) 79 V.o w h.blk rfl).mono ?_
  rintro e w' ⟨he, hb, ht⟩
  refine ⟨he, ?_, Slab.turn (rc_out h) ht (fun g hg e => h.nR _ (.tail _ (.head _)) (by rw [← e]; exact hg)), ht⟩
  exact (EK.repl (K := RCK) (v2 := { V with o := .slice none 0 0 }) (s2 := { s with out := [] }) [⟨1, V.i, s.inp.length, bytesV s.inp, s.closed = false⟩] [⟨1, V.q, s.asked.length, numsV s.asked, True⟩, ⟨2, V.r, s.came.length, cameV s.came, True⟩]
    ⟨1, V.o, s.out.length, bytesV s.out, True⟩ ⟨1, .slice none 0 0, 0, [], True⟩ rfl rfl h (ht.weak (fun g hg => .inl hg)) hb (fun _ => slab_nil _ _) (fun g hg => by cases hg) (fun g hg => by cases hg)).1
set_option maxRecDepth 20000 in
set_option maxHeartbeats 4000000 in
theorem rcNew_c (sums : Bool) (w : World) : Calls Tryd.prog 35 #[.bool sums] w fun e w' => ∃ V, e = .returned (.pointer (some ⟨w.heap.size, 0, none⟩)) ∧ RCK.At w' w.heap.size V (cl0 sums) ∧ Below w.heap.size w w' ∧ ∀ g, RCK.F w.heap.size V (cl0 sums) g → w.heap.size ≤ g := by
  have hAt : ∀ W, Below w.heap.size w W → W.heap[w.heap.size]? = some (.cells (rcCells w.heap.size ⟨.slice none 0 0, .slice none 0 0, .slice none 0 0, .slice none 0 0⟩ { inp := [], out := [], closed := false, why := 0, sums := sums, began := false, ending := false, bye := 0, id := 2, asked := [], came := [] }) 79 (0, 0)) → RCK.At W w.heap.size ⟨.slice none 0 0, .slice none 0 0, .slice none 0 0, .slice none 0 0⟩ { inp := [], out := [], closed := false, why := 0, sums := sums, began := false, ending := false, bye := 0, id := 2, asked := [], came := [] } := fun W hb hx => by
    refine ⟨hx, fun p hp _ => ?_, fun p hp => ?_, ?_, fun p hp g hg => ?_⟩
    · simp only [RCK, clParts, List.mem_cons, List.not_mem_nil, or_false] at hp
      rcases hp with rfl | rfl | rfl | rfl <;> exact slab_nil _ _
    · simp only [RCK, clParts, List.mem_cons, List.not_mem_nil, or_false] at hp
      rcases hp with rfl | rfl | rfl | rfl <;> (intro e; cases e)
    · simp [RCK, clParts, apart, Value.ownBlock]
    · simp only [RCK, clParts, List.mem_cons, List.not_mem_nil, or_false] at hp
      rcases hp with rfl | rfl | rfl | rfl <;> cases hg
  have HA := Lib.hid hAt
  clear hAt
  go_enter Tryd.func35, Tryd.ntmps35
  go_wp2_with fail
  have h0 := HA.out _ ((Below.refl _ _).alloc (Nat.le_refl _) _) (heap_alloc_new w _)
  refine (goes_c w.heap.size _ 79 (.slice none 0 0) [] sums ⟨1, 0, 1, ⟨#[100, 111, 99, 107, 101, 116]⟩, false⟩ ⟨by decide, by decide, by decide, by decide, by decide⟩ (by simp) _ h0.blk rfl rfl (rc_out h0) (by simp [Value.ownBlock])).mono ?_
  rintro e w2 hp
  obtain ⟨V, rfl, h2, ht, hn⟩ := rc_sent h0 hp
  have HF := Lib.hid (And.intro h2 (And.intro ((Turn.of_below ((Below.refl w.heap.size w).alloc (Nat.le_refl _) _) : Turn (fun g => w.heap.size ≤ g) w _).trans (ht.weak (fun g hg => .inr (by
    rcases hg with hg | ⟨p, hp, hg⟩
    · exact Nat.le_of_eq hg.symm
    · simp only [RCK, clParts, List.mem_cons, List.not_mem_nil, or_false] at hp
      rcases hp with rfl | rfl | rfl | rfl <;> cases hg)))) hn))
  clear h0 hp h2 ht hn
  go_wp2
  go_ret
  obtain ⟨h2, ht, hn⟩ := HF.out
  refine ⟨V, rfl, h2, ht.below (fun _ h => h) (Nat.le_refl _), fun g hg => ?_⟩
  rcases hn g hg with h | h
  · rcases h with h | ⟨p, hp, h⟩
    · exact Nat.le_of_eq h.symm
    · simp only [RCK, clParts, List.mem_cons, List.not_mem_nil, or_false] at hp
      rcases hp with rfl | rfl | rfl | rfl <;> cases h
  · simp at h; omega
set_option maxRecDepth 20000 in
set_option maxHeartbeats 4000000 in
theorem rcBye_c (R : Nat) (V : CV) (s : Cl) (hok : s.Ok) (hid1 : 1 ≤ s.id) (hlen : s.out.length ≤ 274877906944) (w : World) (h : RCK.At w R V s) :
    Calls Tryd.prog 41 #[.pointer (some ⟨R, 0, none⟩)] w (RCK.Post R V s w s.part.1 (.int .i64 (s.part.2 : Int))) := by
  obtain ⟨⟨_, _, c2, _, _, _, c6, c7, c8, _⟩, hf⟩ := rc_cells h
  have f6 := hf 6
  have f7 := hf 7
  have f8 := hf 8
  have hRl := h.ltR
  clear hf
  by_cases hst : (s.closed || s.ending) = true
  · have HT := Lib.hid (show s.part = (s, 285) from if_pos hst)
    have H := Lib.hid h
    have hst2 := hst
    clear h hok f6 f7 f8 c7 c8
    cases hcl : s.closed with
    | true =>
      rw [hcl] at c2
      clear hst hst2
      go_enter Tryd.func41, Tryd.ntmps41
      go_wp2
      go_ret
      rw [HT.out]
      exact EK.post_same H.out _
    | false =>
      have hen : s.ending = true := by rw [hcl] at hst; exact hst
      rw [hcl] at c2
      rw [hen] at c6
      clear hst hst2
      go_enter Tryd.func41, Tryd.ntmps41
      go_wp2
      go_ret
      rw [HT.out]
      exact EK.post_same H.out _
  · have hcl : s.closed = false := by cases h : s.closed with | false => rfl | true => rw [h] at hst; exact absurd rfl hst
    have hen : s.ending = false := by cases h : s.ending with | false => rfl | true => rw [h, Bool.or_true] at hst; exact absurd rfl hst
    rw [hcl] at c2
    rw [hen] at c6
    have hidl := hok.id
    have hpe : packE (s.byeM.summed s.sums) = 0 := by
      unfold packE
      rw [if_neg (by show ¬ ((5 : Int) < 1 ∨ 6 < (5 : Int)); decide), if_neg (by unfold WMsg.size; show ¬ (131072 < _); split <;> (simp [Cl.byeM, WMsg.summed]; decide))]
    have HT := Lib.hid (show s.part = (({ s with bye := s.id, ending := true, id := s.id + 1 } : Cl).send s.byeM, 0) by unfold Cl.part; rw [if_neg hst, hpe])
    obtain ⟨j, hj⟩ : ∃ j, s.id - 1 = j := ⟨_, rfl⟩
    have hje : (j : Int) + 1 = (s.id : Int) := by omega
    rw [hj] at c8
    have hblk := heap_setCell_same _ R 7 _ _ (.int .u32 (s.id : Int)) (heap_setCell_same _ R 6 _ _ (.bool true) (heap_setCell_same _ R 8 _ _ (.int .u32 (s.id : Int)) h.blk))
    have ht := (((Turn.refl (fun g => g = R) w).set (g := R) (.inl rfl) 8 (.int .u32 (s.id : Int))).set (g := R) (.inl rfl) 6 (.bool true)).set (g := R) (.inl rfl) 7 (.int .u32 (s.id : Int))
    have h1 := rc_put h (s2 := { s with bye := s.id, ending := true, id := s.id + 1 }) ht hblk (fun _ => ⟨hcl, rfl⟩) rfl rfl rfl
    have HM := Lib.hid (show MsgOk s.byeM from ⟨by show s.id < _; omega, by show (0 : Nat) < _; omega, by show _ ≤ (5 : Int); decide, by show (5 : Int) ≤ _; decide, by show (0 : Nat) ≤ _; omega⟩)
    have hq : ∀ n, RCK.At (World.drewN _ n) R V _ := fun n => StAt.below h1.1 (below_drewN' _ n)
    have ho := fun n => rc_out (hq n)
    have HSEND := Lib.hid (fun (n : Nat) => show Calls Tryd.prog 64 #[.pointer (some ⟨R, 0, none⟩), .agg #[.int .u32 (s.id : Int), .int .u32 0, .int .i64 5, .string ⟨#[]⟩, .bool false]] _ (fun e w2 => (∃ b, e = .returned (.bool b)) ∧ Hid (RCK.Post R V s w (({ s with bye := s.id, ending := true, id := s.id + 1 } : Cl).send s.byeM) (.int .i64 0) (.returned (.int .i64 0)) w2)) from
      (goes_c R _ 79 V.o s.out s.sums s.byeM HM.out hlen _ (hq n).blk rfl rfl (ho n) (h.nR _ (.tail _ (.head _)))).mono (fun e w2 hp => by
        obtain ⟨V2, he2, ha, ht2, hn2⟩ := rc_sent (hq n) hp
        exact ⟨⟨_, he2⟩, Lib.hid (EK.seq (h1.2.1.trans (Turn.of_below (below_drewN' _ n))) (fun g hg => h1.2.2 g hg) ⟨V2, rfl, ha, ht2, hn2⟩)⟩))
    have HJ := Lib.hid hje
    have hj1 : (0 : Int) ≤ (j : Int) := by omega
    have hj2 : (j : Int) ≤ 4000000000 := by omega
    rw [← hje] at HSEND
    clear h hok hst hblk ht h1 hq ho hpe hj hje
    go_enter Tryd.func41, Tryd.ntmps41
    go_wp2
    go_region_with (go_at_call 64; refine (HSEND.out _).mono ?_; rintro e w2 ⟨⟨bb, rfl⟩, HF⟩)
    all_goals (
      go_wp2
      go_ret
      rw [HT.out]
      exact HF.out)
def rcShutW (w : World) (R e : Nat) : World := ((w.setCell ⟨R, 2, none⟩ (.bool true)).setCell ⟨R, 3, none⟩ (.int .i64 (e : Int))).setCell ⟨R, 0, none⟩ (.slice none 0 0)
theorem rc_shut {w : World} {R : Nat} {V : CV} {s : Cl} (h : RCK.At w R V s) (e : Nat) :
    RCK.At (rcShutW w R e) R { V with i := .slice none 0 0 } { s with closed := true, why := e } ∧ Turn (RCK.F R V s) w (rcShutW w R e) ∧
    ∀ g, RCK.F R { V with i := .slice none 0 0 } { s with closed := true, why := e } g → RCK.F R V s g ∨ w.heap.size ≤ g := by
  have ht := (((Turn.refl (fun g => g = R) w).set (g := R) (.inl rfl) 2 (.bool true)).set (g := R) (.inl rfl) 3 (.int .i64 (e : Int))).set (g := R) (.inl rfl) 0 (.slice none 0 0)
  have hb := heap_setCell_same _ R 0 _ _ (.slice none 0 0) (heap_setCell_same _ R 3 _ _ (.int .i64 (e : Int)) (heap_setCell_same _ R 2 _ _ (.bool true) h.blk))
  exact EK.repl (K := RCK) (v2 := { V with i := .slice none 0 0 }) (s2 := { s with closed := true, why := e }) [] [⟨1, V.o, s.out.length, bytesV s.out, True⟩, ⟨1, V.q, s.asked.length, numsV s.asked, True⟩, ⟨2, V.r, s.came.length, cameV s.came, True⟩]
    ⟨1, V.i, s.inp.length, bytesV s.inp, s.closed = false⟩ ⟨1, .slice none 0 0, s.inp.length, bytesV s.inp, true = false⟩ rfl rfl h (ht.weak (fun g hg => .inl hg)) hb (fun hh => absurd (show true = false from hh) (by decide)) (fun g hg => by cases hg) (fun g hg => by cases hg)
def Cl.stop (s : Cl) (e : Nat) : Cl := { s with closed := true, why := e }
set_option maxHeartbeats 4000000 in
theorem rcfails_c (R : Nat) (V : CV) (s : Cl) (e : Nat) (w : World) (h : RCK.At w R V s) :
    Calls Tryd.prog 69 #[.pointer (some ⟨R, 0, none⟩), .int .i64 (e : Int)] w (RCK.Post R V s w (s.stop e) (.tuple #[])) := by
  have HS := Lib.hid (show RCK.Post R V s w (s.stop e) (.tuple #[]) (.returned (.tuple #[])) (rcShutW w R e) from ⟨_, rfl, (rc_shut h e).1, (rc_shut h e).2.1, (rc_shut h e).2.2⟩)
  obtain ⟨⟨c0, _, c2, c3, _⟩, hf⟩ := rc_cells h
  have f0 := hf 0
  have f2 := hf 2
  have f3 := hf 3
  have hRl := h.ltR
  clear h hf
  go_enter Tryd.func69, Tryd.ntmps69
  go_wp2
  go_end0
  exact HS.out
end Go.Proofs.YtkpickojeghppaaDoor
