/- The walk of fails (the document's server). Conditions: what goes out is shorter than 2 to the 38. -/
import Derived.Test.YtkpickojeghppaaDoorRdig
namespace Go.Proofs.YtkpickojeghppaaDoor
open Go.RowKit
theorem rs_shut {w : World} {R : Nat} {V : RV} {s : Sv} (h : RSK.At w R V s) (e : Nat) :
    RSK.At ((((w.setCell ⟨R, 2, none⟩ (.bool true)).setCell ⟨R, 3, none⟩ (.int .i64 (e : Int))).setCell ⟨R, 8, none⟩ (.slice none 0 0)).setCell ⟨R, 0, none⟩ (.slice none 0 0)) R ⟨.slice none 0 0, V.o, .slice none 0 0⟩ { s with closed := true, why := e, held := [] } ∧
    Turn (fun g => g = R) w ((((w.setCell ⟨R, 2, none⟩ (.bool true)).setCell ⟨R, 3, none⟩ (.int .i64 (e : Int))).setCell ⟨R, 8, none⟩ (.slice none 0 0)).setCell ⟨R, 0, none⟩ (.slice none 0 0)) := by
  have ht := ((((Turn.refl (fun g => g = R) w).set (g := R) (.inl rfl) 2 (.bool true)).set (g := R) (.inl rfl) 3 (.int .i64 (e : Int))).set (g := R) (.inl rfl) 8 (.slice none 0 0)).set (g := R) (.inl rfl) 0 (.slice none 0 0)
  refine ⟨⟨heap_setCell_same _ R 0 _ _ (.slice none 0 0) (heap_setCell_same _ R 8 _ _ (.slice none 0 0) (heap_setCell_same _ R 3 _ _ (.int .i64 (e : Int)) (heap_setCell_same _ R 2 _ _ (.bool true) h.blk))), fun p hp ho => ?_, fun p hp => ?_, ?_, fun p hp g hg => ?_⟩, ht⟩
  · simp only [RSK, rsParts, List.mem_cons, List.not_mem_nil, or_false] at hp
    rcases hp with rfl | rfl | rfl
    · exact absurd ho.1 (by simp)
    · exact Slab.turn (rs_out h) ht (fun g hg e => h.nR _ (.tail _ (.head _)) (by rw [← e]; exact hg))
    · exact slab_nil _ _
  · simp only [RSK, rsParts, List.mem_cons, List.not_mem_nil, or_false] at hp
    rcases hp with rfl | rfl | rfl
    · intro e; cases e
    · exact h.nR _ (.tail _ (.head _))
    · intro e; cases e
  · simp [RSK, rsParts, apart, Value.ownBlock]
  · simp only [RSK, rsParts, List.mem_cons, List.not_mem_nil, or_false] at hp
    rcases hp with rfl | rfl | rfl
    · cases hg
    · exact Nat.lt_of_lt_of_le (h.lt _ (.tail _ (.head _)) g hg) ht.size
    · cases hg
set_option maxRecDepth 20000 in
set_option maxHeartbeats 4000000 in
theorem rfails_c (R : Nat) (V : RV) (s : Sv) (e : Nat) (he : e ≤ 999999) (hlen : s.out.length ≤ 274877906944) (w : World) (h : RSK.At w R V s) :
    Calls Tryd.prog 58 #[.pointer (some ⟨R, 0, none⟩), .int .i64 (e : Int)] w (RSK.Post R V s w (s.fail e) (.tuple #[])) := by
  have hsz := digitsB_size e he
  have hRl := h.ltR
  have HI := Lib.hid (fun (w2 : World) => rdigits_c e (by omega) w2)
  have HSEND := Lib.hid (fun (w2 : World) (hb : Below w.heap.size w w2) => (show Calls Tryd.prog 64 #[.pointer (some ⟨R, 0, none⟩), .agg #[.int .u32 0, .int .u32 0, .int .i64 6, .string (digitsB e), .bool false]] w2 _ from
    goes_c R (rsCells R V s) 59 V.o s.out s.sums (msgTo 0 6 (digitsB e)) (msgTo_ok (by decide) (by decide) (by decide) (by omega)) hlen w2 (StAt.below h hb).blk rfl rfl (rs_out (StAt.below h hb)) (h.nR _ (.tail _ (.head _)))).mono (R' := fun e2 w3 => ∃ V2, (∃ b, e2 = .returned (.bool b)) ∧ Hid (RSK.At w3 R V2 (s.send (msgTo 0 6 (digitsB e))) ∧ Turn (RSK.F R V s) w w3 ∧ ∀ g, RSK.F R V2 (s.send (msgTo 0 6 (digitsB e))) g → RSK.F R V s g ∨ w.heap.size ≤ g) ∧ (w3.cell? ⟨R, 2, none⟩ = some (.bool s.closed) ∧ w3.cell? ⟨R, 3, none⟩ = some (.int .i64 (s.why : Int)) ∧ w3.cell? ⟨R, 8, none⟩ = some V2.h ∧ w3.cell? ⟨R, 0, none⟩ = some V2.i) ∧ (w3.frozen? ⟨R, 2, none⟩ = false ∧ w3.frozen? ⟨R, 3, none⟩ = false ∧ w3.frozen? ⟨R, 8, none⟩ = false ∧ w3.frozen? ⟨R, 0, none⟩ = false)) (fun e2 w3 hp => by
      obtain ⟨V2, he2, ha, ht, hn⟩ := rs_sent (StAt.below h hb) hp
      exact ⟨V2, ⟨_, he2⟩, Lib.hid ⟨ha, (Turn.of_below hb).trans (ht.weak (fun g hg => .inl hg)), fun g hg => (hn g hg).imp (fun x => x) (fun x => Nat.le_trans hb.size x)⟩, ⟨(rs_cells ha).1.2.2.1, (rs_cells ha).1.2.2.2.1, (rs_cells ha).1.2.2.2.2.2.2.2.2.1, (rs_cells ha).1.1⟩, ⟨(rs_cells ha).2 2, (rs_cells ha).2 3, (rs_cells ha).2 8, (rs_cells ha).2 0⟩⟩))
  clear h hlen hsz
  go_enter Tryd.func58, Tryd.ntmps58
  go_wp2
  go_region_with (first
    | (go_at_call 75; refine (HI.out _).mono ?_; rintro ee w1 ⟨rfl, hb1⟩; have HB1 := Lib.hid (show Below w.heap.size w w1 from (show Below w.heap.size w _ from (by repeat (first | with_reducible exact Below.refl _ _ | with_reducible refine below_drewN ?_ _ | with_reducible refine Below.drew ?_ | with_reducible refine Below.alloc ?_ (by first | (simp; done) | (simp; omega)) _ | with_reducible refine Below.setCell ?_ (by first | (simp; done) | (simp; omega)) _))).trans (hb1.mono (by simp))); clear hb1)
    | (go_at_call 64; refine (HSEND.out _ ((HB1.out).trans (Below.mono (by repeat (first | with_reducible exact Below.refl _ _ | with_reducible refine below_drewN ?_ _ | with_reducible refine Below.drew ?_ | with_reducible refine Below.alloc ?_ (by first | (simp; done) | (simp; omega)) _ | with_reducible refine Below.setCell ?_ (by first | (simp; done) | (simp; omega)) _)) HB1.out.size))).mono ?_; rintro ee w2 ⟨V2, ⟨bb, rfl⟩, HF, ⟨d2, d3, d8, d0⟩, ⟨f2, f3, f8, f0⟩⟩))
  all_goals (
    go_wp2
    go_end0
    have hs := rs_shut HF.out.1 e
    exact EK.seq HF.out.2.1 HF.out.2.2 ⟨⟨.slice none 0 0, V2.o, .slice none 0 0⟩, rfl, hs.1, hs.2.weak (fun g hg => .inl hg), fun g hg => by
      rcases hg with hg | ⟨p, hp, hg⟩
      · exact .inl (.inl hg)
      · simp only [RSK, rsParts, List.mem_cons, List.not_mem_nil, or_false] at hp
        rcases hp with rfl | rfl | rfl
        · cases hg
        · exact .inl (.inr ⟨_, .tail _ (.head _), hg⟩)
        · cases hg⟩)
end Go.Proofs.YtkpickojeghppaaDoor
