/- The walks of send and taken. Conditions: what goes out is shorter than 2 to the 38. -/
import Derived.Test.YtkpickojeghppaaDoorWturn
import Derived.Test.YtkpickojeghppaaDoorWsess
import Derived.Test.YtkpickojeghppaaDoorWrun
import Derived.Laws.EntriesVeiled
namespace Go.Proofs.YtkpickojeghppaaDoor
open Go.RowKit
theorem src_bslab {w : World} {v : Value} {l : List UInt8} (h : BSlab w v l) : Src Tryd.prog 1 28 v l.length (bytesV l) w := by
  have hl := h.1
  rcases h.2 with ⟨rfl, h0⟩ | ⟨g, off, cap, rfl, h1, h2, h3, h4, h5⟩
  · obtain rfl : l = [] := List.eq_nil_of_length_eq_zero h0
    exact Src.ofNil w bytTy.slice 0
  · exact Src.ofSlice w bytTy.slice _ _ _ _ hl (fun j u hj => by rw [Addr.add_mid]; exact h4 j u hj) (fun u hu => by
      simp only [bytesV, List.mem_map] at hu
      obtain ⟨c, _, rfl⟩ := hu
      rfl)
/-- what send comes to: the block R is as it was but for what goes out -/
def SendPost (R : Nat) (cs : Array Value) (T : TypeId) (vo : Value) (out : List UInt8) (m : WMsg) (w : World) (e : Ending) (w' : World) : Prop :=
  ∃ vo', e = .returned (.int .i64 (packE m : Int)) ∧ BSlab w' vo' (out ++ packL m) ∧ w'.heap[R]? = some (.cells (cs.setIfInBounds 1 vo') T (0, 0)) ∧ Turn (fun g => g = R ∨ vo.ownBlock = some g) w w' ∧ ∀ g, vo'.ownBlock = some g → vo.ownBlock = some g ∨ w.heap.size ≤ g
theorem packL_len (m : WMsg) : (packL m).length ≤ 131072 := by
  unfold packL
  split
  · rename_i h
    have hs : m.size ≤ 131072 := by
      unfold packE at h
      split at h
      · cases h
      · split at h
        · cases h
        · omega
    have hA : (packA m).length = 24 + m.body.size := by rw [packA_eq]; simp [fours_len, magicL]; omega
    unfold packed
    unfold WMsg.size at hs
    split
    · rename_i hsum
      rw [if_pos hsum] at hs
      rw [List.length_append, four_len, hA]; omega
    · rename_i hsum
      rw [if_neg hsum] at hs
      rw [hA]; omega
  · simp
set_option maxRecDepth 20000 in
set_option maxHeartbeats 4000000 in
theorem send_c (R : Nat) (cs : Array Value) (T : TypeId) (vo : Value) (out : List UInt8) (sums : Bool) (m : WMsg) (hm : MsgOk m) (hlen : out.length ≤ 274877906944) (w : World)
    (hR : w.heap[R]? = some (.cells cs T (0, 0))) (h1 : cs[1]? = some vo) (h5 : cs[5]? = some (.bool sums)) (ho : BSlab w vo out) (hne : vo.ownBlock ≠ some R) :
    Calls Tryd.prog 62 #[.pointer (some ⟨R, 0, none⟩), .agg (msgV m).toArray] w (SendPost R cs T vo out (m.summed sums) w) := by
  obtain ⟨id, to, kind, body, s0⟩ := m
  have hRl : R < w.heap.size := (Array.getElem?_eq_some_iff.1 hR).1
  have hm2 : MsgOk ⟨id, to, kind, body, sums⟩ := hm
  show Calls Tryd.prog 62 #[.pointer (some ⟨R, 0, none⟩), .agg #[.int .u32 (id : Int), .int .u32 (to : Int), .int .i64 kind, .string body, .bool s0]] w (SendPost R cs T vo out ⟨id, to, kind, body, sums⟩ w)
  have hb0 : Below w.heap.size w (w.alloc (.cells #[.int .u32 (id : Int), .int .u32 (to : Int), .int .i64 kind, .string body, .bool sums] 27)) := (Below.refl _ _).alloc (Nat.le_refl _) _
  have hne0 : R ≠ w.heap.size := by omega
  have c5 : w.cell? ⟨R, 5, none⟩ = some (.bool sums) := (cell_of_row _ _ _ _ _ _ hR).trans h5
  have hR1 : (w.alloc (.cells #[.int .u32 (id : Int), .int .u32 (to : Int), .int .i64 kind, .string body, .bool sums] 27)).heap[R]? = some (.cells cs T (0, 0)) := (hb0.block R hRl).trans hR
  have hpk := pack_c ⟨id, to, kind, body, sums⟩ hm2 (w.alloc (.cells #[.int .u32 (id : Int), .int .u32 (to : Int), .int .i64 kind, .string body, .bool sums] 27))
  have hpk' : Calls Tryd.prog 13 #[.agg #[.int .u32 (id : Int), .int .u32 (to : Int), .int .i64 kind, .string body, .bool sums]] (w.alloc (.cells #[.int .u32 (id : Int), .int .u32 (to : Int), .int .i64 kind, .string body, .bool sums] 27)) (PackPost ⟨id, to, kind, body, sums⟩ (w.alloc (.cells #[.int .u32 (id : Int), .int .u32 (to : Int), .int .i64 kind, .string body, .bool sums] 27))) := hpk
  have HP := Lib.hid hpk'
  have HB0 := Lib.hid hb0
  have HR := Lib.hid hR1
  have HO := Lib.hid ho
  have H1 := Lib.hid h1
  have HNE := Lib.hid hne
  have HR0 := Lib.hid hR
  have hpl := packL_len ⟨id, to, kind, body, sums⟩
  clear hpk hpk' hb0 hR1 ho h1 hne hR h5 hm hm2
  go_enter Tryd.func62, Tryd.ntmps62
  go_wp2_with fail
  refine HP.out.mono ?_; rintro e w2 ⟨v, rfl, hs, hb, hn⟩
  clear HP
  have hR2 := (hb.block R (by simp; omega)).trans HR.out
  have c1 : w2.cell? ⟨R, 1, none⟩ = some vo := (cell_of_row _ _ _ _ _ _ hR2).trans H1.out
  have f1 : w2.frozen? ⟨R, 1, none⟩ = false := frozen_of_row _ _ _ _ _ hR2
  have HB2 := Lib.hid (HB0.out.trans (hb.mono (by simp)))
  have HO2 := Lib.hid (Slab.below HO.out HB2.out)
  have HR2 := Lib.hid hR2
  have HS := Lib.hid hs
  clear hs hb hn hR2 c5
  by_cases hE : packE ⟨id, to, kind, body, sums⟩ = 0
  · have HE := Lib.hid hE
    have hEb : ((packE ⟨id, to, kind, body, sums⟩ : Int) == 0) = true := by rw [hE]; rfl
    clear hE
    go_wp2_with (at_builtin; refine wpList_slab bytTy 28 (by rfl) _ _ (by rfl) vo out.length (bytesV out) (by rfl) HO2.out v (by rfl) (packL ⟨id, to, kind, body, sums⟩).length (bytesV (packL ⟨id, to, kind, body, sums⟩)) (src_bslab HS.out) (by unfold maxLen; omega) (by omega) ?_; intro vo2 w3 hs3 hu3; have HS3 := Lib.hid (show BSlab w3 vo2 (out ++ packL ⟨id, to, kind, body, sums⟩) by unfold BSlab; rw [bytesV_append, List.length_append]; exact hs3); have HU3 := Lib.hid hu3; have hR3 := (hu3.block (k := R) (Nat.lt_of_lt_of_le hRl HB2.out.size) HNE.out).trans HR2.out; have d1 := (cell_of_row _ _ 1 _ _ _ hR3).trans H1.out; have g1 := frozen_of_row _ _ 1 _ _ hR3; have HR3 := Lib.hid hR3; obtain ⟨A2, cap2, hv2, _⟩ := Slab.form hs3; subst hv2; clear hs3 hu3 hR3 c1 f1)
    go_ret
    have hn2 : ∀ g, (Value.slice A2 (out.length + (packL ⟨id, to, kind, body, sums⟩).length) cap2).ownBlock = some g → vo.ownBlock = some g ∨ w.heap.size ≤ g := fun g hg => by
      rcases HU3.out.own with h | ⟨q, h, hq⟩
      · left; rw [← h]; exact hg
      · right; rw [h] at hg; have := Option.some.inj hg; have := HB2.out.size; omega
    have hneR : ∀ g, (Value.slice A2 (out.length + (packL ⟨id, to, kind, body, sums⟩).length) cap2).ownBlock = some g → g ≠ R := fun g hg e => by
      subst e
      rcases hn2 g hg with h | h
      · exact HNE.out h
      · omega
    refine ⟨_, rfl, Slab.same HS3.out (fun g hg => heap_setCell_other _ _ _ _ (hneR g hg)), heap_setCell_same _ _ _ _ _ _ HR3.out, ?_, hn2⟩
    exact (((Turn.of_below HB2.out).upd HU3.out (fun g hg => .inl (.inr hg)))).set (.inl (.inl rfl)) 1 _
  · have hEb : ((packE ⟨id, to, kind, body, sums⟩ : Int) == 0) = false := by rw [beq_eq_false_iff_ne]; omega
    have HL := Lib.hid (show packL ⟨id, to, kind, body, sums⟩ = [] from if_neg hE)
    clear hE
    go_wp2
    go_ret
    refine ⟨vo, rfl, by rw [HL.out, List.append_nil]; exact HO2.out, by rw [set_same H1.out]; exact HR2.out, Turn.of_below HB2.out, fun g hg => .inl hg⟩
set_option maxHeartbeats 1000000 in
/-- taken: what went out; nothing is left -/
theorem taken_c (R : Nat) (cs : Array Value) (T : TypeId) (vo : Value) (w : World) (hR : w.heap[R]? = some (.cells cs T (0, 0))) (h1 : cs[1]? = some vo) :
    Calls Tryd.prog 66 #[.pointer (some ⟨R, 0, none⟩)] w fun e w' => e = .returned vo ∧ w'.heap[R]? = some (.cells (cs.setIfInBounds 1 (.slice none 0 0)) T (0, 0)) ∧ Turn (fun g => g = R) w w' := by
  have c1 : w.cell? ⟨R, 1, none⟩ = some vo := (cell_of_row _ _ _ _ _ _ hR).trans h1
  have f1 : w.frozen? ⟨R, 1, none⟩ = false := frozen_of_row _ _ _ _ _ hR
  have HR := Lib.hid hR
  clear hR h1
  go_enter Tryd.func66, Tryd.ntmps66
  go_wp2
  go_ret
  exact ⟨rfl, heap_setCell_same _ _ _ _ _ _ HR.out, (Turn.refl (fun g => g = R) w).set (.inl rfl) 1 _⟩
end Go.Proofs.YtkpickojeghppaaDoor
