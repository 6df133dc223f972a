/- The walks of the document's ends: goes, Sent. Conditions: what goes out is shorter than 2 to the 38. -/
import Derived.Test.YtkpickojeghppaaDoorBase
import Derived.Test.YtkpickojeghppaaDoorServ
namespace Go.Proofs.YtkpickojeghppaaDoor
open Go.RowKit
def goesB (m : WMsg) : Bool := packE m == 0
def GoesPost (R : Nat) (cs : Array Value) (T : TypeId) (vo : Value) (out : List UInt8) (m : WMsg) (w : World) (e : Ending) (w' : World) : Prop :=
  ∃ vo', e = .returned (.bool (goesB m)) ∧ BSlab w' vo' (out ++ packL m) ∧ w'.heap[R]? = some (.cells (cs.setIfInBounds 1 vo') T (0, 0)) ∧ Turn (fun g => g = R ∨ vo.ownBlock = some g) w w' ∧ ∀ g, vo'.ownBlock = some g → vo.ownBlock = some g ∨ w.heap.size ≤ g
set_option maxRecDepth 20000 in
set_option maxHeartbeats 4000000 in
theorem goes_c (R : Nat) (cs : Array Value) (T : TypeId) (vo : Value) (out : List UInt8) (sums : Bool) (m : WMsg) (hm : MsgOk m) (hlen : out.length ≤ 274877906944) (w : World)
    (hR : w.heap[R]? = some (.cells cs T (0, 0))) (h1 : cs[1]? = some vo) (h5 : cs[4]? = some (.bool sums)) (ho : BSlab w vo out) (hne : vo.ownBlock ≠ some R) :
    Calls Tryd.prog 64 #[.pointer (some ⟨R, 0, none⟩), .agg (msgV m).toArray] w (GoesPost R cs T vo out (m.summed sums) w) := by
  obtain ⟨id, to, kind, body, s0⟩ := m
  have hRl : R < w.heap.size := (Array.getElem?_eq_some_iff.1 hR).1
  have hm2 : MsgOk ⟨id, to, kind, body, sums⟩ := hm
  show Calls Tryd.prog 64 #[.pointer (some ⟨R, 0, none⟩), .agg #[.int .u32 (id : Int), .int .u32 (to : Int), .int .i64 kind, .string body, .bool s0]] w (GoesPost R cs T vo out ⟨id, to, kind, body, sums⟩ w)
  have hb0 : Below w.heap.size w (w.alloc (.cells #[.int .u32 (id : Int), .int .u32 (to : Int), .int .i64 kind, .string body, .bool sums] 27)) := (Below.refl _ _).alloc (Nat.le_refl _) _
  have hne0 : R ≠ w.heap.size := by omega
  have c5 : w.cell? ⟨R, 4, none⟩ = some (.bool sums) := (cell_of_row _ _ _ _ _ _ hR).trans h5
  have hR1 : (w.alloc (.cells #[.int .u32 (id : Int), .int .u32 (to : Int), .int .i64 kind, .string body, .bool sums] 27)).heap[R]? = some (.cells cs T (0, 0)) := (hb0.block R hRl).trans hR
  have hpk := refPack_c ⟨id, to, kind, body, sums⟩ hm2 (w.alloc (.cells #[.int .u32 (id : Int), .int .u32 (to : Int), .int .i64 kind, .string body, .bool sums] 27))
  have hpk' : Calls Tryd.prog 14 #[.agg #[.int .u32 (id : Int), .int .u32 (to : Int), .int .i64 kind, .string body, .bool sums]] (w.alloc (.cells #[.int .u32 (id : Int), .int .u32 (to : Int), .int .i64 kind, .string body, .bool sums] 27)) (PackPost ⟨id, to, kind, body, sums⟩ (w.alloc (.cells #[.int .u32 (id : Int), .int .u32 (to : Int), .int .i64 kind, .string body, .bool sums] 27))) := hpk
  have HP := Lib.hid hpk'
  have HB0 := Lib.hid hb0
  have HR := Lib.hid hR1
  have HO := Lib.hid ho
  have H1 := Lib.hid h1
  have HNE := Lib.hid hne
  have HR0 := Lib.hid hR
  have hpl := packL_len ⟨id, to, kind, body, sums⟩
  clear hpk hpk' hb0 hR1 ho h1 hne hR h5 hm hm2
  go_enter Tryd.func64, Tryd.ntmps64
  go_wp2_with fail
  refine HP.out.mono ?_; rintro e w2 ⟨v, rfl, hs, hb, hn⟩
  clear HP
  have hR2 := (hb.block R (by simp; omega)).trans HR.out
  have c1 : w2.cell? ⟨R, 1, none⟩ = some vo := (cell_of_row _ _ _ _ _ _ hR2).trans H1.out
  have f1 : w2.frozen? ⟨R, 1, none⟩ = false := frozen_of_row _ _ _ _ _ hR2
  have HB2 := Lib.hid (HB0.out.trans (hb.mono (by simp)))
  have HO2 := Lib.hid (Slab.below HO.out HB2.out)
  have HR2 := Lib.hid hR2
  have HS := Lib.hid hs
  clear hs hb hn hR2 c5
  by_cases hE : packE ⟨id, to, kind, body, sums⟩ = 0
  · have HE := Lib.hid hE
    have hEb : ((packE ⟨id, to, kind, body, sums⟩ : Int) != 0) = false := by rw [hE]; rfl
    have HGT := Lib.hid (show goesB ⟨id, to, kind, body, sums⟩ = true by unfold goesB; rw [hE]; rfl)
    clear hE
    go_wp2_with (at_builtin; refine wpList_slab bytTy 28 (by rfl) _ _ (by rfl) vo out.length (bytesV out) (by rfl) HO2.out v (by rfl) (packL ⟨id, to, kind, body, sums⟩).length (bytesV (packL ⟨id, to, kind, body, sums⟩)) (src_bslab HS.out) (by unfold maxLen; omega) (by omega) ?_; intro vo2 w3 hs3 hu3; have HS3 := Lib.hid (show BSlab w3 vo2 (out ++ packL ⟨id, to, kind, body, sums⟩) by unfold BSlab; rw [bytesV_append, List.length_append]; exact hs3); have HU3 := Lib.hid hu3; have hR3 := (hu3.block (k := R) (Nat.lt_of_lt_of_le hRl HB2.out.size) HNE.out).trans HR2.out; have d1 := (cell_of_row _ _ 1 _ _ _ hR3).trans H1.out; have g1 := frozen_of_row _ _ 1 _ _ hR3; have HR3 := Lib.hid hR3; obtain ⟨A2, cap2, hv2, _⟩ := Slab.form hs3; subst hv2; clear hs3 hu3 hR3 c1 f1)
    go_ret
    have hn2 : ∀ g, (Value.slice A2 (out.length + (packL ⟨id, to, kind, body, sums⟩).length) cap2).ownBlock = some g → vo.ownBlock = some g ∨ w.heap.size ≤ g := fun g hg => by
      rcases HU3.out.own with h | ⟨q, h, hq⟩
      · left; rw [← h]; exact hg
      · right; rw [h] at hg; have := Option.some.inj hg; have := HB2.out.size; omega
    have hneR : ∀ g, (Value.slice A2 (out.length + (packL ⟨id, to, kind, body, sums⟩).length) cap2).ownBlock = some g → g ≠ R := fun g hg e => by
      subst e
      rcases hn2 g hg with h | h
      · exact HNE.out h
      · omega
    refine ⟨_, by rw [HGT.out]; rfl, Slab.same HS3.out (fun g hg => heap_setCell_other _ _ _ _ (hneR g hg)), heap_setCell_same _ _ _ _ _ _ HR3.out, ?_, hn2⟩
    exact (((Turn.of_below HB2.out).upd HU3.out (fun g hg => .inl (.inr hg)))).set (.inl (.inl rfl)) 1 _
  · have hEb : ((packE ⟨id, to, kind, body, sums⟩ : Int) != 0) = true := by rw [bne_iff_ne]; omega
    have HGT := Lib.hid (show goesB ⟨id, to, kind, body, sums⟩ = false by unfold goesB; rw [beq_eq_false_iff_ne]; exact hE)
    have HL := Lib.hid (show packL ⟨id, to, kind, body, sums⟩ = [] from if_neg hE)
    clear hE
    go_wp2
    go_ret
    refine ⟨vo, by rw [HGT.out]; rfl, by rw [HL.out, List.append_nil]; exact HO2.out, by rw [set_same H1.out]; exact HR2.out, Turn.of_below HB2.out, fun g hg => .inl hg⟩
end Go.Proofs.YtkpickojeghppaaDoor
