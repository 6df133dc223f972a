/- The walks of Bytes, program and document. Conditions: the tables of package utf8 lie as their texts lay them; what a tree holds is at most 2 to the 40. -/
import Derived.Test.YtjmhoccikbgigaaDoorRefcheckw
import Derived.Test.YtjmhoccikbgigaaDoorReflaidw
namespace Go.Proofs.YtjmhoccikbgigaaDoor
open Go.RowKit
/-- a value's bytes; none where it has a fault -/
def encOf (t : JV) : List UInt8 := if chk t 0 = 0 then enc t else []
theorem encOf_len (t : JV) : (encOf t).length ≤ 10 * t.bulk := by
  have := enc_len t
  unfold encOf
  split
  · omega
  · simp
/-- what Bytes answers -/
def BytesPost (t : JV) (w : World) (e : Ending) (w' : World) : Prop :=
  ∃ v, e = .returned (.tuple #[v, .int .i64 (chk t 0)]) ∧ Byts w' v (encOf t) ∧ Below w.heap.size w w' ∧ ∀ g, v.ownBlock = some g → w.heap.size ≤ g
set_option maxHeartbeats 2000000 in
theorem bytes_c (t : JV) (hbk : t.bulk ≤ 1099511627776) (cs : List Value) (w : World) (ok : Nat → Prop) (hr : Rep w ok t cs) (hT : Lib.Utf8Tabs 0 1 w) :
    Calls Tryd.prog 20 #[.agg cs.toArray] w (BytesPost t w) := by
  obtain ⟨an, cn, ai, ci, rfl⟩ := hr.form
  have hb0 : Below w.heap.size w (w.alloc (.cells #[.int .i64 t.kind, .int .i64 t.int, .string t.text, .slice an t.names.length cn, .slice ai t.items.length ci] 28)) := (Below.refl _ _).alloc (Nat.le_refl _) _
  have hck := check_c t hbk _ (w.alloc (.cells #[.int .i64 t.kind, .int .i64 t.int, .string t.text, .slice an t.names.length cn, .slice ai t.items.length ci] 28)) ok (hr.below hb0) (utf8_below hT hb0)
  obtain ⟨a0, a1, a2, a3, a4⟩ := cells5 w (.int .i64 t.kind) (.int .i64 t.int) (.string t.text) (.slice an t.names.length cn) (.slice ai t.items.length ci) 28
  have HR := Lib.hid (hr.below hb0)
  have HB0 := Lib.hid hb0
  have HV := Lib.hid (chk_vals t 0)
  have HOK := Lib.hid (ok_chk t 0)
  have HE0 := Lib.hid (fun (h : chk t 0 = 0) => show encOf t = enc t from if_pos h)
  have HE1 := Lib.hid (fun (h : chk t 0 ≠ 0) => show encOf t = [] from if_neg h)
  unfold BytesPost
  clear hr hb0 hT
  generalize chk t 0 = c at *
  go_enter Tryd.func20, Tryd.ntmps20
  go_wp2_with fail
  refine hck.mono ?_; rintro e w1 ⟨rfl, hb1⟩
  have b0 := cell_below hb1 a0
  have b1 := cell_below hb1 a1
  have b2 := cell_below hb1 a2
  have b3 := cell_below hb1 a3
  have b4 := cell_below hb1 a4
  have HR1 := Lib.hid (HR.out.below hb1)
  have HB1 := Lib.hid (below_trans HB0.out hb1)
  clear hck hb1 a0 a1 a2 a3 a4
  by_cases hz : c = 0
  · subst hz
    have hla := laid_c t (HOK.out (by trivial)) _ w1 (.slice none 0 0) [] (Rep.kept (fun b _ _ => ⟨by simp [Value.ownBlock], rfl⟩) _ _ HR1.out) (byts_nil w1) (by simp; omega)
    go_wp2_with fail
    refine hla.mono ?_; rintro e w2 ⟨v, rfl, hv, hu⟩
    have HU := Lib.hid (And.intro hv hu)
    clear hla hv hu b0 b1 b2 b3 b4
    go_wp2
    go_ret2
    refine ⟨v, rfl, by rw [HE0.out (by trivial)]; exact HU.out.1, HB1.out.trans (HU.out.2.below HB1.out.size (fun g hg => by cases hg)), fun g hg => ?_⟩
    rcases HU.out.2.own with h | ⟨q, h, hq⟩
    · rw [h] at hg; cases hg
    · rw [h] at hg; have := Option.some.inj hg; have := HB1.out.size; omega
  · have hzb : (c != 0) = true := by simpa using hz
    have hzc : (c == 0) = false := by simpa using hz
    go_wp2
    go_ret2
    exact ⟨.slice none 0 0, rfl, by rw [HE1.out hz]; exact byts_nil _, HB1.out, fun g hg => by cases hg⟩
set_option maxHeartbeats 2000000 in
theorem refBytes_c (t : JV) (hbk : t.bulk ≤ 1099511627776) (cs : List Value) (w : World) (ok : Nat → Prop) (hr : Rep w ok t cs) :
    Calls Tryd.prog 21 #[.agg cs.toArray] w (BytesPost t w) := by
  obtain ⟨an, cn, ai, ci, rfl⟩ := hr.form
  have hb0 : Below w.heap.size w (w.alloc (.cells #[.int .i64 t.kind, .int .i64 t.int, .string t.text, .slice an t.names.length cn, .slice ai t.items.length ci] 28)) := (Below.refl _ _).alloc (Nat.le_refl _) _
  have hck := refCheck_c t hbk _ (w.alloc (.cells #[.int .i64 t.kind, .int .i64 t.int, .string t.text, .slice an t.names.length cn, .slice ai t.items.length ci] 28)) ok (hr.below hb0)
  obtain ⟨a0, a1, a2, a3, a4⟩ := cells5 w (.int .i64 t.kind) (.int .i64 t.int) (.string t.text) (.slice an t.names.length cn) (.slice ai t.items.length ci) 28
  have HR := Lib.hid (hr.below hb0)
  have HB0 := Lib.hid hb0
  have HV := Lib.hid (chk_vals t 0)
  have HOK := Lib.hid (ok_chk t 0)
  have HE0 := Lib.hid (fun (h : chk t 0 = 0) => show encOf t = enc t from if_pos h)
  have HE1 := Lib.hid (fun (h : chk t 0 ≠ 0) => show encOf t = [] from if_neg h)
  unfold BytesPost
  clear hr hb0
  generalize chk t 0 = c at *
  go_enter Tryd.func21, Tryd.ntmps21
  go_wp2_with fail
  refine hck.mono ?_; rintro e w1 ⟨rfl, hb1⟩
  have b0 := cell_below hb1 a0
  have b1 := cell_below hb1 a1
  have b2 := cell_below hb1 a2
  have b3 := cell_below hb1 a3
  have b4 := cell_below hb1 a4
  have HR1 := Lib.hid (HR.out.below hb1)
  have HB1 := Lib.hid (below_trans HB0.out hb1)
  clear hck hb1 a0 a1 a2 a3 a4
  by_cases hz : c = 0
  · subst hz
    have hla := refLaid_c t (HOK.out (by trivial)) _ w1 (.slice none 0 0) [] (Rep.kept (fun b _ _ => ⟨by simp [Value.ownBlock], rfl⟩) _ _ HR1.out) (byts_nil w1) (by simp; omega)
    go_wp2_with fail
    refine hla.mono ?_; rintro e w2 ⟨v, rfl, hv, hu⟩
    have HU := Lib.hid (And.intro hv hu)
    clear hla hv hu b0 b1 b2 b3 b4
    go_wp2
    go_ret2
    refine ⟨v, rfl, by rw [HE0.out (by trivial)]; exact HU.out.1, HB1.out.trans (HU.out.2.below HB1.out.size (fun g hg => by cases hg)), fun g hg => ?_⟩
    rcases HU.out.2.own with h | ⟨q, h, hq⟩
    · rw [h] at hg; cases hg
    · rw [h] at hg; have := Option.some.inj hg; have := HB1.out.size; omega
  · have hzb : (c != 0) = true := by simpa using hz
    have hzc : (c == 0) = false := by simpa using hz
    go_wp2
    go_ret2
    exact ⟨.slice none 0 0, rfl, by rw [HE1.out hz]; exact byts_nil _, HB1.out, fun g hg => by cases hg⟩
end Go.Proofs.YtjmhoccikbgigaaDoor
