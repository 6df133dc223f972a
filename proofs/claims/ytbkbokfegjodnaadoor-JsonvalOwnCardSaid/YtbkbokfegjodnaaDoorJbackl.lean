/- The walk of the law JsonvalBack. Conditions: what lies in the package-level variables; what a tree holds is at most 2 to the 40. -/
import Derived.Test.YtbkbokfegjodnaaDoorJforml
import Derived.Test.YtbkbokfegjodnaaDoorCopyw
namespace Go.Proofs.YtbkbokfegjodnaaDoor
open Go.RowKit
theorem large_t (t : JV) (an ai : Option Addr) (cn ci : Nat) (w : World) (ok : Nat → Prop) (hr : Rep w ok t [.int .i64 t.kind, .int .i64 t.int, .string t.text, .slice an t.names.length cn, .slice ai t.items.length ci]) (hb : t.bulk ≤ 1099511627776) :
    Calls Tryd.prog 19 #[.agg #[.int .i64 t.kind, .int .i64 t.int, .string t.text, .slice an t.names.length cn, .slice ai t.items.length ci]] w fun e w' => e = .returned (.bool (largeB t)) ∧ Below w.heap.size w w' := by
  cases t with
  | mk k n s ns is => exact large_c k n s ns is _ w ok hr hb
theorem copy_t (t : JV) (an ai : Option Addr) (cn ci : Nat) (w : World) (ok : Nat → Prop) (hr : Rep w ok t [.int .i64 t.kind, .int .i64 t.int, .string t.text, .slice an t.names.length cn, .slice ai t.items.length ci]) (hb : t.bulk ≤ 1099511627776) :
    Calls Tryd.prog 21 #[.agg #[.int .i64 t.kind, .int .i64 t.int, .string t.text, .slice an t.names.length cn, .slice ai t.items.length ci]] w (CopyPost w t) := copy_c t _ w ok hr hb
theorem print_t (t : JV) (an ai : Option Addr) (cn ci : Nat) (w : World) (ok : Nat → Prop) (hr : Rep w ok t [.int .i64 t.kind, .int .i64 t.int, .string t.text, .slice an t.names.length cn, .slice ai t.items.length ci]) (hb : t.bulk ≤ 1099511627776) (hT : JTabs w) :
    Calls Tryd.prog 20 #[.agg #[.int .i64 t.kind, .int .i64 t.int, .string t.text, .slice an t.names.length cn, .slice ai t.items.length ci]] w fun e w' => e = .returned (.tuple #[.string ⟨(jprint t).1.toArray⟩, .int .i64 (jprint t).2]) ∧ Below w.heap.size w w' := print_c t hb _ w ok hr hT
theorem jprint_cases (t : JV) : (∃ e : Int, jprint t = ([], e) ∧ (e == 0) = false) ∨ (jprint t = (jput t, 0) ∧ chk t 0 = 0 ∧ ¬ 65536 < (jput t).length) := by
  by_cases hc : chk t 0 = 0
  · by_cases hl : 65536 < (jput t).length
    · exact .inl ⟨1, jprint_long hc hl, rfl⟩
    · exact .inr ⟨jprint_ok hc hl, hc, hl⟩
  · exact .inl ⟨chk t 0, jprint_bad hc, by simpa using hc⟩
set_option maxRecDepth 20000 in
set_option maxHeartbeats 8000000 in
theorem jsonvalBack_c (t : JV) (cs : List Value) (w : World) (ok : Nat → Prop) (hr : Rep w ok t cs) (hbt : t.bulk ≤ 1099511627776) (hT : JTabs w) :
    Calls Tryd.prog 5 #[.agg cs.toArray] w fun r w' => r = .returned (.bool true) ∧ Below w.heap.size w w' := by
  obtain ⟨an, cn, ai, ci, rfl⟩ := hr.form
  obtain ⟨a0, a1, a2, a3, a4⟩ := cells5 w (.int .i64 t.kind) (.int .i64 t.int) (.string t.text) (.slice an t.names.length cn) (.slice ai t.items.length ci) 28
  have hb0 := box_new w t an cn ai ci
  have HR0 := Lib.hid (hr.below hb0)
  have HT0 := Lib.hid (hT.below hb0)
  have HB0 := Lib.hid hb0
  have hoi := rep_okI t _ hr
  clear hr hT hb0
  have hl1 := large_t t an ai cn ci _ ok HR0.out hbt
  go_enter Tryd.func5, Tryd.ntmps5
  go_wp2_with fail
  refine hl1.mono ?_; rintro e w1 ⟨rfl, hb1⟩
  have HB1 := Lib.hid (below_trans HB0.out hb1)
  have HR1 := Lib.hid (HR0.out.below hb1)
  have HT1 := Lib.hid (HT0.out.below hb1)
  have b0 := cell_below hb1 a0
  have b1 := cell_below hb1 a1
  have b2 := cell_below hb1 a2
  have b3 := cell_below hb1 a3
  have b4 := cell_below hb1 a4
  clear hl1 hb1 HB0 HR0 HT0 a0 a1 a2 a3 a4
  cases hlt : largeB t with
  | true =>
    clear hlt
    go_wp2
    go_ret
    exact ⟨rfl, HB1.out⟩
  | false =>
    clear hlt
    have hc1 := copy_t t an ai cn ci w1 ok HR1.out hbt
    go_wp2_with fail
    refine hc1.mono ?_; rintro e w2 ⟨an2, cn2, ai2, ci2, rfl, hr2, hb2⟩
    have HB2 := Lib.hid (below_trans HB1.out hb2)
    have HR2 := Lib.hid (HR1.out.below hb2)
    have HT2 := Lib.hid (HT1.out.below hb2)
    have c0 := cell_below hb2 b0
    have c1 := cell_below hb2 b1
    have c2 := cell_below hb2 b2
    have c3 := cell_below hb2 b3
    have c4 := cell_below hb2 b4
    have hp := print_t t an2 ai2 cn2 ci2 w2 _ hr2 hbt HT2.out
    clear hc1 hr2 hb2 HB1 HR1 HT1 b0 b1 b2 b3 b4
    rcases jprint_cases t with ⟨e, hj, he⟩ | ⟨hj, hck, hln⟩
    · rw [hj] at hp
      clear hj
      go_wp2_with fail
      refine hp.mono ?_; rintro e w3 ⟨rfl, hb3⟩
      have HB3 := Lib.hid (below_trans HB2.out hb3)
      have hl := live_c _ (HT2.out.below hb3)
      clear hp hb3 HB2 HT2 HR2 c0 c1 c2 c3 c4
      go_wp2_with fail
      refine (lnum_c _ _).mono ?_; rintro e w4 ⟨rfl, rfl⟩
      go_wp2_with fail
      refine hl.mono ?_; rintro e w4 ⟨rfl, hb4⟩
      have HB4 := Lib.hid (below_trans HB3.out hb4)
      clear hl hb4 HB3
      go_wp2
      go_ret
      exact ⟨rfl, HB4.out⟩
    · rw [hj] at hp
      have hjb := jback t hoi hck (by omega)
      clear hj hck hln
      go_wp2_with fail
      refine hp.mono ?_; rintro e w3 ⟨rfl, hb3⟩
      have HB3 := Lib.hid (below_trans HB2.out hb3)
      have HT3 := Lib.hid (HT2.out.below hb3)
      have HR3 := Lib.hid (HR2.out.below hb3)
      have d0 := cell_below hb3 c0
      have d1 := cell_below hb3 c1
      have d2 := cell_below hb3 c2
      have d3 := cell_below hb3 c3
      have d4 := cell_below hb3 c4
      have h2 := parse_ok (s := ⟨(jput t).toArray⟩) (by rw [back_list]; exact hjb) w3 HT3.out
      clear hp hb3 HB2 HT2 HR2 c0 c1 c2 c3 c4 hjb
      go_wp2_with fail
      refine (lnum_c _ _).mono ?_; rintro e w4 ⟨rfl, rfl⟩
      go_wp2_with fail
      refine h2.mono ?_; rintro e w4 ⟨bn, dn, bi, di, rfl, hr4, hb4⟩
      have hb5 := box_new w4 t bn dn bi di
      obtain ⟨x0, x1, x2, x3, x4⟩ := cells5 w4 (.int .i64 t.kind) (.int .i64 t.int) (.string t.text) (.slice bn t.names.length dn) (.slice bi t.items.length di) 28
      have hB5 := below_trans hb4 hb5
      have f0 := cell_below hB5 d0
      have f1 := cell_below hB5 d1
      have f2 := cell_below hB5 d2
      have f3 := cell_below hB5 d3
      have f4 := cell_below hB5 d4
      have HT5 := Lib.hid (HT3.out.below hB5)
      have HB5 := Lib.hid (below_trans HB3.out hB5)
      have heq := equal_c t t _ _ _ _ _ (HR3.out.below hB5) (hr4.below hb5)
      rw [same_self] at heq
      clear h2 hr4 hb4 hb5 hB5 HB3 HT3 HR3 d0 d1 d2 d3 d4
      go_wp2_with fail
      refine (lnum_c _ _).mono ?_; rintro e w7 ⟨rfl, rfl⟩
      go_wp2_with fail
      refine heq.mono ?_; rintro e w7 ⟨rfl, hb7⟩
      have hl := live_c _ (HT5.out.below hb7)
      have HB7 := Lib.hid (below_trans HB5.out hb7)
      clear heq hb7 HB5 HT5 f0 f1 f2 f3 f4 x0 x1 x2 x3 x4
      go_wp2_with fail
      refine hl.mono ?_; rintro e w8 ⟨rfl, hb8⟩
      have HB8 := Lib.hid (below_trans HB7.out hb8)
      clear hl hb8 HB7
      go_wp2
      go_ret
      exact ⟨rfl, HB8.out⟩
end Go.Proofs.YtbkbokfegjodnaaDoor
