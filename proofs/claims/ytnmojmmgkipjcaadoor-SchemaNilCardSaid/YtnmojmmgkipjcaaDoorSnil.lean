/- The walk of the law SchemaNil. Conditions: the tables of package utf8 lie as their texts lay them. -/
import Derived.Test.YtnmojmmgkipjcaaDoorLawa
namespace Go.Proofs.YtnmojmmgkipjcaaDoor
open Go.RowKit
set_option maxHeartbeats 4000000 in
theorem faultNil_c (v : JV) (vs : List Value) (w : World) (ok : Nat → Prop) (hr : Rep w ok v vs) : Calls Tryd.prog 4 #[.pointer none, .agg vs.toArray] w fun e w' => e = .returned (.tuple #[.slice none 0 0, .string ⟨#[]⟩, .bool false]) ∧ Below w.heap.size w w' := by
  obtain ⟨an, cn, ai, ci, rfl⟩ := hr.form
  clear hr
  go_enter Tryd.func4, Tryd.ntmps4
  go_wp2
  go_ret3
  exact ⟨rfl, (by repeat (first | with_reducible exact Below.refl _ _ | with_reducible refine below_drewN ?_ _ | with_reducible refine Below.drew ?_ | with_reducible refine below_set5 ?_ (by first | (simp; done) | (simp; omega)) | with_reducible refine Below.alloc ?_ (by first | (simp; done) | (simp; omega)) _ | with_reducible refine Below.setCell ?_ (by first | (simp; done) | (simp; omega)) _))⟩
set_option maxHeartbeats 4000000 in
theorem checkNil_c (v : JV) (vs : List Value) (w : World) (ok : Nat → Prop) (hr : Rep w ok v vs) : Calls Tryd.prog 8 #[.pointer none, .agg vs.toArray] w fun e w' => e = .returned (.int .i64 0) ∧ Below w.heap.size w w' := by
  have hr0 := hr
  obtain ⟨an, cn, ai, ci, rfl⟩ := hr.form
  have hb : Below w.heap.size w (w.alloc (.cells #[.int .i64 v.kind, .int .i64 v.int, .string v.text, .slice an v.names.length cn, .slice ai v.items.length ci] 28)) := (Below.refl _ _).alloc (Nat.le_refl _) _
  have HB := Lib.hid hb
  have HF := Lib.hid (faultNil_c v _ (w.alloc (.cells #[.int .i64 v.kind, .int .i64 v.int, .string v.text, .slice an v.names.length cn, .slice ai v.items.length ci] 28)) ok (hr0.below hb))
  clear hr hr0 hb
  go_enter Tryd.func8, Tryd.ntmps8
  go_wp2_with fail
  refine HF.out.mono ?_; rintro e w1 ⟨rfl, hb1⟩
  have HB1 := Lib.hid (HB.out.trans (hb1.mono HB.out.size))
  clear hb1
  go_wp2
  go_ret
  exact ⟨rfl, HB1.out⟩
set_option maxHeartbeats 8000000 in
theorem schemaNil_c (w : World) (hT : Lib.Utf8Tabs 0 1 w) : Calls Tryd.prog 3 #[] w fun e w' => e = .returned (.bool true) ∧ Below w.heap.size w w' := by
  have HT := Lib.hid hT
  clear hT
  go_enter Tryd.func3, Tryd.ntmps3
  go_wp2_with fail
  refine (number_c 1 (by omega) _ (fun _ => False)).mono ?_; rintro e w1 ⟨c1, rfl, HR1, HB1⟩
  go_wp2_with fail
  refine (faultNil_c _ _ _ _ HR1.out).mono ?_; rintro e w2 ⟨rfl, hb2⟩
  have HA2 := Lib.hid (HB1.out.trans (hb2.mono HB1.out.size))
  clear hb2
  go_wp2_with fail
  refine (live_c w2 (tabs_below HT.out HA2.out)).mono ?_; rintro e w3 ⟨rfl, hb3⟩
  have HA3 := Lib.hid (HA2.out.trans (hb3.mono HA2.out.size))
  clear hb3
  go_wp2_with fail
  refine (number_c 1 (by omega) _ (fun _ => False)).mono ?_; rintro e w4 ⟨c4, rfl, HR4, HB4⟩
  have HA4 := Lib.hid (HA3.out.trans (HB4.out.mono HA3.out.size))
  go_wp2_with fail
  refine (checkNil_c _ _ _ _ HR4.out).mono ?_; rintro e w5 ⟨rfl, hb5⟩
  have HA5 := Lib.hid (HA4.out.trans (hb5.mono HA4.out.size))
  clear hb5
  go_wp2_with (first
    | (go_at_call 7; refine (num_c 0 _).mono ?_; rintro e w' ⟨rfl, rfl⟩)
    | (go_at_call 9; refine (rulesNil_c _).mono ?_; rintro e w' ⟨rfl, rfl⟩))
  go_ret
  exact ⟨rfl, HA5.out⟩
end Go.Proofs.YtnmojmmgkipjcaaDoor
