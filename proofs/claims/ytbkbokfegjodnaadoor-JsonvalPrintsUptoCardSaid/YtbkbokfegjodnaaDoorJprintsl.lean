/- The walk of the law JsonvalPrints. Conditions: what lies in the package-level variables; what a tree holds is at most 2 to the 40. -/
import Derived.Test.YtbkbokfegjodnaaDoorJbackl
import Derived.Test.YtbkbokfegjodnaaDoorRprint
import Derived.Lib.QuietBelow
namespace Go.Proofs.YtbkbokfegjodnaaDoor
open Go.RowKit
theorem lnumB (e : Int) (w : World) : Calls Tryd.prog 14 #[.int .i64 e] w fun r w' => r = .returned (.int .i64 e) ∧ Below w.heap.size w w' := by
  refine (lnum_c e w).mono ?_
  rintro r w' ⟨rfl, rfl⟩
  exact ⟨rfl, Below.refl _ _⟩
set_option maxRecDepth 20000 in
set_option maxHeartbeats 16000000 in
theorem jsonvalPrints_c (t : JV) (cs : List Value) (w : World) (ok : Nat → Prop) (hr : Rep w ok t cs) (hbt : t.bulk ≤ 1099511627776) (hT : JTabs w) :
    Calls Tryd.prog 9 #[.agg cs.toArray] w fun r w' => r = .returned (.bool true) ∧ Below w.heap.size w w' := by
  obtain ⟨an, cn, ai, ci, rfl⟩ := hr.form
  obtain ⟨a0, a1, a2, a3, a4⟩ := cells5 w (.int .i64 t.kind) (.int .i64 t.int) (.string t.text) (.slice an t.names.length cn) (.slice ai t.items.length ci) 28
  have hb0 := box_new w t an cn ai ci
  have HRt_0 := Lib.hid (hr.below hb0)
  have HT_0 := Lib.hid (hT.below hb0)
  have HB_0 := Lib.hid hb0
  clear hr hT hb0
  have a0_0 := a0
  have a1_0 := a1
  have a2_0 := a2
  have a3_0 := a3
  have a4_0 := a4
  clear a0 a1 a2 a3 a4
  have hl := large_t t an ai cn ci (w.alloc (.cells #[.int .i64 t.kind, .int .i64 t.int, .string t.text, .slice an t.names.length cn, .slice ai t.items.length ci] 28)) ok HRt_0.out hbt
  go_enter Tryd.func9, Tryd.ntmps9
  go_wp2_with fail
  refine hl.mono ?_; rintro e w1 ⟨rfl, hb1⟩
  have a0_1 := cell_below hb1 a0_0
  have a1_1 := cell_below hb1 a1_0
  have a2_1 := cell_below hb1 a2_0
  have a3_1 := cell_below hb1 a3_0
  have a4_1 := cell_below hb1 a4_0
  have HRt_1 := Lib.hid (HRt_0.out.below hb1)
  have HT_1 := Lib.hid (HT_0.out.below hb1)
  have HB_1 := Lib.hid (HB_0.out.trans (hb1.mono HB_0.out.size))
  clear a0_0 a1_0 a2_0 a3_0 a4_0 HRt_0 HT_0 HB_0 hl hb1
  cases hlt : largeB t with
  | true =>
    clear hlt
    go_wp2
    go_ret
    exact ⟨rfl, HB_1.out⟩
  | false =>
    clear hlt
    have hc := copy_t t an ai cn ci w1 ok HRt_1.out hbt
    go_wp2_with fail
    refine hc.mono ?_; rintro e w2 ⟨gn, gc, gi, gd, rfl, hrc, hbc⟩
    have hbx := box_new w2 t gn gc gi gd
    have hbcx := below_trans hbc hbx
    obtain ⟨n0, n1, n2, n3, n4⟩ := cells5 w2 (.int .i64 t.kind) (.int .i64 t.int) (.string t.text) (.slice gn t.names.length gc) (.slice gi t.items.length gd) 28
    have a0_2 := cell_below hbcx a0_1
    have a1_2 := cell_below hbcx a1_1
    have a2_2 := cell_below hbcx a2_1
    have a3_2 := cell_below hbcx a3_1
    have a4_2 := cell_below hbcx a4_1
    have HRt_2 := Lib.hid (HRt_1.out.below hbcx)
    have HT_2 := Lib.hid (HT_1.out.below hbcx)
    have HB_2 := Lib.hid (HB_1.out.trans (hbcx.mono HB_1.out.size))
    clear a0_1 a1_1 a2_1 a3_1 a4_1 HRt_1 HT_1 HB_1 hc
    have HRg_2 := Lib.hid (hrc.below hbx)
    clear hrc hbc hbx hbcx
    have g0_2 := n0
    have g1_2 := n1
    have g2_2 := n2
    have g3_2 := n3
    have g4_2 := n4
    clear n0 n1 n2 n3 n4
    have hp := print_t t gn gi gc gd (w2.alloc (.cells #[.int .i64 t.kind, .int .i64 t.int, .string t.text, .slice gn t.names.length gc, .slice gi t.items.length gd] 28)) _ HRg_2.out hbt HT_2.out
    have hq := fun (W : World) (hR : Rep W ok t [.int .i64 t.kind, .int .i64 t.int, .string t.text, .slice an t.names.length cn, .slice ai t.items.length ci]) => refPrint_c t hbt _ W ok hR
    have HQ := Lib.hid hq
    clear hq
    generalize (⟨(jprint t).1.toArray⟩ : ByteArray) = s1 at *
    generalize (jprint t).2 = e1 at *
    go_wp2_with fail
    refine hp.mono ?_; rintro e w3 ⟨rfl, hbp⟩
    have a0_3 := cell_below hbp a0_2
    have a1_3 := cell_below hbp a1_2
    have a2_3 := cell_below hbp a2_2
    have a3_3 := cell_below hbp a3_2
    have a4_3 := cell_below hbp a4_2
    have g0_3 := cell_below hbp g0_2
    have g1_3 := cell_below hbp g1_2
    have g2_3 := cell_below hbp g2_2
    have g3_3 := cell_below hbp g3_2
    have g4_3 := cell_below hbp g4_2
    have HRt_3 := Lib.hid (HRt_2.out.below hbp)
    have HRg_3 := Lib.hid (HRg_2.out.below hbp)
    have HT_3 := Lib.hid (HT_2.out.below hbp)
    have HB_3 := Lib.hid (HB_2.out.trans (hbp.mono HB_2.out.size))
    clear a0_2 a1_2 a2_2 a3_2 a4_2 g0_2 g1_2 g2_2 g3_2 g4_2 HRt_2 HRg_2 HT_2 HB_2 hp hbp
    have hp := HQ.out w3 HRt_3.out
    go_wp2_with fail
    refine hp.mono ?_; rintro e w4 ⟨rfl, hbp⟩
    have a0_4 := cell_below hbp a0_3
    have a1_4 := cell_below hbp a1_3
    have a2_4 := cell_below hbp a2_3
    have a3_4 := cell_below hbp a3_3
    have a4_4 := cell_below hbp a4_3
    have g0_4 := cell_below hbp g0_3
    have g1_4 := cell_below hbp g1_3
    have g2_4 := cell_below hbp g2_3
    have g3_4 := cell_below hbp g3_3
    have g4_4 := cell_below hbp g4_3
    have HRt_4 := Lib.hid (HRt_3.out.below hbp)
    have HRg_4 := Lib.hid (HRg_3.out.below hbp)
    have HT_4 := Lib.hid (HT_3.out.below hbp)
    have HB_4 := Lib.hid (HB_3.out.trans (hbp.mono HB_3.out.size))
    clear a0_3 a1_3 a2_3 a3_3 a4_3 g0_3 g1_3 g2_3 g3_3 g4_3 HRt_3 HRg_3 HT_3 HB_3 hp hbp
    clear HQ
    go_wp2_with fail
    have Pa0 := cell_regrown (w := w4) a0_4
    have Pa1 := cell_regrown (w := w4) a1_4
    have Pa2 := cell_regrown (w := w4) a2_4
    have Pa3 := cell_regrown (w := w4) a3_4
    have Pa4 := cell_regrown (w := w4) a4_4
    have Pg0 := cell_regrown (w := w4) g0_4
    have Pg1 := cell_regrown (w := w4) g1_4
    have Pg2 := cell_regrown (w := w4) g2_4
    have Pg3 := cell_regrown (w := w4) g3_4
    have Pg4 := cell_regrown (w := w4) g4_4
    have k1 := fun (d : Nat) (os : Array Obj) => regB (lnumB e1 (Sort.grow (redrawn w4 d) os))
    have k2 := fun (d : Nat) (os : Array Obj) => regB (lnumB (chk t 0) (Sort.grow (redrawn w4 d) os))
    have k3 := fun (d : Nat) (os : Array Obj) => regB (check_c t hbt _ (Sort.grow (redrawn w4 d) os) _ (HRg_4.out.below (below_regrown w4 d os)) (HT_4.out.below (below_regrown w4 d os)).utf)
    have k4 := fun (d : Nat) (os : Array Obj) => regB (refCheck_c t hbt _ (Sort.grow (redrawn w4 d) os) _ (HRt_4.out.below (below_regrown w4 d os)))
    have k5 := fun (d : Nat) (os : Array Obj) => regB (size_c t hbt _ (Sort.grow (redrawn w4 d) os) _ (HRg_4.out.below (below_regrown w4 d os)) (HT_4.out.below (below_regrown w4 d os)))
    have k6 := fun (d : Nat) (os : Array Obj) => regB (refSize_c t hbt _ (Sort.grow (redrawn w4 d) os) _ (HRt_4.out.below (below_regrown w4 d os)))
    have k7 := fun (d : Nat) (os : Array Obj) => regB (depth_c t hbt _ (Sort.grow (redrawn w4 d) os) _ (HRg_4.out.below (below_regrown w4 d os)))
    have k8 := fun (d : Nat) (os : Array Obj) => regB (refDepth_c t hbt _ (Sort.grow (redrawn w4 d) os) _ (HRt_4.out.below (below_regrown w4 d os)))
    have k9 := fun (d : Nat) (os : Array Obj) => regB (equal_c t t _ _ (Sort.grow (redrawn w4 d) os) _ _ (HRg_4.out.below (below_regrown w4 d os)) (HRt_4.out.below (below_regrown w4 d os)))
    have k0 := fun (d : Nat) (os : Array Obj) => regB (live_c (Sort.grow (redrawn w4 d) os) (HT_4.out.below (below_regrown w4 d os)))
    simp only [same_self] at k9
    generalize chk t 0 = c at *
    generalize jsize t = z at *
    generalize depthJ t = dd at *
    refine wp_region_quiet_below (by kernel_rfl) (by kernel_rfl) ?_
    repeat (go_big_quiet_step (first | (go_at_call 14; first | with_reducible exact k1 _ _ | with_reducible exact k2 _ _) | (go_at_call 25; with_reducible exact k3 _ _) | (go_at_call 26; with_reducible exact k4 _ _) | (go_at_call 27; with_reducible exact k5 _ _) | (go_at_call 28; with_reducible exact k6 _ _) | (go_at_call 29; with_reducible exact k7 _ _) | (go_at_call 30; with_reducible exact k8 _ _) | (go_at_call 18; with_reducible exact k9 _ _) | (go_at_call 15; with_reducible exact k0 _ _)))
    refine wpQuiet_nil ?_
    intro _ hw'
    obtain ⟨⟨dq, osq⟩, hw''⟩ := hw'
    subst hw''
    go_wp2
    go_ret
    exact ⟨rfl, HB_4.out.trans ((below_regrown w4 dq osq).mono HB_4.out.size)⟩
end Go.Proofs.YtbkbokfegjodnaaDoor
