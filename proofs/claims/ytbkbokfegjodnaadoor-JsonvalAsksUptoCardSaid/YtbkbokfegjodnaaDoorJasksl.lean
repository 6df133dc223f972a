/- The walk of the law JsonvalAsks. Conditions: what lies in the package-level variables; what a tree holds is at most 2 to the 40. -/
import Derived.Test.YtbkbokfegjodnaaDoorJbackl
import Derived.Test.YtbkbokfegjodnaaDoorHasw
namespace Go.Proofs.YtbkbokfegjodnaaDoor
open Go.RowKit
theorem has_u {t u : JV} {b : Bool} {x : ByteArray} (hu : (hasJ t x).getD (jnil 0) = u) (hb : (hasJ t x).isSome = b) (an ai : Option Addr) (cn ci : Nat) (w : World) (ok : Nat → Prop) (hr : Rep w ok t [.int .i64 t.kind, .int .i64 t.int, .string t.text, .slice an t.names.length cn, .slice ai t.items.length ci]) (hbk : t.bulk ≤ 1099511627776) :
    Calls Tryd.prog 38 #[.agg #[.int .i64 t.kind, .int .i64 t.int, .string t.text, .slice an t.names.length cn, .slice ai t.items.length ci], .string x] w fun e w' => ∃ bn dn bi di, e = .returned (.tuple #[.agg #[.int .i64 u.kind, .int .i64 u.int, .string u.text, .slice bn u.names.length dn, .slice bi u.items.length di], .bool b]) ∧
      Rep w' (fun b => w.heap.size ≤ b) u [.int .i64 u.kind, .int .i64 u.int, .string u.text, .slice bn u.names.length dn, .slice bi u.items.length di] ∧ Below w.heap.size w w' := by
  subst hu; subst hb
  exact has_c t x _ w ok hr hbk
theorem refHas_u {t u : JV} {b : Bool} {x : ByteArray} (hu : (hasJ t x).getD (jnil 0) = u) (hb : (hasJ t x).isSome = b) (an ai : Option Addr) (cn ci : Nat) (w : World) (ok : Nat → Prop) (hr : Rep w ok t [.int .i64 t.kind, .int .i64 t.int, .string t.text, .slice an t.names.length cn, .slice ai t.items.length ci]) (hbk : t.bulk ≤ 1099511627776) :
    Calls Tryd.prog 39 #[.agg #[.int .i64 t.kind, .int .i64 t.int, .string t.text, .slice an t.names.length cn, .slice ai t.items.length ci], .string x] w fun e w' => ∃ bn dn bi di, e = .returned (.tuple #[.agg #[.int .i64 u.kind, .int .i64 u.int, .string u.text, .slice bn u.names.length dn, .slice bi u.items.length di], .bool b]) ∧
      Rep w' (fun b => w.heap.size ≤ b) u [.int .i64 u.kind, .int .i64 u.int, .string u.text, .slice bn u.names.length dn, .slice bi u.items.length di] ∧ Below w.heap.size w w' := by
  subst hu; subst hb
  exact refMember_c t x _ w ok hr hbk
set_option maxRecDepth 20000 in
set_option maxHeartbeats 8000000 in
theorem jsonvalAsks_c (t : JV) (x : ByteArray) (cs : List Value) (w : World) (ok : Nat → Prop) (hr : Rep w ok t cs) (hbt : t.bulk ≤ 1099511627776) (hT : JTabs w) :
    Calls Tryd.prog 12 #[.agg cs.toArray, .string x] w fun r w' => r = .returned (.bool true) ∧ Below w.heap.size w w' := by
  obtain ⟨u, hu⟩ : ∃ u, (hasJ t x).getD (jnil 0) = u := ⟨_, rfl⟩
  obtain ⟨bb, hbb⟩ : ∃ bb, (hasJ t x).isSome = bb := ⟨_, rfl⟩
  have hbe : (bb == bb) = true := by cases bb <;> rfl
  obtain ⟨an, cn, ai, ci, rfl⟩ := hr.form
  obtain ⟨a0, a1, a2, a3, a4⟩ := cells5 w (.int .i64 t.kind) (.int .i64 t.int) (.string t.text) (.slice an t.names.length cn) (.slice ai t.items.length ci) 28
  have hb0 := box_new w t an cn ai ci
  have HRt_0 := Lib.hid (hr.below hb0)
  have HT_0 := Lib.hid (hT.below hb0)
  have HB_0 := Lib.hid hb0
  clear hr hT hb0
  have a0_0 := a0
  have a1_0 := a1
  have a2_0 := a2
  have a3_0 := a3
  have a4_0 := a4
  clear a0 a1 a2 a3 a4
  have hl := large_t t an ai cn ci (w.alloc (.cells #[.int .i64 t.kind, .int .i64 t.int, .string t.text, .slice an t.names.length cn, .slice ai t.items.length ci] 28)) ok HRt_0.out hbt
  go_enter Tryd.func12, Tryd.ntmps12
  go_wp2_with fail
  refine hl.mono ?_; rintro e w1 ⟨rfl, hb1⟩
  have a0_1 := cell_below hb1 a0_0
  have a1_1 := cell_below hb1 a1_0
  have a2_1 := cell_below hb1 a2_0
  have a3_1 := cell_below hb1 a3_0
  have a4_1 := cell_below hb1 a4_0
  have HRt_1 := Lib.hid (HRt_0.out.below hb1)
  have HT_1 := Lib.hid (HT_0.out.below hb1)
  have HB_1 := Lib.hid (HB_0.out.trans (hb1.mono HB_0.out.size))
  clear a0_0 a1_0 a2_0 a3_0 a4_0 HRt_0 HT_0 HB_0 hl hb1
  cases hlt : largeB t with
  | true =>
    clear hlt
    go_wp2
    go_ret
    exact ⟨rfl, HB_1.out⟩
  | false =>
    clear hlt
    have hc := copy_t t an ai cn ci w1 ok HRt_1.out hbt
    go_wp2_with fail
    refine hc.mono ?_; rintro e w2 ⟨gn, gc, gi, gd, rfl, hrc, hbc⟩
    have hbx := box_new w2 t gn gc gi gd
    have hbcx := below_trans hbc hbx
    obtain ⟨n0, n1, n2, n3, n4⟩ := cells5 w2 (.int .i64 t.kind) (.int .i64 t.int) (.string t.text) (.slice gn t.names.length gc) (.slice gi t.items.length gd) 28
    have a0_2 := cell_below hbcx a0_1
    have a1_2 := cell_below hbcx a1_1
    have a2_2 := cell_below hbcx a2_1
    have a3_2 := cell_below hbcx a3_1
    have a4_2 := cell_below hbcx a4_1
    have HRt_2 := Lib.hid (HRt_1.out.below hbcx)
    have HT_2 := Lib.hid (HT_1.out.below hbcx)
    have HB_2 := Lib.hid (HB_1.out.trans (hbcx.mono HB_1.out.size))
    clear a0_1 a1_1 a2_1 a3_1 a4_1 HRt_1 HT_1 HB_1 hc
    have HRg_2 := Lib.hid (hrc.below hbx)
    clear hrc hbc hbx hbcx
    have g0_2 := n0
    have g1_2 := n1
    have g2_2 := n2
    have g3_2 := n3
    have g4_2 := n4
    clear n0 n1 n2 n3 n4
    have hc := has_u hu hbb gn gi gc gd (w2.alloc (.cells #[.int .i64 t.kind, .int .i64 t.int, .string t.text, .slice gn t.names.length gc, .slice gi t.items.length gd] 28)) _ HRg_2.out hbt
    go_wp2_with fail
    refine hc.mono ?_; rintro e w3 ⟨pn, pc, pi, pd, rfl, hrc, hbc⟩
    have hbx := box_new w3 u pn pc pi pd
    have hbcx := below_trans hbc hbx
    obtain ⟨n0, n1, n2, n3, n4⟩ := cells5 w3 (.int .i64 u.kind) (.int .i64 u.int) (.string u.text) (.slice pn u.names.length pc) (.slice pi u.items.length pd) 28
    have a0_3 := cell_below hbcx a0_2
    have a1_3 := cell_below hbcx a1_2
    have a2_3 := cell_below hbcx a2_2
    have a3_3 := cell_below hbcx a3_2
    have a4_3 := cell_below hbcx a4_2
    have g0_3 := cell_below hbcx g0_2
    have g1_3 := cell_below hbcx g1_2
    have g2_3 := cell_below hbcx g2_2
    have g3_3 := cell_below hbcx g3_2
    have g4_3 := cell_below hbcx g4_2
    have HRt_3 := Lib.hid (HRt_2.out.below hbcx)
    have HRg_3 := Lib.hid (HRg_2.out.below hbcx)
    have HT_3 := Lib.hid (HT_2.out.below hbcx)
    have HB_3 := Lib.hid (HB_2.out.trans (hbcx.mono HB_2.out.size))
    clear a0_2 a1_2 a2_2 a3_2 a4_2 g0_2 g1_2 g2_2 g3_2 g4_2 HRt_2 HRg_2 HT_2 HB_2 hc
    have HRp_3 := Lib.hid (hrc.below hbx)
    clear hrc hbc hbx hbcx
    have p0_3 := n0
    have p1_3 := n1
    have p2_3 := n2
    have p3_3 := n3
    have p4_3 := n4
    clear n0 n1 n2 n3 n4
    have hc := has_u hu hbb gn gi gc gd (w3.alloc (.cells #[.int .i64 u.kind, .int .i64 u.int, .string u.text, .slice pn u.names.length pc, .slice pi u.items.length pd] 28)) _ HRg_3.out hbt
    go_wp2_with fail
    refine hc.mono ?_; rintro e w4 ⟨qn, qc, qi, qd, rfl, hrc, hbc⟩
    have hbx := box_new w4 u qn qc qi qd
    have hbcx := below_trans hbc hbx
    obtain ⟨n0, n1, n2, n3, n4⟩ := cells5 w4 (.int .i64 u.kind) (.int .i64 u.int) (.string u.text) (.slice qn u.names.length qc) (.slice qi u.items.length qd) 28
    have a0_4 := cell_below hbcx a0_3
    have a1_4 := cell_below hbcx a1_3
    have a2_4 := cell_below hbcx a2_3
    have a3_4 := cell_below hbcx a3_3
    have a4_4 := cell_below hbcx a4_3
    have g0_4 := cell_below hbcx g0_3
    have g1_4 := cell_below hbcx g1_3
    have g2_4 := cell_below hbcx g2_3
    have g3_4 := cell_below hbcx g3_3
    have g4_4 := cell_below hbcx g4_3
    have p0_4 := cell_below hbcx p0_3
    have p1_4 := cell_below hbcx p1_3
    have p2_4 := cell_below hbcx p2_3
    have p3_4 := cell_below hbcx p3_3
    have p4_4 := cell_below hbcx p4_3
    have HRt_4 := Lib.hid (HRt_3.out.below hbcx)
    have HRg_4 := Lib.hid (HRg_3.out.below hbcx)
    have HRp_4 := Lib.hid (HRp_3.out.below hbcx)
    have HT_4 := Lib.hid (HT_3.out.below hbcx)
    have HB_4 := Lib.hid (HB_3.out.trans (hbcx.mono HB_3.out.size))
    clear a0_3 a1_3 a2_3 a3_3 a4_3 g0_3 g1_3 g2_3 g3_3 g4_3 p0_3 p1_3 p2_3 p3_3 p4_3 HRt_3 HRg_3 HRp_3 HT_3 HB_3 hc
    have HRq_4 := Lib.hid (hrc.below hbx)
    clear hrc hbc hbx hbcx
    have q0_4 := n0
    have q1_4 := n1
    have q2_4 := n2
    have q3_4 := n3
    have q4_4 := n4
    clear n0 n1 n2 n3 n4
    have hc := refHas_u hu hbb an ai cn ci (w4.alloc (.cells #[.int .i64 u.kind, .int .i64 u.int, .string u.text, .slice qn u.names.length qc, .slice qi u.items.length qd] 28)) _ HRt_4.out hbt
    go_wp2_with fail
    refine hc.mono ?_; rintro e w5 ⟨zn, zc, zi, zd, rfl, hrc, hbc⟩
    have hbx := box_new w5 u zn zc zi zd
    have hbcx := below_trans hbc hbx
    obtain ⟨n0, n1, n2, n3, n4⟩ := cells5 w5 (.int .i64 u.kind) (.int .i64 u.int) (.string u.text) (.slice zn u.names.length zc) (.slice zi u.items.length zd) 28
    have a0_5 := cell_below hbcx a0_4
    have a1_5 := cell_below hbcx a1_4
    have a2_5 := cell_below hbcx a2_4
    have a3_5 := cell_below hbcx a3_4
    have a4_5 := cell_below hbcx a4_4
    have g0_5 := cell_below hbcx g0_4
    have g1_5 := cell_below hbcx g1_4
    have g2_5 := cell_below hbcx g2_4
    have g3_5 := cell_below hbcx g3_4
    have g4_5 := cell_below hbcx g4_4
    have p0_5 := cell_below hbcx p0_4
    have p1_5 := cell_below hbcx p1_4
    have p2_5 := cell_below hbcx p2_4
    have p3_5 := cell_below hbcx p3_4
    have p4_5 := cell_below hbcx p4_4
    have q0_5 := cell_below hbcx q0_4
    have q1_5 := cell_below hbcx q1_4
    have q2_5 := cell_below hbcx q2_4
    have q3_5 := cell_below hbcx q3_4
    have q4_5 := cell_below hbcx q4_4
    have HRt_5 := Lib.hid (HRt_4.out.below hbcx)
    have HRg_5 := Lib.hid (HRg_4.out.below hbcx)
    have HRp_5 := Lib.hid (HRp_4.out.below hbcx)
    have HRq_5 := Lib.hid (HRq_4.out.below hbcx)
    have HT_5 := Lib.hid (HT_4.out.below hbcx)
    have HB_5 := Lib.hid (HB_4.out.trans (hbcx.mono HB_4.out.size))
    clear a0_4 a1_4 a2_4 a3_4 a4_4 g0_4 g1_4 g2_4 g3_4 g4_4 p0_4 p1_4 p2_4 p3_4 p4_4 q0_4 q1_4 q2_4 q3_4 q4_4 HRt_4 HRg_4 HRp_4 HRq_4 HT_4 HB_4 hc
    have HRz_5 := Lib.hid (hrc.below hbx)
    clear hrc hbc hbx hbcx
    have z0_5 := n0
    have z1_5 := n1
    have z2_5 := n2
    have z3_5 := n3
    have z4_5 := n4
    clear n0 n1 n2 n3 n4
    have hc := equal_c u u _ _ (w5.alloc (.cells #[.int .i64 u.kind, .int .i64 u.int, .string u.text, .slice zn u.names.length zc, .slice zi u.items.length zd] 28)) _ _ HRp_5.out HRz_5.out
    rw [same_self] at hc
    go_wp2_with fail
    refine hc.mono ?_; rintro e w6 ⟨rfl, hbc⟩
    have a0_6 := cell_below hbc a0_5
    have a1_6 := cell_below hbc a1_5
    have a2_6 := cell_below hbc a2_5
    have a3_6 := cell_below hbc a3_5
    have a4_6 := cell_below hbc a4_5
    have g0_6 := cell_below hbc g0_5
    have g1_6 := cell_below hbc g1_5
    have g2_6 := cell_below hbc g2_5
    have g3_6 := cell_below hbc g3_5
    have g4_6 := cell_below hbc g4_5
    have p0_6 := cell_below hbc p0_5
    have p1_6 := cell_below hbc p1_5
    have p2_6 := cell_below hbc p2_5
    have p3_6 := cell_below hbc p3_5
    have p4_6 := cell_below hbc p4_5
    have q0_6 := cell_below hbc q0_5
    have q1_6 := cell_below hbc q1_5
    have q2_6 := cell_below hbc q2_5
    have q3_6 := cell_below hbc q3_5
    have q4_6 := cell_below hbc q4_5
    have z0_6 := cell_below hbc z0_5
    have z1_6 := cell_below hbc z1_5
    have z2_6 := cell_below hbc z2_5
    have z3_6 := cell_below hbc z3_5
    have z4_6 := cell_below hbc z4_5
    have HRt_6 := Lib.hid (HRt_5.out.below hbc)
    have HRg_6 := Lib.hid (HRg_5.out.below hbc)
    have HRp_6 := Lib.hid (HRp_5.out.below hbc)
    have HRq_6 := Lib.hid (HRq_5.out.below hbc)
    have HRz_6 := Lib.hid (HRz_5.out.below hbc)
    have HT_6 := Lib.hid (HT_5.out.below hbc)
    have HB_6 := Lib.hid (HB_5.out.trans (hbc.mono HB_5.out.size))
    clear a0_5 a1_5 a2_5 a3_5 a4_5 g0_5 g1_5 g2_5 g3_5 g4_5 p0_5 p1_5 p2_5 p3_5 p4_5 q0_5 q1_5 q2_5 q3_5 q4_5 z0_5 z1_5 z2_5 z3_5 z4_5 HRt_5 HRg_5 HRp_5 HRq_5 HRz_5 HT_5 HB_5 hc hbc
    have hc := equal_c u u _ _ w6 _ _ HRq_6.out HRz_6.out
    rw [same_self] at hc
    go_wp2_with fail
    refine hc.mono ?_; rintro e w7 ⟨rfl, hbc⟩
    have a0_7 := cell_below hbc a0_6
    have a1_7 := cell_below hbc a1_6
    have a2_7 := cell_below hbc a2_6
    have a3_7 := cell_below hbc a3_6
    have a4_7 := cell_below hbc a4_6
    have g0_7 := cell_below hbc g0_6
    have g1_7 := cell_below hbc g1_6
    have g2_7 := cell_below hbc g2_6
    have g3_7 := cell_below hbc g3_6
    have g4_7 := cell_below hbc g4_6
    have p0_7 := cell_below hbc p0_6
    have p1_7 := cell_below hbc p1_6
    have p2_7 := cell_below hbc p2_6
    have p3_7 := cell_below hbc p3_6
    have p4_7 := cell_below hbc p4_6
    have q0_7 := cell_below hbc q0_6
    have q1_7 := cell_below hbc q1_6
    have q2_7 := cell_below hbc q2_6
    have q3_7 := cell_below hbc q3_6
    have q4_7 := cell_below hbc q4_6
    have z0_7 := cell_below hbc z0_6
    have z1_7 := cell_below hbc z1_6
    have z2_7 := cell_below hbc z2_6
    have z3_7 := cell_below hbc z3_6
    have z4_7 := cell_below hbc z4_6
    have HRt_7 := Lib.hid (HRt_6.out.below hbc)
    have HRg_7 := Lib.hid (HRg_6.out.below hbc)
    have HRp_7 := Lib.hid (HRp_6.out.below hbc)
    have HRq_7 := Lib.hid (HRq_6.out.below hbc)
    have HRz_7 := Lib.hid (HRz_6.out.below hbc)
    have HT_7 := Lib.hid (HT_6.out.below hbc)
    have HB_7 := Lib.hid (HB_6.out.trans (hbc.mono HB_6.out.size))
    clear a0_6 a1_6 a2_6 a3_6 a4_6 g0_6 g1_6 g2_6 g3_6 g4_6 p0_6 p1_6 p2_6 p3_6 p4_6 q0_6 q1_6 q2_6 q3_6 q4_6 z0_6 z1_6 z2_6 z3_6 z4_6 HRt_6 HRg_6 HRp_6 HRq_6 HRz_6 HT_6 HB_6 hc hbc
    have hc := equal_c t t _ _ w7 _ _ HRg_7.out HRt_7.out
    rw [same_self] at hc
    go_wp2_with fail
    refine hc.mono ?_; rintro e w8 ⟨rfl, hbc⟩
    have a0_8 := cell_below hbc a0_7
    have a1_8 := cell_below hbc a1_7
    have a2_8 := cell_below hbc a2_7
    have a3_8 := cell_below hbc a3_7
    have a4_8 := cell_below hbc a4_7
    have g0_8 := cell_below hbc g0_7
    have g1_8 := cell_below hbc g1_7
    have g2_8 := cell_below hbc g2_7
    have g3_8 := cell_below hbc g3_7
    have g4_8 := cell_below hbc g4_7
    have p0_8 := cell_below hbc p0_7
    have p1_8 := cell_below hbc p1_7
    have p2_8 := cell_below hbc p2_7
    have p3_8 := cell_below hbc p3_7
    have p4_8 := cell_below hbc p4_7
    have q0_8 := cell_below hbc q0_7
    have q1_8 := cell_below hbc q1_7
    have q2_8 := cell_below hbc q2_7
    have q3_8 := cell_below hbc q3_7
    have q4_8 := cell_below hbc q4_7
    have z0_8 := cell_below hbc z0_7
    have z1_8 := cell_below hbc z1_7
    have z2_8 := cell_below hbc z2_7
    have z3_8 := cell_below hbc z3_7
    have z4_8 := cell_below hbc z4_7
    have HRt_8 := Lib.hid (HRt_7.out.below hbc)
    have HRg_8 := Lib.hid (HRg_7.out.below hbc)
    have HRp_8 := Lib.hid (HRp_7.out.below hbc)
    have HRq_8 := Lib.hid (HRq_7.out.below hbc)
    have HRz_8 := Lib.hid (HRz_7.out.below hbc)
    have HT_8 := Lib.hid (HT_7.out.below hbc)
    have HB_8 := Lib.hid (HB_7.out.trans (hbc.mono HB_7.out.size))
    clear a0_7 a1_7 a2_7 a3_7 a4_7 g0_7 g1_7 g2_7 g3_7 g4_7 p0_7 p1_7 p2_7 p3_7 p4_7 q0_7 q1_7 q2_7 q3_7 q4_7 z0_7 z1_7 z2_7 z3_7 z4_7 HRt_7 HRg_7 HRp_7 HRq_7 HRz_7 HT_7 HB_7 hc hbc
    have hc := live_c w8 HT_8.out
    go_wp2_with fail
    refine hc.mono ?_; rintro e w9 ⟨rfl, hbc⟩
    have HB9 := Lib.hid (below_trans HB_8.out hbc)
    clear hc hbc
    go_wp2
    go_ret
    exact ⟨rfl, HB9.out⟩
end Go.Proofs.YtbkbokfegjodnaaDoor
