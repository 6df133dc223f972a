/- The walk of the law OrderCompares. Conditions: what a tree holds is at most 2 to the 40. -/
import Derived.Test.YtjmhoccikbgigaaDoorLivew
import Derived.Test.YtjmhoccikbgigaaDoorRefcmp
import Derived.Test.YtjmhoccikbgigaaDoorCopyw
import Derived.Test.YtjmhoccikbgigaaDoorTreeread
namespace Go.Proofs.YtjmhoccikbgigaaDoor
open Go.RowKit
theorem large_t (t : JV) (an ai : Option Addr) (cn ci : Nat) (w : World) (ok : Nat → Prop) (hr : Rep w ok t [.int .i64 t.kind, .int .i64 t.int, .string t.text, .slice an t.names.length cn, .slice ai t.items.length ci]) (hb : t.bulk ≤ 1099511627776) :
    Calls Tryd.prog 13 #[.agg #[.int .i64 t.kind, .int .i64 t.int, .string t.text, .slice an t.names.length cn, .slice ai t.items.length ci]] w fun e w' => e = .returned (.bool (largeB t)) ∧ Below w.heap.size w w' := by
  cases t with
  | mk k n s ns is => exact large_c k n s ns is _ w ok hr hb
theorem copy_t (t : JV) (an ai : Option Addr) (cn ci : Nat) (w : World) (ok : Nat → Prop) (hr : Rep w ok t [.int .i64 t.kind, .int .i64 t.int, .string t.text, .slice an t.names.length cn, .slice ai t.items.length ci]) (hb : t.bulk ≤ 1099511627776) :
    Calls Tryd.prog 14 #[.agg #[.int .i64 t.kind, .int .i64 t.int, .string t.text, .slice an t.names.length cn, .slice ai t.items.length ci]] w (CopyPost w t) := copy_c t _ w ok hr hb
theorem rank_t (t : JV) (an ai : Option Addr) (cn ci : Nat) (w : World) :
    Calls Tryd.prog 17 #[.agg #[.int .i64 t.kind, .int .i64 t.int, .string t.text, .slice an t.names.length cn, .slice ai t.items.length ci]] w fun e w' => e = .returned (.int .i64 (rankK t.kind)) ∧ Below w.heap.size w w' := rank_c _ _ _ _ _ w
theorem refRank_t (t : JV) (an ai : Option Addr) (cn ci : Nat) (w : World) :
    Calls Tryd.prog 18 #[.agg #[.int .i64 t.kind, .int .i64 t.int, .string t.text, .slice an t.names.length cn, .slice ai t.items.length ci]] w fun e w' => e = .returned (.int .i64 (rankK t.kind)) ∧ Below w.heap.size w w' := refRank_c _ _ _ _ _ w
set_option maxHeartbeats 4000000 in
theorem orderCompares_c (t u : JV) (cs ds : List Value) (w : World) (ok ok' : Nat → Prop) (hr : Rep w ok t cs) (hu : Rep w ok' u ds) (hbt : t.bulk ≤ 1099511627776) (hbu : u.bulk ≤ 1099511627776) :
    Calls Tryd.prog 4 #[.agg cs.toArray, .agg ds.toArray] w fun e w' => e = .returned (.bool true) ∧ Below w.heap.size w w' := by
  obtain ⟨an, cn, ai, ci, rfl⟩ := hr.form
  obtain ⟨an1, cn1, ai1, ci1, rfl⟩ := hu.form
  obtain ⟨a0, a1, a2, a3, a4⟩ := cells5 w (.int .i64 t.kind) (.int .i64 t.int) (.string t.text) (.slice an t.names.length cn) (.slice ai t.items.length ci) 28
  have hb0 : Below w.heap.size w (w.alloc (.cells #[.int .i64 t.kind, .int .i64 t.int, .string t.text, .slice an t.names.length cn, .slice ai t.items.length ci] 28)) := (Below.refl _ _).alloc (Nat.le_refl _) _
  obtain ⟨b0, b1, b2, b3, b4⟩ := cells5 (w.alloc (.cells #[.int .i64 t.kind, .int .i64 t.int, .string t.text, .slice an t.names.length cn, .slice ai t.items.length ci] 28)) (.int .i64 u.kind) (.int .i64 u.int) (.string u.text) (.slice an1 u.names.length cn1) (.slice ai1 u.items.length ci1) 28
  have hb1 : Below ((w.alloc (.cells #[.int .i64 t.kind, .int .i64 t.int, .string t.text, .slice an t.names.length cn, .slice ai t.items.length ci] 28))).heap.size (w.alloc (.cells #[.int .i64 t.kind, .int .i64 t.int, .string t.text, .slice an t.names.length cn, .slice ai t.items.length ci] 28)) ((w.alloc (.cells #[.int .i64 t.kind, .int .i64 t.int, .string t.text, .slice an t.names.length cn, .slice ai t.items.length ci] 28)).alloc (.cells #[.int .i64 u.kind, .int .i64 u.int, .string u.text, .slice an1 u.names.length cn1, .slice ai1 u.items.length ci1] 28)) := (Below.refl _ _).alloc (Nat.le_refl _) _
  have hB := below_trans hb0 hb1
  have A0 := cell_below hb1 a0
  have A1 := cell_below hb1 a1
  have A2 := cell_below hb1 a2
  have A3 := cell_below hb1 a3
  have A4 := cell_below hb1 a4
  clear a0 a1 a2 a3 a4
  simp only [World.size_alloc] at b0 b1 b2 b3 b4
  have hr1 := hr.below hB
  have hu1 := hu.below hB
  have hl1 := large_t t an ai cn ci (((w.alloc (.cells #[.int .i64 t.kind, .int .i64 t.int, .string t.text, .slice an t.names.length cn, .slice ai t.items.length ci] 28)).alloc (.cells #[.int .i64 u.kind, .int .i64 u.int, .string u.text, .slice an1 u.names.length cn1, .slice ai1 u.items.length ci1] 28))) ok hr1 hbt
  have HR := Lib.hid (And.intro hr1 (And.intro hu1 hB))
  clear hr hu hr1 hu1 hb0 hb1 hB
  go_enter Tryd.func4, Tryd.ntmps4
  go_wp2_with fail
  refine hl1.mono ?_; rintro e w1 ⟨rfl, hb1⟩
  clear hl1
  have c0 := cell_below hb1 A0
  have c1 := cell_below hb1 A1
  have c2 := cell_below hb1 A2
  have c3 := cell_below hb1 A3
  have c4 := cell_below hb1 A4
  have d0 := cell_below hb1 b0
  have d1 := cell_below hb1 b1
  have d2 := cell_below hb1 b2
  have d3 := cell_below hb1 b3
  have d4 := cell_below hb1 b4
  have HR1 := Lib.hid (And.intro (HR.out.1.below hb1) (And.intro (HR.out.2.1.below hb1) (HR.out.2.2.trans (hb1.mono HR.out.2.2.size))))
  clear HR hb1 A0 A1 A2 A3 A4 b0 b1 b2 b3 b4
  cases hlt : largeB t with
  | true =>
    clear hlt
    go_wp2
    go_ret
    exact ⟨rfl, HR1.out.2.2⟩
  | false =>
    clear hlt
    have hl2 := large_t u an1 ai1 cn1 ci1 w1 ok' HR1.out.2.1 hbu
    go_wp2_with fail
    refine hl2.mono ?_; rintro e w2 ⟨rfl, hb2⟩
    clear hl2
    have a0 := cell_below hb2 c0
    have a1 := cell_below hb2 c1
    have a2 := cell_below hb2 c2
    have a3 := cell_below hb2 c3
    have a4 := cell_below hb2 c4
    have b0 := cell_below hb2 d0
    have b1 := cell_below hb2 d1
    have b2 := cell_below hb2 d2
    have b3 := cell_below hb2 d3
    have b4 := cell_below hb2 d4
    have HR2 := Lib.hid (And.intro (HR1.out.1.below hb2) (And.intro (HR1.out.2.1.below hb2) (HR1.out.2.2.trans (hb2.mono HR1.out.2.2.size))))
    clear HR1 hb2 c0 c1 c2 c3 c4 d0 d1 d2 d3 d4
    cases hlt : largeB u with
    | true =>
      clear hlt
      go_wp2
      go_ret
      exact ⟨rfl, HR2.out.2.2⟩
    | false =>
      clear hlt
      have hc1 := copy_t t an ai cn ci w2 ok HR2.out.1 hbt
      go_wp2_with fail
      refine hc1.mono ?_; rintro e w3 ⟨an2, cn2, ai2, ci2, rfl, hr3, hb3⟩
      clear hc1
      have hb4 : Below w3.heap.size w3 (w3.alloc (.cells #[.int .i64 t.kind, .int .i64 t.int, .string t.text, .slice an2 t.names.length cn2, .slice ai2 t.items.length ci2] 28)) := (Below.refl _ _).alloc (Nat.le_refl _) _
      have hb34 := below_trans hb3 hb4
      obtain ⟨e0, e1, e2, e3, e4⟩ := cells5 w3 (.int .i64 t.kind) (.int .i64 t.int) (.string t.text) (.slice an2 t.names.length cn2) (.slice ai2 t.items.length ci2) 28
      have c0 := cell_below hb34 a0
      have c1 := cell_below hb34 a1
      have c2 := cell_below hb34 a2
      have c3 := cell_below hb34 a3
      have c4 := cell_below hb34 a4
      have d0 := cell_below hb34 b0
      have d1 := cell_below hb34 b1
      have d2 := cell_below hb34 b2
      have d3 := cell_below hb34 b3
      have d4 := cell_below hb34 b4
      have HR3 := Lib.hid (And.intro (HR2.out.1.below hb34) (And.intro (HR2.out.2.1.below hb34) (And.intro (hr3.below hb4) (HR2.out.2.2.trans (hb34.mono HR2.out.2.2.size)))))
      clear HR2 hr3 hb3 hb4 hb34 a0 a1 a2 a3 a4 b0 b1 b2 b3 b4
      have hc2 := copy_t u an1 ai1 cn1 ci1 (w3.alloc (.cells #[.int .i64 t.kind, .int .i64 t.int, .string t.text, .slice an2 t.names.length cn2, .slice ai2 t.items.length ci2] 28)) ok' HR3.out.2.1 hbu
      go_wp2_with fail
      refine hc2.mono ?_; rintro e w4 ⟨an3, cn3, ai3, ci3, rfl, hr4, hb4⟩
      clear hc2
      have hb5 : Below w4.heap.size w4 (w4.alloc (.cells #[.int .i64 u.kind, .int .i64 u.int, .string u.text, .slice an3 u.names.length cn3, .slice ai3 u.items.length ci3] 28)) := (Below.refl _ _).alloc (Nat.le_refl _) _
      have hb45 := below_trans hb4 hb5
      obtain ⟨f0, f1, f2, f3, f4⟩ := cells5 w4 (.int .i64 u.kind) (.int .i64 u.int) (.string u.text) (.slice an3 u.names.length cn3) (.slice ai3 u.items.length ci3) 28
      have a0 := cell_below hb45 c0
      have a1 := cell_below hb45 c1
      have a2 := cell_below hb45 c2
      have a3 := cell_below hb45 c3
      have a4 := cell_below hb45 c4
      have b0 := cell_below hb45 d0
      have b1 := cell_below hb45 d1
      have b2 := cell_below hb45 d2
      have b3 := cell_below hb45 d3
      have b4 := cell_below hb45 d4
      have g0 := cell_below hb45 e0
      have g1 := cell_below hb45 e1
      have g2 := cell_below hb45 e2
      have g3 := cell_below hb45 e3
      have g4 := cell_below hb45 e4
      have hR4 := HR3.out.1.below hb45
      have hU4 := HR3.out.2.1.below hb45
      have hC4 := HR3.out.2.2.1.below hb45
      have hD4 := hr4.below hb5
      have hB4 := HR3.out.2.2.2.trans (hb45.mono HR3.out.2.2.2.size)
      clear HR3 hr4 hb4 hb5 hb45 c0 c1 c2 c3 c4 d0 d1 d2 d3 d4 e0 e1 e2 e3 e4
      go_wp2_with fail
      generalize w4.alloc (.cells #[.int .i64 u.kind, .int .i64 u.int, .string u.text, .slice an3 u.names.length cn3, .slice ai3 u.items.length ci3] 28) = W at *
      have P0 := cell_regrown (w := W) a0
      have P1 := cell_regrown (w := W) a1
      have P2 := cell_regrown (w := W) a2
      have P3 := cell_regrown (w := W) a3
      have P4 := cell_regrown (w := W) a4
      have Q0 := cell_regrown (w := W) b0
      have Q1 := cell_regrown (w := W) b1
      have Q2 := cell_regrown (w := W) b2
      have Q3 := cell_regrown (w := W) b3
      have Q4 := cell_regrown (w := W) b4
      have X0 := cell_regrown (w := W) g0
      have X1 := cell_regrown (w := W) g1
      have X2 := cell_regrown (w := W) g2
      have X3 := cell_regrown (w := W) g3
      have X4 := cell_regrown (w := W) g4
      have Y0 := cell_regrown (w := W) f0
      have Y1 := cell_regrown (w := W) f1
      have Y2 := cell_regrown (w := W) f2
      have Y3 := cell_regrown (w := W) f3
      have Y4 := cell_regrown (w := W) f4
      have k1 := fun (d : Nat) (os : Array Obj) => regB (cmp_c t u _ _ (Sort.grow (redrawn W d) os) _ _ (hC4.below (below_regrown W d os)) (hD4.below (below_regrown W d os)))
      have k2 := fun (d : Nat) (os : Array Obj) => regB (refcmp_c t u hbt hbu _ _ (Sort.grow (redrawn W d) os) _ _ (hR4.below (below_regrown W d os)) (hU4.below (below_regrown W d os)))
      have k3 := fun (d : Nat) (os : Array Obj) => regB (rank_t t an2 ai2 cn2 ci2 (Sort.grow (redrawn W d) os))
      have k4 := fun (d : Nat) (os : Array Obj) => regB (refRank_t t an ai cn ci (Sort.grow (redrawn W d) os))
      have k5 := fun (d : Nat) (os : Array Obj) => regB (equal_c t t _ _ (Sort.grow (redrawn W d) os) _ _ (hC4.below (below_regrown W d os)) (hR4.below (below_regrown W d os)))
      have k6 := fun (d : Nat) (os : Array Obj) => regB (equal_c u u _ _ (Sort.grow (redrawn W d) os) _ _ (hD4.below (below_regrown W d os)) (hU4.below (below_regrown W d os)))
      have k7 := fun (d : Nat) (os : Array Obj) => regB (live_c (Sort.grow (redrawn W d) os))
      simp only [same_self] at k5 k6
      generalize ord t u = o at k1 k2
      generalize rankK t.kind = rk at k3 k4
      refine wp_region_quiet_below (by kernel_rfl) (by kernel_rfl) ?_
      repeat (go_big_quiet_step (first | (go_at_call 15; with_reducible exact k1 _ _) | (go_at_call 16; with_reducible exact k2 _ _) | (go_at_call 17; with_reducible exact k3 _ _) | (go_at_call 18; with_reducible exact k4 _ _) | (go_at_call 19; first | with_reducible exact k5 _ _ | with_reducible exact k6 _ _) | (go_at_call 12; with_reducible exact k7 _ _)))
      refine wpQuiet_nil ?_
      intro _ hw'
      obtain ⟨⟨dq, osq⟩, hw''⟩ := hw'
      subst hw''
      go_wp2
      go_ret
      exact ⟨rfl, hB4.trans ((below_regrown W dq osq).mono hB4.size)⟩
end Go.Proofs.YtjmhoccikbgigaaDoor
