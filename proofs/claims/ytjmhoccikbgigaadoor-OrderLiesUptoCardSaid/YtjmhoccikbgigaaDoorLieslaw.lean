/- The walk of the law OrderLies. Conditions: the tables of package utf8 lie as their texts lay them; what a tree holds is at most 2 to the 40. -/
import Derived.Test.YtjmhoccikbgigaaDoorByteslaw
import Derived.Test.YtjmhoccikbgigaaDoorLiesl
namespace Go.Proofs.YtjmhoccikbgigaaDoor
open Go.RowKit
/-- string(b[:n]) -/
theorem byts_front {w : World} {g p q : Nat} {l : List UInt8} (h : Byts w (.slice (some ⟨g, 0, none⟩) l.length p) l) (n : Nat) (hn : n ≤ l.length) :
    (convert 34 9 (.slice (some ⟨g, 0, none⟩) n q)).run Tryd.prog w = .ok (.string ⟨(l.take n).toArray⟩) w := by
  have hl : (l.take n).length = n := by rw [List.length_take]; omega
  have := run_convert_bytes_back (P := Tryd.prog) w 34 9 5 ⟨g, 0, none⟩ q (l.take n) byTy.slice byTy.byte Tryd.underlying9 (fun j hj => by
    have hjl : j < l.length := by omega
    have h1 := World.ownsRow.cellAt (g := g) (cap := p) h j (by omega)
    rw [add_none, Nat.zero_add, h1]
    simp [hjl])
  rw [hl] at this
  exact this
set_option maxRecDepth 20000 in
set_option maxHeartbeats 8000000 in
theorem orderLies_c (t u : JV) (cs ds : List Value) (w : World) (ok ok' : Nat → Prop) (hr : Rep w ok t cs) (hu : Rep w ok' u ds) (hbt : t.bulk ≤ 1099511627776) (hbu : u.bulk ≤ 1099511627776) (hT : Lib.Utf8Tabs 0 1 w) :
    Calls Tryd.prog 8 #[.agg cs.toArray, .agg ds.toArray] w fun e w' => e = .returned (.bool true) ∧ Below w.heap.size w w' := by
  obtain ⟨an, cn, ai, ci, rfl⟩ := hr.form
  obtain ⟨an1, cn1, ai1, ci1, rfl⟩ := hu.form
  obtain ⟨a0, a1, a2, a3, a4⟩ := cells5 w (.int .i64 t.kind) (.int .i64 t.int) (.string t.text) (.slice an t.names.length cn) (.slice ai t.items.length ci) 28
  have hb0 : Below w.heap.size w (w.alloc (.cells #[.int .i64 t.kind, .int .i64 t.int, .string t.text, .slice an t.names.length cn, .slice ai t.items.length ci] 28)) := (Below.refl _ _).alloc (Nat.le_refl _) _
  obtain ⟨e0, e1, e2, e3, e4⟩ := cells5 (w.alloc (.cells #[.int .i64 t.kind, .int .i64 t.int, .string t.text, .slice an t.names.length cn, .slice ai t.items.length ci] 28)) (.int .i64 u.kind) (.int .i64 u.int) (.string u.text) (.slice an1 u.names.length cn1) (.slice ai1 u.items.length ci1) 28
  have hb1 : Below (World.heap (w.alloc (.cells #[.int .i64 t.kind, .int .i64 t.int, .string t.text, .slice an t.names.length cn, .slice ai t.items.length ci] 28))).size (w.alloc (.cells #[.int .i64 t.kind, .int .i64 t.int, .string t.text, .slice an t.names.length cn, .slice ai t.items.length ci] 28)) ((w.alloc (.cells #[.int .i64 t.kind, .int .i64 t.int, .string t.text, .slice an t.names.length cn, .slice ai t.items.length ci] 28)).alloc (.cells #[.int .i64 u.kind, .int .i64 u.int, .string u.text, .slice an1 u.names.length cn1, .slice ai1 u.items.length ci1] 28)) := (Below.refl _ _).alloc (Nat.le_refl _) _
  simp only [World.size_alloc] at e0 e1 e2 e3 e4
  have a0_0 := a0
  have a1_0 := a1
  have a2_0 := a2
  have a3_0 := a3
  have a4_0 := a4
  clear a0 a1 a2 a3 a4
  have hB := below_trans hb0 hb1
  have HRt_0 := Lib.hid (hr.below hb0)
  have HRu_0 := Lib.hid (hu.below hb0)
  have HT_0 := Lib.hid (utf8_below hT hb0)
  have HB_0 := Lib.hid hb0
  clear hr hu hT hb0 hB
  have a0_1 := cell_below hb1 a0_0
  have a1_1 := cell_below hb1 a1_0
  have a2_1 := cell_below hb1 a2_0
  have a3_1 := cell_below hb1 a3_0
  have a4_1 := cell_below hb1 a4_0
  have HRt_1 := Lib.hid (HRt_0.out.below hb1)
  have HRu_1 := Lib.hid (HRu_0.out.below hb1)
  have HT_1 := Lib.hid (utf8_below HT_0.out hb1)
  have HB_1 := Lib.hid (HB_0.out.trans (hb1.mono HB_0.out.size))
  clear a0_0 a1_0 a2_0 a3_0 a4_0 HRt_0 HRu_0 HT_0 HB_0 hb1
  have e0_1 := e0
  have e1_1 := e1
  have e2_1 := e2
  have e3_1 := e3
  have e4_1 := e4
  clear e0 e1 e2 e3 e4
  have hl1 := large_t t an ai cn ci ((w.alloc (.cells #[.int .i64 t.kind, .int .i64 t.int, .string t.text, .slice an t.names.length cn, .slice ai t.items.length ci] 28)).alloc (.cells #[.int .i64 u.kind, .int .i64 u.int, .string u.text, .slice an1 u.names.length cn1, .slice ai1 u.items.length ci1] 28)) ok HRt_1.out hbt
  go_enter Tryd.func8, Tryd.ntmps8
  go_wp2_with fail
  refine hl1.mono ?_; rintro e w1 ⟨rfl, hb1⟩
  have a0_2 := cell_below hb1 a0_1
  have a1_2 := cell_below hb1 a1_1
  have a2_2 := cell_below hb1 a2_1
  have a3_2 := cell_below hb1 a3_1
  have a4_2 := cell_below hb1 a4_1
  have e0_2 := cell_below hb1 e0_1
  have e1_2 := cell_below hb1 e1_1
  have e2_2 := cell_below hb1 e2_1
  have e3_2 := cell_below hb1 e3_1
  have e4_2 := cell_below hb1 e4_1
  have HRt_2 := Lib.hid (HRt_1.out.below hb1)
  have HRu_2 := Lib.hid (HRu_1.out.below hb1)
  have HT_2 := Lib.hid (utf8_below HT_1.out hb1)
  have HB_2 := Lib.hid (HB_1.out.trans (hb1.mono HB_1.out.size))
  clear a0_1 a1_1 a2_1 a3_1 a4_1 e0_1 e1_1 e2_1 e3_1 e4_1 HRt_1 HRu_1 HT_1 HB_1 hl1 hb1
  cases hlt : largeB t with
  | true =>
    clear hlt
    go_wp2
    go_ret
    exact ⟨rfl, HB_2.out⟩
  | false =>
    clear hlt
    have hl2 := large_t u an1 ai1 cn1 ci1 w1 ok' HRu_2.out hbu
    go_wp2_with fail
    refine hl2.mono ?_; rintro e w2 ⟨rfl, hb1⟩
    have a0_3 := cell_below hb1 a0_2
    have a1_3 := cell_below hb1 a1_2
    have a2_3 := cell_below hb1 a2_2
    have a3_3 := cell_below hb1 a3_2
    have a4_3 := cell_below hb1 a4_2
    have e0_3 := cell_below hb1 e0_2
    have e1_3 := cell_below hb1 e1_2
    have e2_3 := cell_below hb1 e2_2
    have e3_3 := cell_below hb1 e3_2
    have e4_3 := cell_below hb1 e4_2
    have HRt_3 := Lib.hid (HRt_2.out.below hb1)
    have HRu_3 := Lib.hid (HRu_2.out.below hb1)
    have HT_3 := Lib.hid (utf8_below HT_2.out hb1)
    have HB_3 := Lib.hid (HB_2.out.trans (hb1.mono HB_2.out.size))
    clear a0_2 a1_2 a2_2 a3_2 a4_2 e0_2 e1_2 e2_2 e3_2 e4_2 HRt_2 HRu_2 HT_2 HB_2 hl2 hb1
    cases hlt : largeB u with
    | true =>
      clear hlt
      go_wp2
      go_ret
      exact ⟨rfl, HB_3.out⟩
    | false =>
      clear hlt
      have HWV := Lib.hid (And.intro (okN_rep t _ HRt_3.out) (okN_rep u _ HRu_3.out))
      have hc1 := copy_t t an ai cn ci w2 ok HRt_3.out hbt
      go_wp2_with fail
      refine hc1.mono ?_; rintro e w3 ⟨bn1, bm1, bi1, bj1, rfl, hr3, hb3⟩
      have a0_4 := cell_below hb3 a0_3
      have a1_4 := cell_below hb3 a1_3
      have a2_4 := cell_below hb3 a2_3
      have a3_4 := cell_below hb3 a3_3
      have a4_4 := cell_below hb3 a4_3
      have e0_4 := cell_below hb3 e0_3
      have e1_4 := cell_below hb3 e1_3
      have e2_4 := cell_below hb3 e2_3
      have e3_4 := cell_below hb3 e3_3
      have e4_4 := cell_below hb3 e4_3
      have HRt_4 := Lib.hid (HRt_3.out.below hb3)
      have HRu_4 := Lib.hid (HRu_3.out.below hb3)
      have HT_4 := Lib.hid (utf8_below HT_3.out hb3)
      have HB_4 := Lib.hid (HB_3.out.trans (hb3.mono HB_3.out.size))
      clear a0_3 a1_3 a2_3 a3_3 a4_3 e0_3 e1_3 e2_3 e3_3 e4_3 HRt_3 HRu_3 HT_3 HB_3 hc1 hb3
      have hcb := bytes_c t hbt _ w3 _ hr3 HT_4.out
      go_wp2_with fail
      refine hcb.mono ?_; rintro e w4 ⟨v1, rfl, hv, hb4, hf⟩
      have a0_5 := cell_below hb4 a0_4
      have a1_5 := cell_below hb4 a1_4
      have a2_5 := cell_below hb4 a2_4
      have a3_5 := cell_below hb4 a3_4
      have a4_5 := cell_below hb4 a4_4
      have e0_5 := cell_below hb4 e0_4
      have e1_5 := cell_below hb4 e1_4
      have e2_5 := cell_below hb4 e2_4
      have e3_5 := cell_below hb4 e3_4
      have e4_5 := cell_below hb4 e4_4
      have HRt_5 := Lib.hid (HRt_4.out.below hb4)
      have HRu_5 := Lib.hid (HRu_4.out.below hb4)
      have HT_5 := Lib.hid (utf8_below HT_4.out hb4)
      have HB_5 := Lib.hid (HB_4.out.trans (hb4.mono HB_4.out.size))
      clear a0_4 a1_4 a2_4 a3_4 a4_4 e0_4 e1_4 e2_4 e3_4 e4_4 HRt_4 HRu_4 HT_4 HB_4
      have HV1_5 := Lib.hid hv
      clear hcb hr3 hv hb4 hf
      have hc1 := copy_t u an1 ai1 cn1 ci1 w4 ok' HRu_5.out hbu
      go_wp2_with fail
      refine hc1.mono ?_; rintro e w5 ⟨bn2, bm2, bi2, bj2, rfl, hr3, hb3⟩
      have a0_6 := cell_below hb3 a0_5
      have a1_6 := cell_below hb3 a1_5
      have a2_6 := cell_below hb3 a2_5
      have a3_6 := cell_below hb3 a3_5
      have a4_6 := cell_below hb3 a4_5
      have e0_6 := cell_below hb3 e0_5
      have e1_6 := cell_below hb3 e1_5
      have e2_6 := cell_below hb3 e2_5
      have e3_6 := cell_below hb3 e3_5
      have e4_6 := cell_below hb3 e4_5
      have HRt_6 := Lib.hid (HRt_5.out.below hb3)
      have HRu_6 := Lib.hid (HRu_5.out.below hb3)
      have HV1_6 := Lib.hid (byts_kept HV1_5.out hb3)
      have HT_6 := Lib.hid (utf8_below HT_5.out hb3)
      have HB_6 := Lib.hid (HB_5.out.trans (hb3.mono HB_5.out.size))
      clear a0_5 a1_5 a2_5 a3_5 a4_5 e0_5 e1_5 e2_5 e3_5 e4_5 HRt_5 HRu_5 HV1_5 HT_5 HB_5 hc1 hb3
      have hcb := bytes_c u hbu _ w5 _ hr3 HT_6.out
      go_wp2_with fail
      refine hcb.mono ?_; rintro e w6 ⟨v2, rfl, hv, hb4, hf⟩
      have a0_7 := cell_below hb4 a0_6
      have a1_7 := cell_below hb4 a1_6
      have a2_7 := cell_below hb4 a2_6
      have a3_7 := cell_below hb4 a3_6
      have a4_7 := cell_below hb4 a4_6
      have e0_7 := cell_below hb4 e0_6
      have e1_7 := cell_below hb4 e1_6
      have e2_7 := cell_below hb4 e2_6
      have e3_7 := cell_below hb4 e3_6
      have e4_7 := cell_below hb4 e4_6
      have HRt_7 := Lib.hid (HRt_6.out.below hb4)
      have HRu_7 := Lib.hid (HRu_6.out.below hb4)
      have HV1_7 := Lib.hid (byts_kept HV1_6.out hb4)
      have HT_7 := Lib.hid (utf8_below HT_6.out hb4)
      have HB_7 := Lib.hid (HB_6.out.trans (hb4.mono HB_6.out.size))
      clear a0_6 a1_6 a2_6 a3_6 a4_6 e0_6 e1_6 e2_6 e3_6 e4_6 HRt_6 HRu_6 HV1_6 HT_6 HB_6
      have HV2_7 := Lib.hid hv
      clear hcb hr3 hv hb4 hf
      have HE1 := Lib.hid (fun (h : chk t 0 = 0) => show encOf t = enc t from if_pos h)
      have HE2 := Lib.hid (fun (h : chk u 0 = 0) => show encOf u = enc u from if_pos h)
      have HO1 := Lib.hid (okV_chk t 0)
      have HO2 := Lib.hid (okV_chk u 0)
      have HLt := Lib.hid (encOf_len t)
      have HLu := Lib.hid (encOf_len u)
      have hli := live_c w6
      generalize chk t 0 = c at *
      generalize chk u 0 = c' at *
      go_wp2_with fail
      refine (num_c _ _).mono ?_; rintro e w7 ⟨rfl, rfl⟩
      by_cases hz : c = 0
      case neg =>
        have hzb : (c == 0) = false := by simpa using hz
        go_wp2_with fail
        refine hli.mono ?_; rintro e wl ⟨rfl, hbl⟩
        have HBl := Lib.hid (HB_7.out.trans (hbl.mono HB_7.out.size))
        clear hbl
        go_wp2
        go_ret
        exact ⟨rfl, HBl.out⟩
      subst hz
      go_wp2_with fail
      refine (num_c _ _).mono ?_; rintro e w8 ⟨rfl, rfl⟩
      by_cases hz : c' = 0
      case neg =>
        have hzb : (c' == 0) = false := by simpa using hz
        go_wp2_with fail
        refine hli.mono ?_; rintro e wl ⟨rfl, hbl⟩
        have HBl := Lib.hid (HB_7.out.trans (hbl.mono HB_7.out.size))
        clear hbl
        go_wp2
        go_ret
        exact ⟨rfl, HBl.out⟩
      subst hz
      clear hli
      have hL1 := HE1.out (by trivial)
      have hL2 := HE2.out (by trivial)
      have hal := lies_all t u (HO1.out (by trivial)) (HO2.out (by trivial)) HWV.out.1 HWV.out.2
      have hsh := fun z => lies_short t u (HO1.out (by trivial)) (HO2.out (by trivial)) HWV.out.1 HWV.out.2 z
      have hze := ord_zero t u (HO1.out (by trivial)) (HO2.out (by trivial))
      rw [← hL1, ← hL2] at hal hsh
      clear HE1 HE2 HO1 HO2 hL1 hL2
      have HLt2 := HLt.out
      have HLu2 := HLu.out
      generalize encOf t = l1 at *
      generalize encOf u = l2 at *
      obtain ⟨A1, p1, rfl, q1, r1, s1⟩ := bytes_form HV1_7.out
      obtain ⟨A2, p2, rfl, q2, r2, s2⟩ := bytes_form HV2_7.out
      have x1 := byts_string HV1_7.out
      have x2 := byts_string HV2_7.out
      have HTX := Lib.hid (refTexts_c ⟨l1.toArray⟩ ⟨l2.toArray⟩ (by unfold maxLen; simp [ByteArray.size]; omega) (by unfold maxLen; simp [ByteArray.size]; omega) w8)
      have HS1 := Lib.hid s1
      have HS2 := Lib.hid s2
      have HAL := Lib.hid hal
      have HSH := Lib.hid hsh
      have HZE := Lib.hid hze
      clear s1 s2 hal hsh hze HLt2 HLu2
      go_wp2_with fail
      refine HTX.out.mono ?_; rintro e w9 ⟨rfl, nq, rfl⟩
      rw [HAL.out]
      have a0_8 := cell_below (below_drewN' w8 nq) a0_7
      have a1_8 := cell_below (below_drewN' w8 nq) a1_7
      have a2_8 := cell_below (below_drewN' w8 nq) a2_7
      have a3_8 := cell_below (below_drewN' w8 nq) a3_7
      have a4_8 := cell_below (below_drewN' w8 nq) a4_7
      have e0_8 := cell_below (below_drewN' w8 nq) e0_7
      have e1_8 := cell_below (below_drewN' w8 nq) e1_7
      have e2_8 := cell_below (below_drewN' w8 nq) e2_7
      have e3_8 := cell_below (below_drewN' w8 nq) e3_7
      have e4_8 := cell_below (below_drewN' w8 nq) e4_7
      have HRt_8 := Lib.hid (HRt_7.out.below (below_drewN' w8 nq))
      have HRu_8 := Lib.hid (HRu_7.out.below (below_drewN' w8 nq))
      have HV1_8 := Lib.hid (byts_kept HV1_7.out (below_drewN' w8 nq))
      have HV2_8 := Lib.hid (byts_kept HV2_7.out (below_drewN' w8 nq))
      have HT_8 := Lib.hid (utf8_below HT_7.out (below_drewN' w8 nq))
      have HB_8 := Lib.hid (HB_7.out.trans ((below_drewN' w8 nq).mono HB_7.out.size))
      clear a0_7 a1_7 a2_7 a3_7 a4_7 e0_7 e1_7 e2_7 e3_7 e4_7 HRt_7 HRu_7 HV1_7 HV2_7 HT_7 HB_7 x1 x2 HTX
      have X1 := fun (n : Nat) => byts_string (byts_kept HV1_8.out (below_drewN' (w8.drewN nq) n))
      unfold maxLen at r1 r2
      generalize w8.drewN nq = w9 at *
      have hshort : ∃ sb : Bool, sb = (decide (l1.length < l2.length) && ((⟨(l2.take l1.length).toArray⟩ : ByteArray).toList == (⟨l1.toArray⟩ : ByteArray).toList)) := ⟨_, rfl⟩
      have hsf : l1.length < l2.length → ((⟨(l2.take l1.length).toArray⟩ : ByteArray).toList == (⟨l1.toArray⟩ : ByteArray).toList) = false := fun h => by
        rw [ByteArray.toList_eq, ByteArray.toList_eq, beq_eq_false_iff_ne]
        intro e
        have e2 : l2.take l1.length = l1 := by simpa using e
        have e3 := HSH.out (l2.drop l1.length) (by rw [← e2]; simp only [List.length_take]; rw [show min l1.length l2.length = l1.length by omega]; rw [List.take_append_drop])
        have e4 := congrArg List.length e3
        simp at e4; omega
      clear hshort
      have HK := Lib.hid (show ∀ (K : World → Prop), K w9 → K w9 from fun _ h => h)
      clear HK
      by_cases hlen : l1.length < l2.length
      · have hdr8 := fun (n : Nat) => below_drewN' w9 n
        obtain ⟨G, rfl⟩ : ∃ G, A2 = some ⟨G, 0, none⟩ := by
          rcases HS2.out with h | h
          · rw [h] at hlen; simp at hlen
          · exact h
        have X2 := fun (n : Nat) => byts_front (q := p2) (byts_kept HV2_8.out (below_drewN' w9 n)) l1.length (by omega)
        have hsf2 := hsf hlen
        generalize (⟨(l2.take l1.length).toArray⟩ : ByteArray) = S2 at *
        generalize (⟨l1.toArray⟩ : ByteArray) = S1 at *
        clear hsf hdr8
        have hlt2 : decide (l1.length < l2.length) = true := by simpa using hlen
        go_wp2
        go_quiet (fail)
        clear X1 X2 hsf2 hlt2
        go_wp2
        have a0_9 := cell_below (below_drewN' w9 nq) a0_8
        have a1_9 := cell_below (below_drewN' w9 nq) a1_8
        have a2_9 := cell_below (below_drewN' w9 nq) a2_8
        have a3_9 := cell_below (below_drewN' w9 nq) a3_8
        have a4_9 := cell_below (below_drewN' w9 nq) a4_8
        have e0_9 := cell_below (below_drewN' w9 nq) e0_8
        have e1_9 := cell_below (below_drewN' w9 nq) e1_8
        have e2_9 := cell_below (below_drewN' w9 nq) e2_8
        have e3_9 := cell_below (below_drewN' w9 nq) e3_8
        have e4_9 := cell_below (below_drewN' w9 nq) e4_8
        have HRt_9 := Lib.hid (HRt_8.out.below (below_drewN' w9 nq))
        have HRu_9 := Lib.hid (HRu_8.out.below (below_drewN' w9 nq))
        have HB_9 := Lib.hid (HB_8.out.trans ((below_drewN' w9 nq).mono HB_8.out.size))
        clear a0_8 a1_8 a2_8 a3_8 a4_8 e0_8 e1_8 e2_8 e3_8 e4_8 HRt_8 HRu_8 HT_8 HV1_8 HV2_8 HB_8
        clear HS1 HS2 HSH
        generalize w9.drewN nq = wz at *
        have h1 := fun (W' : World) (hW : Below wz.heap.size wz W') => copy_t t an ai cn ci W' ok (HRt_9.out.below hW) hbt
        have h2 := fun (W' : World) (hW : Below wz.heap.size wz W') => copy_t u an1 ai1 cn1 ci1 W' ok' (HRu_9.out.below hW) hbu
        have heq := fun (W' : World) (hW : Below wz.heap.size wz W') => equal_c t u _ _ W' _ _ (HRt_9.out.below hW) (HRu_9.out.below hW)
        have HCMP := Lib.hid (fun (W : World) (ok ok' : Nat → Prop) (cs ds : List Value) (hr : Rep W ok t cs) (hu : Rep W ok' u ds) => cmp_c t u cs ds W ok ok' hr hu)
        have hdr := Lib.hid (Below.drew (Below.refl wz.heap.size wz))
        have hSS : ∀ W', Below wz.heap.size wz W' → (fun w' => w'.cell? ⟨w.heap.size, 0, none⟩ = some (.int .i64 t.kind) ∧ w'.cell? ⟨w.heap.size, 1, none⟩ = some (.int .i64 t.int) ∧ w'.cell? ⟨w.heap.size, 2, none⟩ = some (.string t.text) ∧ w'.cell? ⟨w.heap.size, 3, none⟩ = some (.slice an t.names.length cn) ∧ w'.cell? ⟨w.heap.size, 4, none⟩ = some (.slice ai t.items.length ci) ∧ w'.cell? ⟨w.heap.size + 1, 0, none⟩ = some (.int .i64 u.kind) ∧ w'.cell? ⟨w.heap.size + 1, 1, none⟩ = some (.int .i64 u.int) ∧ w'.cell? ⟨w.heap.size + 1, 2, none⟩ = some (.string u.text) ∧ w'.cell? ⟨w.heap.size + 1, 3, none⟩ = some (.slice an1 u.names.length cn1) ∧ w'.cell? ⟨w.heap.size + 1, 4, none⟩ = some (.slice ai1 u.items.length ci1)) W' := fun W' hW => ⟨cell_below hW a0_9, cell_below hW a1_9, cell_below hW a2_9, cell_below hW a3_9, cell_below hW a4_9, cell_below hW e0_9, cell_below hW e1_9, cell_below hW e2_9, cell_below hW e3_9, cell_below hW e4_9⟩
        have HSS := Lib.hid hSS
        clear hSS
        have htt : ord t t = 0 := by have := (ord_anti t t).1; omega
        have hsm : (ord t u = 0 ∧ same t u = true) ∨ (ord t u ≠ 0 ∧ same t u = false) := by
          by_cases h : ord t u = 0
          · exact .inl ⟨h, by rw [← HZE.out h]; exact same_self t⟩
          · refine .inr ⟨h, ?_⟩
            cases hs : same t u with
            | false => rfl
            | true => exact absurd (by rw [← (same_iff t u).1 hs]; exact htt) h
        clear htt HZE HAL
        generalize ord t u = o at *
        generalize same t u = sm at *
        rcases hsm with ⟨rfl, rfl⟩ | ⟨hz, rfl⟩
        · skip
          go_region_held3 (fun w' => w'.cell? ⟨w.heap.size, 0, none⟩ = some (.int .i64 t.kind) ∧ w'.cell? ⟨w.heap.size, 1, none⟩ = some (.int .i64 t.int) ∧ w'.cell? ⟨w.heap.size, 2, none⟩ = some (.string t.text) ∧ w'.cell? ⟨w.heap.size, 3, none⟩ = some (.slice an t.names.length cn) ∧ w'.cell? ⟨w.heap.size, 4, none⟩ = some (.slice ai t.items.length ci) ∧ w'.cell? ⟨w.heap.size + 1, 0, none⟩ = some (.int .i64 u.kind) ∧ w'.cell? ⟨w.heap.size + 1, 1, none⟩ = some (.int .i64 u.int) ∧ w'.cell? ⟨w.heap.size + 1, 2, none⟩ = some (.string u.text) ∧ w'.cell? ⟨w.heap.size + 1, 3, none⟩ = some (.slice an1 u.names.length cn1) ∧ w'.cell? ⟨w.heap.size + 1, 4, none⟩ = some (.slice ai1 u.items.length ci1)) (exact HSS.out _ (by first | with_reducible exact hdr.out | with_reducible exact hB1 | with_reducible exact hB2 | with_reducible exact hB3 | with_reducible exact hB4 | with_reducible exact hB5)) (first
            | (rw [if_pos (by rfl)]; go_simp; go_at_call 12; refine (live_c x4).mono ?_; rintro e x5 ⟨rfl, hb5x⟩; have hB5 := hB4.trans (hb5x.mono hB4.size); dsimp only)
            | (rw [if_pos (by rfl)]; go_simp; go_at_call 19; refine (heq x3 hB3).mono ?_; rintro e x4 ⟨rfl, hb4x⟩; have hB4 := hB3.trans (hb4x.mono hB3.size); dsimp only)
            | (rw [if_pos (by rfl)]; go_simp; go_at_call 15; refine (HCMP.out x2 _ _ _ _ (hx1.below hb2x) hx2).mono ?_; rintro e x3 ⟨rfl, hb3x⟩; have hB3 := hB2.trans (hb3x.mono hB2.size); have ya0 := cell_below (hB3) a0_9; have ye0 := cell_below (hB3) e0_9; have ya1 := cell_below (hB3) a1_9; have ye1 := cell_below (hB3) e1_9; have ya2 := cell_below (hB3) a2_9; have ye2 := cell_below (hB3) e2_9; have ya3 := cell_below (hB3) a3_9; have ye3 := cell_below (hB3) e3_9; have ya4 := cell_below (hB3) a4_9; have ye4 := cell_below (hB3) e4_9; dsimp only)
            | (rw [if_pos (by rfl)]; go_simp; go_at_call 14; refine (h2 x1 hB1).mono ?_; rintro e x2 ⟨yan, ycn, yai, yci, rfl, hx2, hb2x⟩; have hB2 := hB1.trans (hb2x.mono hB1.size); dsimp only)
            | (rw [if_pos (by rfl)]; go_simp; go_at_call 14; refine (h1 wz.drew hdr.out).mono ?_; rintro e x1 ⟨xan, xcn, xai, xci, rfl, hx1, hb1x⟩; have hB1 := Below.trans hdr.out hb1x; have za0 := cell_below (hB1) a0_9; have ze0 := cell_below (hB1) e0_9; have za1 := cell_below (hB1) a1_9; have ze1 := cell_below (hB1) e1_9; have za2 := cell_below (hB1) a2_9; have ze2 := cell_below (hB1) e2_9; have za3 := cell_below (hB1) a3_9; have ze3 := cell_below (hB1) e3_9; have za4 := cell_below (hB1) a4_9; have ze4 := cell_below (hB1) e4_9; dsimp only))
          all_goals have HBw := Lib.hid (HB_9.out.trans (hB5.mono HB_9.out.size))
          all_goals clear hx1 hx2 hb1x hb2x hb3x hb4x hb5x hB1 hB2 hB3 hB4 hB5 h1 h2 heq HCMP HSS hdr za0 ya0 za1 ya1 za2 ya2 za3 ya3 za4 ya4 ze0 ye0 ze1 ye1 ze2 ye2 ze3 ye3 ze4 ye4 a0_9 a1_9 a2_9 a3_9 a4_9 e0_9 e1_9 e2_9 e3_9 e4_9
          all_goals go_wp2
          all_goals go_ret
          all_goals exact ⟨rfl, HBw.out⟩
        · have hzb : (o == 0) = false := by simpa using hz
          go_region_held3 (fun w' => w'.cell? ⟨w.heap.size, 0, none⟩ = some (.int .i64 t.kind) ∧ w'.cell? ⟨w.heap.size, 1, none⟩ = some (.int .i64 t.int) ∧ w'.cell? ⟨w.heap.size, 2, none⟩ = some (.string t.text) ∧ w'.cell? ⟨w.heap.size, 3, none⟩ = some (.slice an t.names.length cn) ∧ w'.cell? ⟨w.heap.size, 4, none⟩ = some (.slice ai t.items.length ci) ∧ w'.cell? ⟨w.heap.size + 1, 0, none⟩ = some (.int .i64 u.kind) ∧ w'.cell? ⟨w.heap.size + 1, 1, none⟩ = some (.int .i64 u.int) ∧ w'.cell? ⟨w.heap.size + 1, 2, none⟩ = some (.string u.text) ∧ w'.cell? ⟨w.heap.size + 1, 3, none⟩ = some (.slice an1 u.names.length cn1) ∧ w'.cell? ⟨w.heap.size + 1, 4, none⟩ = some (.slice ai1 u.items.length ci1)) (exact HSS.out _ (by first | with_reducible exact hdr.out | with_reducible exact hB1 | with_reducible exact hB2 | with_reducible exact hB3 | with_reducible exact hB4 | with_reducible exact hB5)) (first
            | (rw [if_pos (by rfl)]; go_simp; go_at_call 12; refine (live_c x4).mono ?_; rintro e x5 ⟨rfl, hb5x⟩; have hB5 := hB4.trans (hb5x.mono hB4.size); dsimp only)
            | (rw [if_pos (by rfl)]; go_simp; go_at_call 19; refine (heq x3 hB3).mono ?_; rintro e x4 ⟨rfl, hb4x⟩; have hB4 := hB3.trans (hb4x.mono hB3.size); dsimp only)
            | (rw [if_pos (by rfl)]; go_simp; go_at_call 15; refine (HCMP.out x2 _ _ _ _ (hx1.below hb2x) hx2).mono ?_; rintro e x3 ⟨rfl, hb3x⟩; have hB3 := hB2.trans (hb3x.mono hB2.size); have ya0 := cell_below (hB3) a0_9; have ye0 := cell_below (hB3) e0_9; have ya1 := cell_below (hB3) a1_9; have ye1 := cell_below (hB3) e1_9; have ya2 := cell_below (hB3) a2_9; have ye2 := cell_below (hB3) e2_9; have ya3 := cell_below (hB3) a3_9; have ye3 := cell_below (hB3) e3_9; have ya4 := cell_below (hB3) a4_9; have ye4 := cell_below (hB3) e4_9; dsimp only)
            | (rw [if_pos (by rfl)]; go_simp; go_at_call 14; refine (h2 x1 hB1).mono ?_; rintro e x2 ⟨yan, ycn, yai, yci, rfl, hx2, hb2x⟩; have hB2 := hB1.trans (hb2x.mono hB1.size); dsimp only)
            | (rw [if_pos (by rfl)]; go_simp; go_at_call 14; refine (h1 wz.drew hdr.out).mono ?_; rintro e x1 ⟨xan, xcn, xai, xci, rfl, hx1, hb1x⟩; have hB1 := Below.trans hdr.out hb1x; have za0 := cell_below (hB1) a0_9; have ze0 := cell_below (hB1) e0_9; have za1 := cell_below (hB1) a1_9; have ze1 := cell_below (hB1) e1_9; have za2 := cell_below (hB1) a2_9; have ze2 := cell_below (hB1) e2_9; have za3 := cell_below (hB1) a3_9; have ze3 := cell_below (hB1) e3_9; have za4 := cell_below (hB1) a4_9; have ze4 := cell_below (hB1) e4_9; dsimp only))
          all_goals have HBw := Lib.hid (HB_9.out.trans (hB5.mono HB_9.out.size))
          all_goals clear hx1 hx2 hb1x hb2x hb3x hb4x hb5x hB1 hB2 hB3 hB4 hB5 h1 h2 heq HCMP HSS hdr za0 ya0 za1 ya1 za2 ya2 za3 ya3 za4 ya4 ze0 ye0 ze1 ye1 ze2 ye2 ze3 ye3 ze4 ye4 a0_9 a1_9 a2_9 a3_9 a4_9 e0_9 e1_9 e2_9 e3_9 e4_9
          all_goals go_wp2
          all_goals go_ret
          all_goals exact ⟨rfl, HBw.out⟩
      · have hdr8 := fun (n : Nat) => below_drewN' w9 n
        clear hsf hdr8
        have hlt2 : decide (l1.length < l2.length) = false := by simpa using hlen
        go_wp2
        go_quiet (fail)
        clear X1 hlt2
        go_wp2
        have a0_9 := cell_below (below_drewN' w9 nq) a0_8
        have a1_9 := cell_below (below_drewN' w9 nq) a1_8
        have a2_9 := cell_below (below_drewN' w9 nq) a2_8
        have a3_9 := cell_below (below_drewN' w9 nq) a3_8
        have a4_9 := cell_below (below_drewN' w9 nq) a4_8
        have e0_9 := cell_below (below_drewN' w9 nq) e0_8
        have e1_9 := cell_below (below_drewN' w9 nq) e1_8
        have e2_9 := cell_below (below_drewN' w9 nq) e2_8
        have e3_9 := cell_below (below_drewN' w9 nq) e3_8
        have e4_9 := cell_below (below_drewN' w9 nq) e4_8
        have HRt_9 := Lib.hid (HRt_8.out.below (below_drewN' w9 nq))
        have HRu_9 := Lib.hid (HRu_8.out.below (below_drewN' w9 nq))
        have HB_9 := Lib.hid (HB_8.out.trans ((below_drewN' w9 nq).mono HB_8.out.size))
        clear a0_8 a1_8 a2_8 a3_8 a4_8 e0_8 e1_8 e2_8 e3_8 e4_8 HRt_8 HRu_8 HT_8 HV1_8 HV2_8 HB_8
        clear HS1 HS2 HSH
        generalize w9.drewN nq = wz at *
        have h1 := fun (W' : World) (hW : Below wz.heap.size wz W') => copy_t t an ai cn ci W' ok (HRt_9.out.below hW) hbt
        have h2 := fun (W' : World) (hW : Below wz.heap.size wz W') => copy_t u an1 ai1 cn1 ci1 W' ok' (HRu_9.out.below hW) hbu
        have heq := fun (W' : World) (hW : Below wz.heap.size wz W') => equal_c t u _ _ W' _ _ (HRt_9.out.below hW) (HRu_9.out.below hW)
        have HCMP := Lib.hid (fun (W : World) (ok ok' : Nat → Prop) (cs ds : List Value) (hr : Rep W ok t cs) (hu : Rep W ok' u ds) => cmp_c t u cs ds W ok ok' hr hu)
        have hdr := Lib.hid (Below.drew (Below.refl wz.heap.size wz))
        have hSS : ∀ W', Below wz.heap.size wz W' → (fun w' => w'.cell? ⟨w.heap.size, 0, none⟩ = some (.int .i64 t.kind) ∧ w'.cell? ⟨w.heap.size, 1, none⟩ = some (.int .i64 t.int) ∧ w'.cell? ⟨w.heap.size, 2, none⟩ = some (.string t.text) ∧ w'.cell? ⟨w.heap.size, 3, none⟩ = some (.slice an t.names.length cn) ∧ w'.cell? ⟨w.heap.size, 4, none⟩ = some (.slice ai t.items.length ci) ∧ w'.cell? ⟨w.heap.size + 1, 0, none⟩ = some (.int .i64 u.kind) ∧ w'.cell? ⟨w.heap.size + 1, 1, none⟩ = some (.int .i64 u.int) ∧ w'.cell? ⟨w.heap.size + 1, 2, none⟩ = some (.string u.text) ∧ w'.cell? ⟨w.heap.size + 1, 3, none⟩ = some (.slice an1 u.names.length cn1) ∧ w'.cell? ⟨w.heap.size + 1, 4, none⟩ = some (.slice ai1 u.items.length ci1)) W' := fun W' hW => ⟨cell_below hW a0_9, cell_below hW a1_9, cell_below hW a2_9, cell_below hW a3_9, cell_below hW a4_9, cell_below hW e0_9, cell_below hW e1_9, cell_below hW e2_9, cell_below hW e3_9, cell_below hW e4_9⟩
        have HSS := Lib.hid hSS
        clear hSS
        have htt : ord t t = 0 := by have := (ord_anti t t).1; omega
        have hsm : (ord t u = 0 ∧ same t u = true) ∨ (ord t u ≠ 0 ∧ same t u = false) := by
          by_cases h : ord t u = 0
          · exact .inl ⟨h, by rw [← HZE.out h]; exact same_self t⟩
          · refine .inr ⟨h, ?_⟩
            cases hs : same t u with
            | false => rfl
            | true => exact absurd (by rw [← (same_iff t u).1 hs]; exact htt) h
        clear htt HZE HAL
        generalize ord t u = o at *
        generalize same t u = sm at *
        rcases hsm with ⟨rfl, rfl⟩ | ⟨hz, rfl⟩
        · skip
          go_region_held3 (fun w' => w'.cell? ⟨w.heap.size, 0, none⟩ = some (.int .i64 t.kind) ∧ w'.cell? ⟨w.heap.size, 1, none⟩ = some (.int .i64 t.int) ∧ w'.cell? ⟨w.heap.size, 2, none⟩ = some (.string t.text) ∧ w'.cell? ⟨w.heap.size, 3, none⟩ = some (.slice an t.names.length cn) ∧ w'.cell? ⟨w.heap.size, 4, none⟩ = some (.slice ai t.items.length ci) ∧ w'.cell? ⟨w.heap.size + 1, 0, none⟩ = some (.int .i64 u.kind) ∧ w'.cell? ⟨w.heap.size + 1, 1, none⟩ = some (.int .i64 u.int) ∧ w'.cell? ⟨w.heap.size + 1, 2, none⟩ = some (.string u.text) ∧ w'.cell? ⟨w.heap.size + 1, 3, none⟩ = some (.slice an1 u.names.length cn1) ∧ w'.cell? ⟨w.heap.size + 1, 4, none⟩ = some (.slice ai1 u.items.length ci1)) (exact HSS.out _ (by first | with_reducible exact hdr.out | with_reducible exact hB1 | with_reducible exact hB2 | with_reducible exact hB3 | with_reducible exact hB4 | with_reducible exact hB5)) (first
            | (rw [if_pos (by rfl)]; go_simp; go_at_call 12; refine (live_c x4).mono ?_; rintro e x5 ⟨rfl, hb5x⟩; have hB5 := hB4.trans (hb5x.mono hB4.size); dsimp only)
            | (rw [if_pos (by rfl)]; go_simp; go_at_call 19; refine (heq x3 hB3).mono ?_; rintro e x4 ⟨rfl, hb4x⟩; have hB4 := hB3.trans (hb4x.mono hB3.size); dsimp only)
            | (rw [if_pos (by rfl)]; go_simp; go_at_call 15; refine (HCMP.out x2 _ _ _ _ (hx1.below hb2x) hx2).mono ?_; rintro e x3 ⟨rfl, hb3x⟩; have hB3 := hB2.trans (hb3x.mono hB2.size); have ya0 := cell_below (hB3) a0_9; have ye0 := cell_below (hB3) e0_9; have ya1 := cell_below (hB3) a1_9; have ye1 := cell_below (hB3) e1_9; have ya2 := cell_below (hB3) a2_9; have ye2 := cell_below (hB3) e2_9; have ya3 := cell_below (hB3) a3_9; have ye3 := cell_below (hB3) e3_9; have ya4 := cell_below (hB3) a4_9; have ye4 := cell_below (hB3) e4_9; dsimp only)
            | (rw [if_pos (by rfl)]; go_simp; go_at_call 14; refine (h2 x1 hB1).mono ?_; rintro e x2 ⟨yan, ycn, yai, yci, rfl, hx2, hb2x⟩; have hB2 := hB1.trans (hb2x.mono hB1.size); dsimp only)
            | (rw [if_pos (by rfl)]; go_simp; go_at_call 14; refine (h1 wz.drew hdr.out).mono ?_; rintro e x1 ⟨xan, xcn, xai, xci, rfl, hx1, hb1x⟩; have hB1 := Below.trans hdr.out hb1x; have za0 := cell_below (hB1) a0_9; have ze0 := cell_below (hB1) e0_9; have za1 := cell_below (hB1) a1_9; have ze1 := cell_below (hB1) e1_9; have za2 := cell_below (hB1) a2_9; have ze2 := cell_below (hB1) e2_9; have za3 := cell_below (hB1) a3_9; have ze3 := cell_below (hB1) e3_9; have za4 := cell_below (hB1) a4_9; have ze4 := cell_below (hB1) e4_9; dsimp only))
          all_goals have HBw := Lib.hid (HB_9.out.trans (hB5.mono HB_9.out.size))
          all_goals clear hx1 hx2 hb1x hb2x hb3x hb4x hb5x hB1 hB2 hB3 hB4 hB5 h1 h2 heq HCMP HSS hdr za0 ya0 za1 ya1 za2 ya2 za3 ya3 za4 ya4 ze0 ye0 ze1 ye1 ze2 ye2 ze3 ye3 ze4 ye4 a0_9 a1_9 a2_9 a3_9 a4_9 e0_9 e1_9 e2_9 e3_9 e4_9
          all_goals go_wp2
          all_goals go_ret
          all_goals exact ⟨rfl, HBw.out⟩
        · have hzb : (o == 0) = false := by simpa using hz
          go_region_held3 (fun w' => w'.cell? ⟨w.heap.size, 0, none⟩ = some (.int .i64 t.kind) ∧ w'.cell? ⟨w.heap.size, 1, none⟩ = some (.int .i64 t.int) ∧ w'.cell? ⟨w.heap.size, 2, none⟩ = some (.string t.text) ∧ w'.cell? ⟨w.heap.size, 3, none⟩ = some (.slice an t.names.length cn) ∧ w'.cell? ⟨w.heap.size, 4, none⟩ = some (.slice ai t.items.length ci) ∧ w'.cell? ⟨w.heap.size + 1, 0, none⟩ = some (.int .i64 u.kind) ∧ w'.cell? ⟨w.heap.size + 1, 1, none⟩ = some (.int .i64 u.int) ∧ w'.cell? ⟨w.heap.size + 1, 2, none⟩ = some (.string u.text) ∧ w'.cell? ⟨w.heap.size + 1, 3, none⟩ = some (.slice an1 u.names.length cn1) ∧ w'.cell? ⟨w.heap.size + 1, 4, none⟩ = some (.slice ai1 u.items.length ci1)) (exact HSS.out _ (by first | with_reducible exact hdr.out | with_reducible exact hB1 | with_reducible exact hB2 | with_reducible exact hB3 | with_reducible exact hB4 | with_reducible exact hB5)) (first
            | (rw [if_pos (by rfl)]; go_simp; go_at_call 12; refine (live_c x4).mono ?_; rintro e x5 ⟨rfl, hb5x⟩; have hB5 := hB4.trans (hb5x.mono hB4.size); dsimp only)
            | (rw [if_pos (by rfl)]; go_simp; go_at_call 19; refine (heq x3 hB3).mono ?_; rintro e x4 ⟨rfl, hb4x⟩; have hB4 := hB3.trans (hb4x.mono hB3.size); dsimp only)
            | (rw [if_pos (by rfl)]; go_simp; go_at_call 15; refine (HCMP.out x2 _ _ _ _ (hx1.below hb2x) hx2).mono ?_; rintro e x3 ⟨rfl, hb3x⟩; have hB3 := hB2.trans (hb3x.mono hB2.size); have ya0 := cell_below (hB3) a0_9; have ye0 := cell_below (hB3) e0_9; have ya1 := cell_below (hB3) a1_9; have ye1 := cell_below (hB3) e1_9; have ya2 := cell_below (hB3) a2_9; have ye2 := cell_below (hB3) e2_9; have ya3 := cell_below (hB3) a3_9; have ye3 := cell_below (hB3) e3_9; have ya4 := cell_below (hB3) a4_9; have ye4 := cell_below (hB3) e4_9; dsimp only)
            | (rw [if_pos (by rfl)]; go_simp; go_at_call 14; refine (h2 x1 hB1).mono ?_; rintro e x2 ⟨yan, ycn, yai, yci, rfl, hx2, hb2x⟩; have hB2 := hB1.trans (hb2x.mono hB1.size); dsimp only)
            | (rw [if_pos (by rfl)]; go_simp; go_at_call 14; refine (h1 wz.drew hdr.out).mono ?_; rintro e x1 ⟨xan, xcn, xai, xci, rfl, hx1, hb1x⟩; have hB1 := Below.trans hdr.out hb1x; have za0 := cell_below (hB1) a0_9; have ze0 := cell_below (hB1) e0_9; have za1 := cell_below (hB1) a1_9; have ze1 := cell_below (hB1) e1_9; have za2 := cell_below (hB1) a2_9; have ze2 := cell_below (hB1) e2_9; have za3 := cell_below (hB1) a3_9; have ze3 := cell_below (hB1) e3_9; have za4 := cell_below (hB1) a4_9; have ze4 := cell_below (hB1) e4_9; dsimp only))
          all_goals have HBw := Lib.hid (HB_9.out.trans (hB5.mono HB_9.out.size))
          all_goals clear hx1 hx2 hb1x hb2x hb3x hb4x hb5x hB1 hB2 hB3 hB4 hB5 h1 h2 heq HCMP HSS hdr za0 ya0 za1 ya1 za2 ya2 za3 ya3 za4 ya4 ze0 ye0 ze1 ye1 ze2 ye2 ze3 ye3 ze4 ye4 a0_9 a1_9 a2_9 a3_9 a4_9 e0_9 e1_9 e2_9 e3_9 e4_9
          all_goals go_wp2
          all_goals go_ret
          all_goals exact ⟨rfl, HBw.out⟩
end Go.Proofs.YtjmhoccikbgigaaDoor
