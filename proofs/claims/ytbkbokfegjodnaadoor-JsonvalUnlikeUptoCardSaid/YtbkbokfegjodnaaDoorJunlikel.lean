/- The walk of the law JsonvalUnlike. Conditions: what lies in the package-level variables; what a tree holds is at most 2 to the 40. -/
import Derived.Test.YtbkbokfegjodnaaDoorJbackl
import Derived.Test.YtbkbokfegjodnaaDoorEquw
import Derived.Deep.RegionHeld3
namespace Go.Proofs.YtbkbokfegjodnaaDoor
open Go.RowKit
theorem unlike_eq {t u : JV} (ht : okI t) (hu : okI u) (ct : chk t 0 = 0) (cu : chk u 0 = 0) (lt : ¬ 65536 < (jput t).length) : ((⟨(jput t).toArray⟩ : ByteArray).toList == (⟨(jput u).toArray⟩ : ByteArray).toList) = same t u := by
  rw [ByteArray.toList_eq, ByteArray.toList_eq, back_list, back_list, Bool.eq_iff_iff, beq_iff_eq, same_iff]
  exact ⟨fun h => jput_inj ht hu ct cu (by omega) h, fun h => by rw [h]⟩
set_option maxRecDepth 20000 in
set_option maxHeartbeats 8000000 in
theorem jsonvalUnlike_c (t u : JV) (cs ds : List Value) (w : World) (ok ok' : Nat → Prop) (hr : Rep w ok t cs) (hu : Rep w ok' u ds) (hbt : t.bulk ≤ 1099511627776) (hbu : u.bulk ≤ 1099511627776) (hT : JTabs w) :
    Calls Tryd.prog 11 #[.agg cs.toArray, .agg ds.toArray] w fun r w' => r = .returned (.bool true) ∧ Below w.heap.size w w' := by
  obtain ⟨an, cn, ai, ci, rfl⟩ := hr.form
  obtain ⟨an1, cn1, ai1, ci1, rfl⟩ := hu.form
  obtain ⟨a0, a1, a2, a3, a4⟩ := cells5 w (.int .i64 t.kind) (.int .i64 t.int) (.string t.text) (.slice an t.names.length cn) (.slice ai t.items.length ci) 28
  have hb0 := box_new w t an cn ai ci
  obtain ⟨b0, b1, b2, b3, b4⟩ := cells5 (w.alloc (.cells #[.int .i64 t.kind, .int .i64 t.int, .string t.text, .slice an t.names.length cn, .slice ai t.items.length ci] 28)) (.int .i64 u.kind) (.int .i64 u.int) (.string u.text) (.slice an1 u.names.length cn1) (.slice ai1 u.items.length ci1) 28
  have hb1 := box_new (w.alloc (.cells #[.int .i64 t.kind, .int .i64 t.int, .string t.text, .slice an t.names.length cn, .slice ai t.items.length ci] 28)) u an1 cn1 ai1 ci1
  have hB := below_trans hb0 hb1
  have A0 := cell_below hb1 a0
  have A1 := cell_below hb1 a1
  have A2 := cell_below hb1 a2
  have A3 := cell_below hb1 a3
  have A4 := cell_below hb1 a4
  clear a0 a1 a2 a3 a4
  simp only [World.size_alloc] at b0 b1 b2 b3 b4
  have hoit := rep_okI t _ hr
  have hoiu := rep_okI u _ hu
  have HRt_0 := Lib.hid (hr.below hB)
  have HRu_0 := Lib.hid (hu.below hB)
  have HT_0 := Lib.hid (hT.below hB)
  have HB_0 := Lib.hid hB
  clear hr hu hT hb0 hb1 hB
  have a0_0 := A0
  have a1_0 := A1
  have a2_0 := A2
  have a3_0 := A3
  have a4_0 := A4
  clear A0 A1 A2 A3 A4
  have b0_0 := b0
  have b1_0 := b1
  have b2_0 := b2
  have b3_0 := b3
  have b4_0 := b4
  clear b0 b1 b2 b3 b4
  have hl := large_t t an ai cn ci ((w.alloc (.cells #[.int .i64 t.kind, .int .i64 t.int, .string t.text, .slice an t.names.length cn, .slice ai t.items.length ci] 28)).alloc (.cells #[.int .i64 u.kind, .int .i64 u.int, .string u.text, .slice an1 u.names.length cn1, .slice ai1 u.items.length ci1] 28)) ok HRt_0.out hbt
  go_enter Tryd.func11, Tryd.ntmps11
  go_wp2_with fail
  refine hl.mono ?_; rintro e w1 ⟨rfl, hb1⟩
  have a0_1 := cell_below hb1 a0_0
  have a1_1 := cell_below hb1 a1_0
  have a2_1 := cell_below hb1 a2_0
  have a3_1 := cell_below hb1 a3_0
  have a4_1 := cell_below hb1 a4_0
  have b0_1 := cell_below hb1 b0_0
  have b1_1 := cell_below hb1 b1_0
  have b2_1 := cell_below hb1 b2_0
  have b3_1 := cell_below hb1 b3_0
  have b4_1 := cell_below hb1 b4_0
  have HRt_1 := Lib.hid (HRt_0.out.below hb1)
  have HRu_1 := Lib.hid (HRu_0.out.below hb1)
  have HT_1 := Lib.hid (HT_0.out.below hb1)
  have HB_1 := Lib.hid (HB_0.out.trans (hb1.mono HB_0.out.size))
  clear a0_0 a1_0 a2_0 a3_0 a4_0 b0_0 b1_0 b2_0 b3_0 b4_0 HRt_0 HRu_0 HT_0 HB_0 hl hb1
  cases hlt : largeB t with
  | true =>
    clear hlt
    go_wp2
    go_ret
    exact ⟨rfl, HB_1.out⟩
  | false =>
    clear hlt
    have hl := large_t u an1 ai1 cn1 ci1 w1 ok' HRu_1.out hbu
    go_wp2_with fail
    refine hl.mono ?_; rintro e w2 ⟨rfl, hb2⟩
    have a0_2 := cell_below hb2 a0_1
    have a1_2 := cell_below hb2 a1_1
    have a2_2 := cell_below hb2 a2_1
    have a3_2 := cell_below hb2 a3_1
    have a4_2 := cell_below hb2 a4_1
    have b0_2 := cell_below hb2 b0_1
    have b1_2 := cell_below hb2 b1_1
    have b2_2 := cell_below hb2 b2_1
    have b3_2 := cell_below hb2 b3_1
    have b4_2 := cell_below hb2 b4_1
    have HRt_2 := Lib.hid (HRt_1.out.below hb2)
    have HRu_2 := Lib.hid (HRu_1.out.below hb2)
    have HT_2 := Lib.hid (HT_1.out.below hb2)
    have HB_2 := Lib.hid (HB_1.out.trans (hb2.mono HB_1.out.size))
    clear a0_1 a1_1 a2_1 a3_1 a4_1 b0_1 b1_1 b2_1 b3_1 b4_1 HRt_1 HRu_1 HT_1 HB_1 hl hb2
    cases hlt : largeB u with
    | true =>
      clear hlt
      go_wp2
      go_ret
      exact ⟨rfl, HB_2.out⟩
    | false =>
      clear hlt
      have hc := copy_t t an ai cn ci w2 ok HRt_2.out hbt
      go_wp2_with fail
      refine hc.mono ?_; rintro e w3 ⟨xan, xcn, xai, xci, rfl, hrc, hbc⟩
      have a0_3 := cell_below hbc a0_2
      have a1_3 := cell_below hbc a1_2
      have a2_3 := cell_below hbc a2_2
      have a3_3 := cell_below hbc a3_2
      have a4_3 := cell_below hbc a4_2
      have b0_3 := cell_below hbc b0_2
      have b1_3 := cell_below hbc b1_2
      have b2_3 := cell_below hbc b2_2
      have b3_3 := cell_below hbc b3_2
      have b4_3 := cell_below hbc b4_2
      have HRt_3 := Lib.hid (HRt_2.out.below hbc)
      have HRu_3 := Lib.hid (HRu_2.out.below hbc)
      have HT_3 := Lib.hid (HT_2.out.below hbc)
      have HB_3 := Lib.hid (HB_2.out.trans (hbc.mono HB_2.out.size))
      clear a0_2 a1_2 a2_2 a3_2 a4_2 b0_2 b1_2 b2_2 b3_2 b4_2 HRt_2 HRu_2 HT_2 HB_2
      have hp := print_t t xan xai xcn xci w3 _ hrc hbt HT_3.out
      clear hc hrc hbc
      go_wp2_with fail
      refine hp.mono ?_; rintro e w4 ⟨rfl, hbp⟩
      have a0_4 := cell_below hbp a0_3
      have a1_4 := cell_below hbp a1_3
      have a2_4 := cell_below hbp a2_3
      have a3_4 := cell_below hbp a3_3
      have a4_4 := cell_below hbp a4_3
      have b0_4 := cell_below hbp b0_3
      have b1_4 := cell_below hbp b1_3
      have b2_4 := cell_below hbp b2_3
      have b3_4 := cell_below hbp b3_3
      have b4_4 := cell_below hbp b4_3
      have HRt_4 := Lib.hid (HRt_3.out.below hbp)
      have HRu_4 := Lib.hid (HRu_3.out.below hbp)
      have HT_4 := Lib.hid (HT_3.out.below hbp)
      have HB_4 := Lib.hid (HB_3.out.trans (hbp.mono HB_3.out.size))
      clear a0_3 a1_3 a2_3 a3_3 a4_3 b0_3 b1_3 b2_3 b3_3 b4_3 HRt_3 HRu_3 HT_3 HB_3 hp hbp
      have hc := copy_t u an1 ai1 cn1 ci1 w4 ok' HRu_4.out hbu
      go_wp2_with fail
      refine hc.mono ?_; rintro e w5 ⟨xan, xcn, xai, xci, rfl, hrc, hbc⟩
      have a0_5 := cell_below hbc a0_4
      have a1_5 := cell_below hbc a1_4
      have a2_5 := cell_below hbc a2_4
      have a3_5 := cell_below hbc a3_4
      have a4_5 := cell_below hbc a4_4
      have b0_5 := cell_below hbc b0_4
      have b1_5 := cell_below hbc b1_4
      have b2_5 := cell_below hbc b2_4
      have b3_5 := cell_below hbc b3_4
      have b4_5 := cell_below hbc b4_4
      have HRt_5 := Lib.hid (HRt_4.out.below hbc)
      have HRu_5 := Lib.hid (HRu_4.out.below hbc)
      have HT_5 := Lib.hid (HT_4.out.below hbc)
      have HB_5 := Lib.hid (HB_4.out.trans (hbc.mono HB_4.out.size))
      clear a0_4 a1_4 a2_4 a3_4 a4_4 b0_4 b1_4 b2_4 b3_4 b4_4 HRt_4 HRu_4 HT_4 HB_4
      have hp := print_t u xan xai xcn xci w5 _ hrc hbu HT_5.out
      clear hc hrc hbc
      go_wp2_with fail
      refine hp.mono ?_; rintro e w6 ⟨rfl, hbp⟩
      have a0_6 := cell_below hbp a0_5
      have a1_6 := cell_below hbp a1_5
      have a2_6 := cell_below hbp a2_5
      have a3_6 := cell_below hbp a3_5
      have a4_6 := cell_below hbp a4_5
      have b0_6 := cell_below hbp b0_5
      have b1_6 := cell_below hbp b1_5
      have b2_6 := cell_below hbp b2_5
      have b3_6 := cell_below hbp b3_5
      have b4_6 := cell_below hbp b4_5
      have HRt_6 := Lib.hid (HRt_5.out.below hbp)
      have HRu_6 := Lib.hid (HRu_5.out.below hbp)
      have HT_6 := Lib.hid (HT_5.out.below hbp)
      have HB_6 := Lib.hid (HB_5.out.trans (hbp.mono HB_5.out.size))
      clear a0_5 a1_5 a2_5 a3_5 a4_5 b0_5 b1_5 b2_5 b3_5 b4_5 HRt_5 HRu_5 HT_5 HB_5 hp hbp
      rcases jprint_cases t with ⟨e, hj, he⟩ | ⟨hj, hck, hln⟩
      · rw [hj]
        have hen : (e != 0) = true := by simp only [bne, he]; rfl
        have hl := live_c _ HT_6.out
        clear a0_6 b0_6 a1_6 b1_6 a2_6 b2_6 a3_6 b3_6 a4_6 b4_6 HRt_6 HRu_6 HT_6 hj
        go_wp2_with fail
        refine (lnum_c _ _).mono ?_; rintro e w7 ⟨rfl, rfl⟩
        go_wp2_with fail
        refine hl.mono ?_; rintro e w8 ⟨rfl, hb8⟩
        have HB9 := Lib.hid (below_trans HB_6.out hb8)
        clear hl hb8
        go_wp2
        go_ret
        exact ⟨rfl, HB9.out⟩
      rcases jprint_cases u with ⟨e, hj2, he⟩ | ⟨hj2, hck2, hln2⟩
      · rw [hj, hj2]
        have hen : (e != 0) = true := by simp only [bne, he]; rfl
        have hl := live_c _ HT_6.out
        clear a0_6 b0_6 a1_6 b1_6 a2_6 b2_6 a3_6 b3_6 a4_6 b4_6 HRt_6 HRu_6 HT_6 hj hj2 hck hln
        go_wp2_with fail
        refine (lnum_c _ _).mono ?_; rintro e w7 ⟨rfl, rfl⟩
        go_wp2_with fail
        refine (lnum_c _ _).mono ?_; rintro e w7 ⟨rfl, rfl⟩
        go_wp2_with fail
        refine hl.mono ?_; rintro e w8 ⟨rfl, hb8⟩
        have HB9 := Lib.hid (below_trans HB_6.out hb8)
        clear hl hb8
        go_wp2
        go_ret
        exact ⟨rfl, HB9.out⟩
      rw [hj, hj2]
      have heq := unlike_eq hoit hoiu hck hck2 hln
      clear hj hj2 hck hck2 hln hln2 hoit hoiu
      have HEQU := Lib.hid (fun (W : World) (ok ok' : Nat → Prop) (cs ds : List Value) (hr : Rep W ok t cs) (hu : Rep W ok' u ds) => equ_c t u cs ds W ok ok' hr hu)
      generalize same t u = bb at *
      generalize (⟨(jput t).toArray⟩ : ByteArray) = s1 at *
      generalize (⟨(jput u).toArray⟩ : ByteArray) = s2 at *
      have hbb : (bb == bb) = true := by cases bb <;> rfl
      go_wp2_with fail
      refine (lnum_c _ _).mono ?_; rintro e w7 ⟨rfl, rfl⟩
      go_wp2_with fail
      refine (lnum_c _ _).mono ?_; rintro e w9 ⟨rfl, rfl⟩
      go_wp2
      have h1 := fun (W' : World) (hW : Below w9.heap.size w9 W') => copy_t t an ai cn ci W' ok (HRt_6.out.below hW) hbt
      have h2 := fun (W' : World) (hW : Below w9.heap.size w9 W') => copy_t u an1 ai1 cn1 ci1 W' ok' (HRu_6.out.below hW) hbu
      have h4 := fun (W' : World) (hW : Below w9.heap.size w9 W') => live_c W' (HT_6.out.below hW)
      have hdr := Lib.hid (Below.drew (Below.refl w9.heap.size w9))
      have hSS : ∀ W', Below w9.heap.size w9 W' → (fun w' => w'.cell? ⟨w.heap.size, 0, none⟩ = some (.int .i64 t.kind) ∧ w'.cell? ⟨w.heap.size, 1, none⟩ = some (.int .i64 t.int) ∧ w'.cell? ⟨w.heap.size, 2, none⟩ = some (.string t.text) ∧ w'.cell? ⟨w.heap.size, 3, none⟩ = some (.slice an t.names.length cn) ∧ w'.cell? ⟨w.heap.size, 4, none⟩ = some (.slice ai t.items.length ci) ∧ w'.cell? ⟨w.heap.size + 1, 0, none⟩ = some (.int .i64 u.kind) ∧ w'.cell? ⟨w.heap.size + 1, 1, none⟩ = some (.int .i64 u.int) ∧ w'.cell? ⟨w.heap.size + 1, 2, none⟩ = some (.string u.text) ∧ w'.cell? ⟨w.heap.size + 1, 3, none⟩ = some (.slice an1 u.names.length cn1) ∧ w'.cell? ⟨w.heap.size + 1, 4, none⟩ = some (.slice ai1 u.items.length ci1)) W' := fun W' hW => ⟨cell_below hW a0_6, cell_below hW a1_6, cell_below hW a2_6, cell_below hW a3_6, cell_below hW a4_6, cell_below hW b0_6, cell_below hW b1_6, cell_below hW b2_6, cell_below hW b3_6, cell_below hW b4_6⟩
      have HSS := Lib.hid hSS
      clear hSS
      go_region_held3 (fun w' => w'.cell? ⟨w.heap.size, 0, none⟩ = some (.int .i64 t.kind) ∧ w'.cell? ⟨w.heap.size, 1, none⟩ = some (.int .i64 t.int) ∧ w'.cell? ⟨w.heap.size, 2, none⟩ = some (.string t.text) ∧ w'.cell? ⟨w.heap.size, 3, none⟩ = some (.slice an t.names.length cn) ∧ w'.cell? ⟨w.heap.size, 4, none⟩ = some (.slice ai t.items.length ci) ∧ w'.cell? ⟨w.heap.size + 1, 0, none⟩ = some (.int .i64 u.kind) ∧ w'.cell? ⟨w.heap.size + 1, 1, none⟩ = some (.int .i64 u.int) ∧ w'.cell? ⟨w.heap.size + 1, 2, none⟩ = some (.string u.text) ∧ w'.cell? ⟨w.heap.size + 1, 3, none⟩ = some (.slice an1 u.names.length cn1) ∧ w'.cell? ⟨w.heap.size + 1, 4, none⟩ = some (.slice ai1 u.items.length ci1)) (exact HSS.out _ (by first | with_reducible exact hdr.out | with_reducible exact hB1 | with_reducible exact hB2 | with_reducible exact hB3 | with_reducible exact hB4)) (first
        | (rw [if_pos (by rfl)]; go_simp; go_at_call 15; refine (h4 x3 hB3).mono ?_; rintro e x4 ⟨rfl, hb4x⟩; have hB4 := hB3.trans (hb4x.mono hB3.size); dsimp only)
        | (go_at_call 37; refine (HEQU.out x2 _ _ _ _ (hx1.below hb2x) hx2).mono ?_; rintro e x3 ⟨rfl, hb3x⟩; have hB3 := hB2.trans (hb3x.mono hB2.size); dsimp only)
        | (go_at_call 21; refine (h2 x1 hB1).mono ?_; rintro e x2 ⟨yan, ycn, yai, yci, rfl, hx2, hb2x⟩; have hB2 := hB1.trans (hb2x.mono hB1.size); dsimp only)
        | (go_at_call 21; refine (h1 w9.drew hdr.out).mono ?_; rintro e x1 ⟨xan, xcn, xai, xci, rfl, hx1, hb1x⟩; have hB1 := Below.trans hdr.out hb1x; have za0 := cell_below (hB1) a0_6; have za1 := cell_below (hB1) a1_6; have za2 := cell_below (hB1) a2_6; have za3 := cell_below (hB1) a3_6; have za4 := cell_below (hB1) a4_6; have zb0 := cell_below (hB1) b0_6; have zb1 := cell_below (hB1) b1_6; have zb2 := cell_below (hB1) b2_6; have zb3 := cell_below (hB1) b3_6; have zb4 := cell_below (hB1) b4_6; skip; dsimp only))
      have HBw := Lib.hid (HB_6.out.trans (hB4.mono HB_6.out.size))
      clear hB1 hB2 hB3 hB4 hb1x hb2x hb3x hb4x hx1 hx2 h1 h2 h4 hdr HSS
      go_wp2
      go_ret
      exact ⟨rfl, HBw.out⟩
end Go.Proofs.YtbkbokfegjodnaaDoor
