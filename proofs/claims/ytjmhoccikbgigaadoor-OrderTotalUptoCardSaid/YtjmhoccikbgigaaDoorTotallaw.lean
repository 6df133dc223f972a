/- The walk of the law OrderTotal. Conditions: what a tree holds is at most 2 to the 40. -/
import Derived.Test.YtjmhoccikbgigaaDoorCompareslaw
import Derived.Test.YtjmhoccikbgigaaDoorOrdtotal
namespace Go.Proofs.YtjmhoccikbgigaaDoor
open Go.RowKit
theorem imp2 {a b c : Prop} (h : a → b → c) : ¬ a ∨ ¬ b ∨ c := by
  by_cases ha : a
  · by_cases hb : b
    · exact .inr (.inr (h ha hb))
    · exact .inr (.inl hb)
  · exact .inl ha
set_option maxRecDepth 20000 in
set_option maxHeartbeats 8000000 in
theorem orderTotal_c (t u v : JV) (cs ds es : List Value) (w : World) (ok ok' ok2 : Nat → Prop) (hr : Rep w ok t cs) (hu : Rep w ok' u ds) (hv : Rep w ok2 v es) (hbt : t.bulk ≤ 1099511627776) (hbu : u.bulk ≤ 1099511627776) (hbv : v.bulk ≤ 1099511627776) :
    Calls Tryd.prog 7 #[.agg cs.toArray, .agg ds.toArray, .agg es.toArray] w fun e w' => e = .returned (.bool true) ∧ Below w.heap.size w w' := by
  obtain ⟨an, cn, ai, ci, rfl⟩ := hr.form
  obtain ⟨an1, cn1, ai1, ci1, rfl⟩ := hu.form
  obtain ⟨an9, cn9, ai9, ci9, rfl⟩ := hv.form
  obtain ⟨a0, a1, a2, a3, a4⟩ := cells5 w (.int .i64 t.kind) (.int .i64 t.int) (.string t.text) (.slice an t.names.length cn) (.slice ai t.items.length ci) 28
  have hb0 : Below w.heap.size w (w.alloc (.cells #[.int .i64 t.kind, .int .i64 t.int, .string t.text, .slice an t.names.length cn, .slice ai t.items.length ci] 28)) := (Below.refl _ _).alloc (Nat.le_refl _) _
  obtain ⟨b0, b1, b2, b3, b4⟩ := cells5 (w.alloc (.cells #[.int .i64 t.kind, .int .i64 t.int, .string t.text, .slice an t.names.length cn, .slice ai t.items.length ci] 28)) (.int .i64 u.kind) (.int .i64 u.int) (.string u.text) (.slice an1 u.names.length cn1) (.slice ai1 u.items.length ci1) 28
  have hb1 : Below ((w.alloc (.cells #[.int .i64 t.kind, .int .i64 t.int, .string t.text, .slice an t.names.length cn, .slice ai t.items.length ci] 28))).heap.size (w.alloc (.cells #[.int .i64 t.kind, .int .i64 t.int, .string t.text, .slice an t.names.length cn, .slice ai t.items.length ci] 28)) ((w.alloc (.cells #[.int .i64 t.kind, .int .i64 t.int, .string t.text, .slice an t.names.length cn, .slice ai t.items.length ci] 28)).alloc (.cells #[.int .i64 u.kind, .int .i64 u.int, .string u.text, .slice an1 u.names.length cn1, .slice ai1 u.items.length ci1] 28)) := (Below.refl _ _).alloc (Nat.le_refl _) _
  obtain ⟨c0, c1, c2, c3, c4⟩ := cells5 ((w.alloc (.cells #[.int .i64 t.kind, .int .i64 t.int, .string t.text, .slice an t.names.length cn, .slice ai t.items.length ci] 28)).alloc (.cells #[.int .i64 u.kind, .int .i64 u.int, .string u.text, .slice an1 u.names.length cn1, .slice ai1 u.items.length ci1] 28)) (.int .i64 v.kind) (.int .i64 v.int) (.string v.text) (.slice an9 v.names.length cn9) (.slice ai9 v.items.length ci9) 28
  have hb2 : Below (((w.alloc (.cells #[.int .i64 t.kind, .int .i64 t.int, .string t.text, .slice an t.names.length cn, .slice ai t.items.length ci] 28)).alloc (.cells #[.int .i64 u.kind, .int .i64 u.int, .string u.text, .slice an1 u.names.length cn1, .slice ai1 u.items.length ci1] 28))).heap.size ((w.alloc (.cells #[.int .i64 t.kind, .int .i64 t.int, .string t.text, .slice an t.names.length cn, .slice ai t.items.length ci] 28)).alloc (.cells #[.int .i64 u.kind, .int .i64 u.int, .string u.text, .slice an1 u.names.length cn1, .slice ai1 u.items.length ci1] 28)) (((w.alloc (.cells #[.int .i64 t.kind, .int .i64 t.int, .string t.text, .slice an t.names.length cn, .slice ai t.items.length ci] 28)).alloc (.cells #[.int .i64 u.kind, .int .i64 u.int, .string u.text, .slice an1 u.names.length cn1, .slice ai1 u.items.length ci1] 28)).alloc (.cells #[.int .i64 v.kind, .int .i64 v.int, .string v.text, .slice an9 v.names.length cn9, .slice ai9 v.items.length ci9] 28)) := (Below.refl _ _).alloc (Nat.le_refl _) _
  have hB := below_trans (below_trans hb0 hb1) hb2
  have A0 := cell_below (below_trans hb1 hb2) a0
  have B0 := cell_below hb2 b0
  have A1 := cell_below (below_trans hb1 hb2) a1
  have B1 := cell_below hb2 b1
  have A2 := cell_below (below_trans hb1 hb2) a2
  have B2 := cell_below hb2 b2
  have A3 := cell_below (below_trans hb1 hb2) a3
  have B3 := cell_below hb2 b3
  have A4 := cell_below (below_trans hb1 hb2) a4
  have B4 := cell_below hb2 b4
  clear a0 a1 a2 a3 a4 b0 b1 b2 b3 b4
  simp only [World.size_alloc] at B0 B1 B2 B3 B4 c0 c1 c2 c3 c4
  have HR := Lib.hid (And.intro (hr.below hB) (And.intro (hu.below hB) (And.intro (hv.below hB) hB)))
  have hl1 := large_t t an ai cn ci (((w.alloc (.cells #[.int .i64 t.kind, .int .i64 t.int, .string t.text, .slice an t.names.length cn, .slice ai t.items.length ci] 28)).alloc (.cells #[.int .i64 u.kind, .int .i64 u.int, .string u.text, .slice an1 u.names.length cn1, .slice ai1 u.items.length ci1] 28)).alloc (.cells #[.int .i64 v.kind, .int .i64 v.int, .string v.text, .slice an9 v.names.length cn9, .slice ai9 v.items.length ci9] 28)) ok HR.out.1 hbt
  clear hr hu hv hb0 hb1 hb2 hB
  go_enter Tryd.func7, Tryd.ntmps7
  go_wp2_with fail
  refine hl1.mono ?_; rintro e w1 ⟨rfl, hb1⟩
  clear hl1
  have D0 := cell_below hb1 A0
  have D1 := cell_below hb1 A1
  have D2 := cell_below hb1 A2
  have D3 := cell_below hb1 A3
  have D4 := cell_below hb1 A4
  have E0 := cell_below hb1 B0
  have E1 := cell_below hb1 B1
  have E2 := cell_below hb1 B2
  have E3 := cell_below hb1 B3
  have E4 := cell_below hb1 B4
  have F0 := cell_below hb1 c0
  have F1 := cell_below hb1 c1
  have F2 := cell_below hb1 c2
  have F3 := cell_below hb1 c3
  have F4 := cell_below hb1 c4
  have HR1 := Lib.hid (And.intro (HR.out.1.below hb1) (And.intro (HR.out.2.1.below hb1) (And.intro (HR.out.2.2.1.below hb1) (HR.out.2.2.2.trans (hb1.mono HR.out.2.2.2.size)))))
  clear HR hb1 A0 A1 A2 A3 A4 B0 B1 B2 B3 B4 c0 c1 c2 c3 c4
  cases hlt : largeB t with
  | true =>
    clear hlt
    go_wp2
    go_ret
    exact ⟨rfl, HR1.out.2.2.2⟩
  | false =>
    clear hlt
    have hl1 := large_t u an1 ai1 cn1 ci1 w1 ok' HR1.out.2.1 hbu
    go_wp2_with fail
    refine hl1.mono ?_; rintro e w2 ⟨rfl, hb1⟩
    clear hl1
    have A0 := cell_below hb1 D0
    have A1 := cell_below hb1 D1
    have A2 := cell_below hb1 D2
    have A3 := cell_below hb1 D3
    have A4 := cell_below hb1 D4
    have B0 := cell_below hb1 E0
    have B1 := cell_below hb1 E1
    have B2 := cell_below hb1 E2
    have B3 := cell_below hb1 E3
    have B4 := cell_below hb1 E4
    have C0 := cell_below hb1 F0
    have C1 := cell_below hb1 F1
    have C2 := cell_below hb1 F2
    have C3 := cell_below hb1 F3
    have C4 := cell_below hb1 F4
    have HR2 := Lib.hid (And.intro (HR1.out.1.below hb1) (And.intro (HR1.out.2.1.below hb1) (And.intro (HR1.out.2.2.1.below hb1) (HR1.out.2.2.2.trans (hb1.mono HR1.out.2.2.2.size)))))
    clear HR1 hb1 D0 D1 D2 D3 D4 E0 E1 E2 E3 E4 F0 F1 F2 F3 F4
    cases hlt : largeB u with
    | true =>
      clear hlt
      go_wp2
      go_ret
      exact ⟨rfl, HR2.out.2.2.2⟩
    | false =>
      clear hlt
      have hl1 := large_t v an9 ai9 cn9 ci9 w2 ok2 HR2.out.2.2.1 hbv
      go_wp2_with fail
      refine hl1.mono ?_; rintro e w3 ⟨rfl, hb1⟩
      clear hl1
      have D0 := cell_below hb1 A0
      have D1 := cell_below hb1 A1
      have D2 := cell_below hb1 A2
      have D3 := cell_below hb1 A3
      have D4 := cell_below hb1 A4
      have E0 := cell_below hb1 B0
      have E1 := cell_below hb1 B1
      have E2 := cell_below hb1 B2
      have E3 := cell_below hb1 B3
      have E4 := cell_below hb1 B4
      have F0 := cell_below hb1 C0
      have F1 := cell_below hb1 C1
      have F2 := cell_below hb1 C2
      have F3 := cell_below hb1 C3
      have F4 := cell_below hb1 C4
      have HR3 := Lib.hid (And.intro (HR2.out.1.below hb1) (And.intro (HR2.out.2.1.below hb1) (And.intro (HR2.out.2.2.1.below hb1) (HR2.out.2.2.2.trans (hb1.mono HR2.out.2.2.2.size)))))
      clear HR2 hb1 A0 A1 A2 A3 A4 B0 B1 B2 B3 B4 C0 C1 C2 C3 C4
      cases hlt : largeB v with
      | true =>
        clear hlt
        go_wp2
        go_ret
        exact ⟨rfl, HR3.out.2.2.2⟩
      | false =>
        clear hlt
        go_upto_region 3 with (fail)
        have h1 := fun (W' : World) (hW : Below w3.heap.size w3 W') => copy_t t an ai cn ci W' ok ((HR3.out.1).below hW) hbt
        have h2 := fun (W' : World) (hW : Below w3.heap.size w3 W') => copy_t u an1 ai1 cn1 ci1 W' ok' ((HR3.out.2.1).below hW) hbu
        have hdr := Lib.hid (Below.drew (Below.refl w3.heap.size w3))
        go_cut [7] from 20 to 24 (fun x wx => x = .int .i64 (ord t u) ∧ Below w3.heap.size w3 wx)
        case first =>
          go_region_with (first
            | (go_at_call 15; refine (cmp_c t u _ _ x2 _ _ (hx.below hby) hy).mono ?_; rintro e x3 ⟨rfl, hb3⟩)
            | (go_at_call 14; refine (h2 x1 (Below.trans hdr.out hbx)).mono ?_; rintro e x2 ⟨yan, ycn, yai, yci, rfl, hy, hby⟩)
            | (go_at_call 14; refine (h1 w3.drew hdr.out).mono ?_; rintro e x1 ⟨xan, xcn, xai, xci, rfl, hx, hbx⟩; have z0 := cell_below (Below.trans hdr.out hbx) E0; have z1 := cell_below (Below.trans hdr.out hbx) E1; have z2 := cell_below (Below.trans hdr.out hbx) E2; have z3 := cell_below (Below.trans hdr.out hbx) E3; have z4 := cell_below (Below.trans hdr.out hbx) E4; skip))
          all_goals go_wp2
          all_goals go_meet
          all_goals exact ⟨rfl, Below.trans hdr.out (hbx.trans ((hby.trans (hb3.mono hby.size)).mono hbx.size))⟩
        case rest =>
          obtain ⟨rfl, hbx⟩ := hcut
          have A0 := cell_below hbx D0
          have A1 := cell_below hbx D1
          have A2 := cell_below hbx D2
          have A3 := cell_below hbx D3
          have A4 := cell_below hbx D4
          have B0 := cell_below hbx E0
          have B1 := cell_below hbx E1
          have B2 := cell_below hbx E2
          have B3 := cell_below hbx E3
          have B4 := cell_below hbx E4
          have C0 := cell_below hbx F0
          have C1 := cell_below hbx F1
          have C2 := cell_below hbx F2
          have C3 := cell_below hbx F3
          have C4 := cell_below hbx F4
          have HS1 := Lib.hid (And.intro (HR3.out.1.below hbx) (And.intro (HR3.out.2.1.below hbx) (And.intro (HR3.out.2.2.1.below hbx) (HR3.out.2.2.2.trans (hbx.mono HR3.out.2.2.2.size)))))
          clear HR3 hbx h1 h2 hdr D0 D1 D2 D3 D4 E0 E1 E2 E3 E4 F0 F1 F2 F3 F4
          generalize hwc : wc = v1 at *
          clear hwc
          go_upto_region 4 with (fail)
          have h1 := fun (W' : World) (hW : Below v1.heap.size v1 W') => copy_t u an1 ai1 cn1 ci1 W' ok' ((HS1.out.2.1).below hW) hbu
          have h2 := fun (W' : World) (hW : Below v1.heap.size v1 W') => copy_t v an9 ai9 cn9 ci9 W' ok2 ((HS1.out.2.2.1).below hW) hbv
          have hdr := Lib.hid (Below.drew (Below.refl v1.heap.size v1))
          go_cut [8] from 25 to 29 (fun x wx => x = .int .i64 (ord u v) ∧ Below v1.heap.size v1 wx)
          case first =>
            go_region_with (first
              | (go_at_call 15; refine (cmp_c u v _ _ x2 _ _ (hx.below hby) hy).mono ?_; rintro e x3 ⟨rfl, hb3⟩)
              | (go_at_call 14; refine (h2 x1 (Below.trans hdr.out hbx)).mono ?_; rintro e x2 ⟨yan, ycn, yai, yci, rfl, hy, hby⟩)
              | (go_at_call 14; refine (h1 v1.drew hdr.out).mono ?_; rintro e x1 ⟨xan, xcn, xai, xci, rfl, hx, hbx⟩; have z0 := cell_below (Below.trans hdr.out hbx) C0; have z1 := cell_below (Below.trans hdr.out hbx) C1; have z2 := cell_below (Below.trans hdr.out hbx) C2; have z3 := cell_below (Below.trans hdr.out hbx) C3; have z4 := cell_below (Below.trans hdr.out hbx) C4; skip))
            all_goals go_wp2
            all_goals go_meet
            all_goals exact ⟨rfl, Below.trans hdr.out (hbx.trans ((hby.trans (hb3.mono hby.size)).mono hbx.size))⟩
          case rest =>
            obtain ⟨rfl, hbx⟩ := hcut
            have D0 := cell_below hbx A0
            have D1 := cell_below hbx A1
            have D2 := cell_below hbx A2
            have D3 := cell_below hbx A3
            have D4 := cell_below hbx A4
            have E0 := cell_below hbx B0
            have E1 := cell_below hbx B1
            have E2 := cell_below hbx B2
            have E3 := cell_below hbx B3
            have E4 := cell_below hbx B4
            have F0 := cell_below hbx C0
            have F1 := cell_below hbx C1
            have F2 := cell_below hbx C2
            have F3 := cell_below hbx C3
            have F4 := cell_below hbx C4
            have HS2 := Lib.hid (And.intro (HS1.out.1.below hbx) (And.intro (HS1.out.2.1.below hbx) (And.intro (HS1.out.2.2.1.below hbx) (HS1.out.2.2.2.trans (hbx.mono HS1.out.2.2.2.size)))))
            clear HS1 hbx h1 h2 hdr A0 A1 A2 A3 A4 B0 B1 B2 B3 B4 C0 C1 C2 C3 C4
            generalize hwc : wc = v2 at *
            clear hwc
            go_upto_region 5 with (fail)
            have h1 := fun (W' : World) (hW : Below v2.heap.size v2 W') => copy_t t an ai cn ci W' ok ((HS2.out.1).below hW) hbt
            have h2 := fun (W' : World) (hW : Below v2.heap.size v2 W') => copy_t v an9 ai9 cn9 ci9 W' ok2 ((HS2.out.2.2.1).below hW) hbv
            have hdr := Lib.hid (Below.drew (Below.refl v2.heap.size v2))
            go_cut [9] from 30 to 34 (fun x wx => x = .int .i64 (ord t v) ∧ Below v2.heap.size v2 wx)
            case first =>
              go_region_with (first
                | (go_at_call 15; refine (cmp_c t v _ _ x2 _ _ (hx.below hby) hy).mono ?_; rintro e x3 ⟨rfl, hb3⟩)
                | (go_at_call 14; refine (h2 x1 (Below.trans hdr.out hbx)).mono ?_; rintro e x2 ⟨yan, ycn, yai, yci, rfl, hy, hby⟩)
                | (go_at_call 14; refine (h1 v2.drew hdr.out).mono ?_; rintro e x1 ⟨xan, xcn, xai, xci, rfl, hx, hbx⟩; have z0 := cell_below (Below.trans hdr.out hbx) F0; have z1 := cell_below (Below.trans hdr.out hbx) F1; have z2 := cell_below (Below.trans hdr.out hbx) F2; have z3 := cell_below (Below.trans hdr.out hbx) F3; have z4 := cell_below (Below.trans hdr.out hbx) F4; skip))
              all_goals go_wp2
              all_goals go_meet
              all_goals exact ⟨rfl, Below.trans hdr.out (hbx.trans ((hby.trans (hb3.mono hby.size)).mono hbx.size))⟩
            case rest =>
              obtain ⟨rfl, hbx⟩ := hcut
              have A0 := cell_below hbx D0
              have A1 := cell_below hbx D1
              have A2 := cell_below hbx D2
              have A3 := cell_below hbx D3
              have A4 := cell_below hbx D4
              have B0 := cell_below hbx E0
              have B1 := cell_below hbx E1
              have B2 := cell_below hbx E2
              have B3 := cell_below hbx E3
              have B4 := cell_below hbx E4
              have C0 := cell_below hbx F0
              have C1 := cell_below hbx F1
              have C2 := cell_below hbx F2
              have C3 := cell_below hbx F3
              have C4 := cell_below hbx F4
              have HS3 := Lib.hid (And.intro (HS2.out.1.below hbx) (And.intro (HS2.out.2.1.below hbx) (And.intro (HS2.out.2.2.1.below hbx) (HS2.out.2.2.2.trans (hbx.mono HS2.out.2.2.2.size)))))
              clear HS2 hbx h1 h2 hdr D0 D1 D2 D3 D4 E0 E1 E2 E3 E4 F0 F1 F2 F3 F4
              generalize hwc : wc = v3 at *
              clear hwc
              go_upto_region 6 with (fail)
              have ha := (ord_anti t u).1
              have hb := (ord_anti u t).2
              have htt : ord t t = 0 := by have := (ord_anti t t).1; omega
              have h1 := fun (W' : World) (hW : Below v3.heap.size v3 W') => copy_t u an1 ai1 cn1 ci1 W' ok' ((HS3.out.2.1).below hW) hbu
              have h2 := fun (W' : World) (hW : Below v3.heap.size v3 W') => copy_t t an ai cn ci W' ok ((HS3.out.1).below hW) hbt
              have hdr := Lib.hid (Below.drew (Below.refl v3.heap.size v3))
              have HT := Lib.hid (And.intro (ord_trans t u v) (And.intro (ord_trans v u t) (And.intro (ord_anti u v) (And.intro (ord_anti t v) (ord_anti t u)))))
              rw [ha]
              have HCMP := Lib.hid (fun (W : World) (ok ok' : Nat → Prop) (cs ds : List Value) (hr : Rep W ok u cs) (hu : Rep W ok' t ds) => cmp_c u t cs ds W ok ok' hr hu)
              have HCMP2 := Lib.hid (fun (W : World) (ok ok' : Nat → Prop) (cs ds : List Value) (hr : Rep W ok t cs) (hu : Rep W ok' t ds) => cmp_c t t cs ds W ok ok' hr hu)
              rw [htt] at HCMP2
              have HV := Lib.hid (show ∃ o, o = ord u t from ⟨_, rfl⟩)
              clear ha htt
              generalize ho : ord u t = o at *
              have HO := Lib.hid ho
              clear ho HV
              have c1 : o = -1 ∨ o = 0 ∨ o = 1 := by omega
              clear hb
              rcases c1 with rfl | rfl | rfl
              · skip
                have hSS : ∀ W', Below v3.heap.size v3 W' → (fun w' => w'.cell? ⟨w.heap.size, 0, none⟩ = some (.int .i64 t.kind) ∧ w'.cell? ⟨w.heap.size, 1, none⟩ = some (.int .i64 t.int) ∧ w'.cell? ⟨w.heap.size, 2, none⟩ = some (.string t.text) ∧ w'.cell? ⟨w.heap.size, 3, none⟩ = some (.slice an t.names.length cn) ∧ w'.cell? ⟨w.heap.size, 4, none⟩ = some (.slice ai t.items.length ci) ∧ w'.cell? ⟨w.heap.size + 1, 0, none⟩ = some (.int .i64 u.kind) ∧ w'.cell? ⟨w.heap.size + 1, 1, none⟩ = some (.int .i64 u.int) ∧ w'.cell? ⟨w.heap.size + 1, 2, none⟩ = some (.string u.text) ∧ w'.cell? ⟨w.heap.size + 1, 3, none⟩ = some (.slice an1 u.names.length cn1) ∧ w'.cell? ⟨w.heap.size + 1, 4, none⟩ = some (.slice ai1 u.items.length ci1)) W' := fun W' hW => ⟨cell_below hW A0, cell_below hW A1, cell_below hW A2, cell_below hW A3, cell_below hW A4, cell_below hW B0, cell_below hW B1, cell_below hW B2, cell_below hW B3, cell_below hW B4⟩
                have HSS := Lib.hid hSS
                clear hSS
                go_region_held3 (fun w' => w'.cell? ⟨w.heap.size, 0, none⟩ = some (.int .i64 t.kind) ∧ w'.cell? ⟨w.heap.size, 1, none⟩ = some (.int .i64 t.int) ∧ w'.cell? ⟨w.heap.size, 2, none⟩ = some (.string t.text) ∧ w'.cell? ⟨w.heap.size, 3, none⟩ = some (.slice an t.names.length cn) ∧ w'.cell? ⟨w.heap.size, 4, none⟩ = some (.slice ai t.items.length ci) ∧ w'.cell? ⟨w.heap.size + 1, 0, none⟩ = some (.int .i64 u.kind) ∧ w'.cell? ⟨w.heap.size + 1, 1, none⟩ = some (.int .i64 u.int) ∧ w'.cell? ⟨w.heap.size + 1, 2, none⟩ = some (.string u.text) ∧ w'.cell? ⟨w.heap.size + 1, 3, none⟩ = some (.slice an1 u.names.length cn1) ∧ w'.cell? ⟨w.heap.size + 1, 4, none⟩ = some (.slice ai1 u.items.length ci1)) (exact HSS.out _ (by first | with_reducible exact hdr.out | with_reducible exact hB1 | with_reducible exact hB2 | with_reducible exact hB3 | with_reducible exact hB4 | with_reducible exact hB5 | with_reducible exact hB6)) (first
                  | (rw [if_pos (by rfl)]; go_simp; go_at_call 15; refine (HCMP2.out x5 _ _ _ _ (hx4.below hb5x) hx5).mono ?_; rintro e x6 ⟨rfl, hb6x⟩; have hB6 := hB5.trans (hb6x.mono hB5.size); dsimp only)
                  | (rw [if_pos (by rfl)]; go_simp; go_at_call 14; refine (h2 x4 hB4).mono ?_; rintro e x5 ⟨pan, pcn, pai, pci, rfl, hx5, hb5x⟩; have hB5 := hB4.trans (hb5x.mono hB4.size); dsimp only)
                  | (rw [if_pos (by rfl)]; go_simp; go_at_call 14; refine (h2 x3 hB3).mono ?_; rintro e x4 ⟨qan, qcn, qai, qci, rfl, hx4, hb4x⟩; have hB4 := hB3.trans (hb4x.mono hB3.size); have r0 := cell_below (hB4) A0; have r1 := cell_below (hB4) A1; have r2 := cell_below (hB4) A2; have r3 := cell_below (hB4) A3; have r4 := cell_below (hB4) A4; skip; dsimp only)
                  | (rw [if_pos (by rfl)]; go_simp; go_at_call 15; refine (HCMP.out x2 _ _ _ _ (hx1.below hb2x) hx2).mono ?_; rintro e x3 ⟨rfl, hb3x⟩; have hB3 := hB2.trans (hb3x.mono hB2.size); have y0 := cell_below (hB3) A0; have y1 := cell_below (hB3) A1; have y2 := cell_below (hB3) A2; have y3 := cell_below (hB3) A3; have y4 := cell_below (hB3) A4; skip; dsimp only)
                  | (rw [if_pos (by rfl)]; go_simp; go_at_call 14; refine (h2 x1 hB1).mono ?_; rintro e x2 ⟨yan, ycn, yai, yci, rfl, hx2, hb2x⟩; have hB2 := hB1.trans (hb2x.mono hB1.size); dsimp only)
                  | (rw [if_pos (by rfl)]; go_simp; go_at_call 14; refine (h1 v3.drew hdr.out).mono ?_; rintro e x1 ⟨xan, xcn, xai, xci, rfl, hx1, hb1x⟩; have hB1 := Below.trans hdr.out hb1x; have z0 := cell_below (hB1) A0; have z1 := cell_below (hB1) A1; have z2 := cell_below (hB1) A2; have z3 := cell_below (hB1) A3; have z4 := cell_below (hB1) A4; skip; dsimp only))
                have hBw := Lib.hid (HS3.out.2.2.2.trans ((hB4.trans ((hb5x.trans (hb6x.mono hb5x.size)).mono hB4.size)).mono HS3.out.2.2.2.size))
                obtain ⟨tr1, tr2, ⟨q1, q2⟩, ⟨q3, q4⟩, ⟨q5, q6⟩⟩ := HT.out
                clear HS3 h1 h2 HSS hdr HT HO HCMP HCMP2 hx1 hx2 hx4 hx5 hb1x hb2x hb3x hb4x hb5x hb6x hB1 hB2 hB3 hB4 hB5 hB6 z0 z1 z2 z3 z4 y0 y1 y2 y3 y4 r0 r1 r2 r3 r4 A0 A1 A2 A3 A4 B0 B1 B2 B3 B4 C0 C1 C2 C3 C4
                generalize ord u v = p at *
                generalize ord t v = q at *
                generalize ord v u = p' at *
                generalize ord v t = q' at *
                generalize ord t u = o' at *
                have tr3 := imp2 tr1
                have tr4 := imp2 tr2
                clear tr1 tr2
                have c2 : p = -1 ∨ p = 0 ∨ p = 1 := by omega
                have c3 : q = -1 ∨ q = 0 ∨ q = 1 := by omega
                have HQ := Lib.hid (And.intro tr3 (And.intro tr4 (And.intro q1 (And.intro q3 q5))))
                clear tr3 tr4 q1 q2 q3 q4 q5 q6
                rcases c2 with rfl | rfl | rfl <;> rcases c3 with rfl | rfl | rfl
                all_goals first
                  | (exfalso; have h := HQ.out; omega)
                  | (clear HQ; go_wp2_with fail; refine (live_c _).mono ?_; rintro e x7 ⟨rfl, hb7⟩; go_wp2; go_ret; exact ⟨rfl, hBw.out.trans (hb7.mono hBw.out.size)⟩)
              · skip
                have hSS : ∀ W', Below v3.heap.size v3 W' → (fun w' => w'.cell? ⟨w.heap.size, 0, none⟩ = some (.int .i64 t.kind) ∧ w'.cell? ⟨w.heap.size, 1, none⟩ = some (.int .i64 t.int) ∧ w'.cell? ⟨w.heap.size, 2, none⟩ = some (.string t.text) ∧ w'.cell? ⟨w.heap.size, 3, none⟩ = some (.slice an t.names.length cn) ∧ w'.cell? ⟨w.heap.size, 4, none⟩ = some (.slice ai t.items.length ci) ∧ w'.cell? ⟨w.heap.size + 1, 0, none⟩ = some (.int .i64 u.kind) ∧ w'.cell? ⟨w.heap.size + 1, 1, none⟩ = some (.int .i64 u.int) ∧ w'.cell? ⟨w.heap.size + 1, 2, none⟩ = some (.string u.text) ∧ w'.cell? ⟨w.heap.size + 1, 3, none⟩ = some (.slice an1 u.names.length cn1) ∧ w'.cell? ⟨w.heap.size + 1, 4, none⟩ = some (.slice ai1 u.items.length ci1)) W' := fun W' hW => ⟨cell_below hW A0, cell_below hW A1, cell_below hW A2, cell_below hW A3, cell_below hW A4, cell_below hW B0, cell_below hW B1, cell_below hW B2, cell_below hW B3, cell_below hW B4⟩
                have HSS := Lib.hid hSS
                clear hSS
                go_region_held3 (fun w' => w'.cell? ⟨w.heap.size, 0, none⟩ = some (.int .i64 t.kind) ∧ w'.cell? ⟨w.heap.size, 1, none⟩ = some (.int .i64 t.int) ∧ w'.cell? ⟨w.heap.size, 2, none⟩ = some (.string t.text) ∧ w'.cell? ⟨w.heap.size, 3, none⟩ = some (.slice an t.names.length cn) ∧ w'.cell? ⟨w.heap.size, 4, none⟩ = some (.slice ai t.items.length ci) ∧ w'.cell? ⟨w.heap.size + 1, 0, none⟩ = some (.int .i64 u.kind) ∧ w'.cell? ⟨w.heap.size + 1, 1, none⟩ = some (.int .i64 u.int) ∧ w'.cell? ⟨w.heap.size + 1, 2, none⟩ = some (.string u.text) ∧ w'.cell? ⟨w.heap.size + 1, 3, none⟩ = some (.slice an1 u.names.length cn1) ∧ w'.cell? ⟨w.heap.size + 1, 4, none⟩ = some (.slice ai1 u.items.length ci1)) (exact HSS.out _ (by first | with_reducible exact hdr.out | with_reducible exact hB1 | with_reducible exact hB2 | with_reducible exact hB3 | with_reducible exact hB4 | with_reducible exact hB5 | with_reducible exact hB6)) (first
                  | (rw [if_pos (by rfl)]; go_simp; go_at_call 15; refine (HCMP2.out x5 _ _ _ _ (hx4.below hb5x) hx5).mono ?_; rintro e x6 ⟨rfl, hb6x⟩; have hB6 := hB5.trans (hb6x.mono hB5.size); dsimp only)
                  | (rw [if_pos (by rfl)]; go_simp; go_at_call 14; refine (h2 x4 hB4).mono ?_; rintro e x5 ⟨pan, pcn, pai, pci, rfl, hx5, hb5x⟩; have hB5 := hB4.trans (hb5x.mono hB4.size); dsimp only)
                  | (rw [if_pos (by rfl)]; go_simp; go_at_call 14; refine (h2 x3 hB3).mono ?_; rintro e x4 ⟨qan, qcn, qai, qci, rfl, hx4, hb4x⟩; have hB4 := hB3.trans (hb4x.mono hB3.size); have r0 := cell_below (hB4) A0; have r1 := cell_below (hB4) A1; have r2 := cell_below (hB4) A2; have r3 := cell_below (hB4) A3; have r4 := cell_below (hB4) A4; skip; dsimp only)
                  | (rw [if_pos (by rfl)]; go_simp; go_at_call 15; refine (HCMP.out x2 _ _ _ _ (hx1.below hb2x) hx2).mono ?_; rintro e x3 ⟨rfl, hb3x⟩; have hB3 := hB2.trans (hb3x.mono hB2.size); have y0 := cell_below (hB3) A0; have y1 := cell_below (hB3) A1; have y2 := cell_below (hB3) A2; have y3 := cell_below (hB3) A3; have y4 := cell_below (hB3) A4; skip; dsimp only)
                  | (rw [if_pos (by rfl)]; go_simp; go_at_call 14; refine (h2 x1 hB1).mono ?_; rintro e x2 ⟨yan, ycn, yai, yci, rfl, hx2, hb2x⟩; have hB2 := hB1.trans (hb2x.mono hB1.size); dsimp only)
                  | (rw [if_pos (by rfl)]; go_simp; go_at_call 14; refine (h1 v3.drew hdr.out).mono ?_; rintro e x1 ⟨xan, xcn, xai, xci, rfl, hx1, hb1x⟩; have hB1 := Below.trans hdr.out hb1x; have z0 := cell_below (hB1) A0; have z1 := cell_below (hB1) A1; have z2 := cell_below (hB1) A2; have z3 := cell_below (hB1) A3; have z4 := cell_below (hB1) A4; skip; dsimp only))
                have hBw := Lib.hid (HS3.out.2.2.2.trans ((hB4.trans ((hb5x.trans (hb6x.mono hb5x.size)).mono hB4.size)).mono HS3.out.2.2.2.size))
                obtain ⟨tr1, tr2, ⟨q1, q2⟩, ⟨q3, q4⟩, ⟨q5, q6⟩⟩ := HT.out
                clear HS3 h1 h2 HSS hdr HT HO HCMP HCMP2 hx1 hx2 hx4 hx5 hb1x hb2x hb3x hb4x hb5x hb6x hB1 hB2 hB3 hB4 hB5 hB6 z0 z1 z2 z3 z4 y0 y1 y2 y3 y4 r0 r1 r2 r3 r4 A0 A1 A2 A3 A4 B0 B1 B2 B3 B4 C0 C1 C2 C3 C4
                generalize ord u v = p at *
                generalize ord t v = q at *
                generalize ord v u = p' at *
                generalize ord v t = q' at *
                generalize ord t u = o' at *
                have tr3 := imp2 tr1
                have tr4 := imp2 tr2
                clear tr1 tr2
                have c2 : p = -1 ∨ p = 0 ∨ p = 1 := by omega
                have c3 : q = -1 ∨ q = 0 ∨ q = 1 := by omega
                have HQ := Lib.hid (And.intro tr3 (And.intro tr4 (And.intro q1 (And.intro q3 q5))))
                clear tr3 tr4 q1 q2 q3 q4 q5 q6
                rcases c2 with rfl | rfl | rfl <;> rcases c3 with rfl | rfl | rfl
                all_goals first
                  | (exfalso; have h := HQ.out; omega)
                  | (clear HQ; go_wp2_with fail; refine (live_c _).mono ?_; rintro e x7 ⟨rfl, hb7⟩; go_wp2; go_ret; exact ⟨rfl, hBw.out.trans (hb7.mono hBw.out.size)⟩)
              · skip
                have hSS : ∀ W', Below v3.heap.size v3 W' → (fun w' => w'.cell? ⟨w.heap.size, 0, none⟩ = some (.int .i64 t.kind) ∧ w'.cell? ⟨w.heap.size, 1, none⟩ = some (.int .i64 t.int) ∧ w'.cell? ⟨w.heap.size, 2, none⟩ = some (.string t.text) ∧ w'.cell? ⟨w.heap.size, 3, none⟩ = some (.slice an t.names.length cn) ∧ w'.cell? ⟨w.heap.size, 4, none⟩ = some (.slice ai t.items.length ci) ∧ w'.cell? ⟨w.heap.size + 1, 0, none⟩ = some (.int .i64 u.kind) ∧ w'.cell? ⟨w.heap.size + 1, 1, none⟩ = some (.int .i64 u.int) ∧ w'.cell? ⟨w.heap.size + 1, 2, none⟩ = some (.string u.text) ∧ w'.cell? ⟨w.heap.size + 1, 3, none⟩ = some (.slice an1 u.names.length cn1) ∧ w'.cell? ⟨w.heap.size + 1, 4, none⟩ = some (.slice ai1 u.items.length ci1)) W' := fun W' hW => ⟨cell_below hW A0, cell_below hW A1, cell_below hW A2, cell_below hW A3, cell_below hW A4, cell_below hW B0, cell_below hW B1, cell_below hW B2, cell_below hW B3, cell_below hW B4⟩
                have HSS := Lib.hid hSS
                clear hSS
                go_region_held3 (fun w' => w'.cell? ⟨w.heap.size, 0, none⟩ = some (.int .i64 t.kind) ∧ w'.cell? ⟨w.heap.size, 1, none⟩ = some (.int .i64 t.int) ∧ w'.cell? ⟨w.heap.size, 2, none⟩ = some (.string t.text) ∧ w'.cell? ⟨w.heap.size, 3, none⟩ = some (.slice an t.names.length cn) ∧ w'.cell? ⟨w.heap.size, 4, none⟩ = some (.slice ai t.items.length ci) ∧ w'.cell? ⟨w.heap.size + 1, 0, none⟩ = some (.int .i64 u.kind) ∧ w'.cell? ⟨w.heap.size + 1, 1, none⟩ = some (.int .i64 u.int) ∧ w'.cell? ⟨w.heap.size + 1, 2, none⟩ = some (.string u.text) ∧ w'.cell? ⟨w.heap.size + 1, 3, none⟩ = some (.slice an1 u.names.length cn1) ∧ w'.cell? ⟨w.heap.size + 1, 4, none⟩ = some (.slice ai1 u.items.length ci1)) (exact HSS.out _ (by first | with_reducible exact hdr.out | with_reducible exact hB1 | with_reducible exact hB2 | with_reducible exact hB3 | with_reducible exact hB4 | with_reducible exact hB5 | with_reducible exact hB6)) (first
                  | (rw [if_pos (by rfl)]; go_simp; go_at_call 15; refine (HCMP2.out x5 _ _ _ _ (hx4.below hb5x) hx5).mono ?_; rintro e x6 ⟨rfl, hb6x⟩; have hB6 := hB5.trans (hb6x.mono hB5.size); dsimp only)
                  | (rw [if_pos (by rfl)]; go_simp; go_at_call 14; refine (h2 x4 hB4).mono ?_; rintro e x5 ⟨pan, pcn, pai, pci, rfl, hx5, hb5x⟩; have hB5 := hB4.trans (hb5x.mono hB4.size); dsimp only)
                  | (rw [if_pos (by rfl)]; go_simp; go_at_call 14; refine (h2 x3 hB3).mono ?_; rintro e x4 ⟨qan, qcn, qai, qci, rfl, hx4, hb4x⟩; have hB4 := hB3.trans (hb4x.mono hB3.size); have r0 := cell_below (hB4) A0; have r1 := cell_below (hB4) A1; have r2 := cell_below (hB4) A2; have r3 := cell_below (hB4) A3; have r4 := cell_below (hB4) A4; skip; dsimp only)
                  | (rw [if_pos (by rfl)]; go_simp; go_at_call 15; refine (HCMP.out x2 _ _ _ _ (hx1.below hb2x) hx2).mono ?_; rintro e x3 ⟨rfl, hb3x⟩; have hB3 := hB2.trans (hb3x.mono hB2.size); have y0 := cell_below (hB3) A0; have y1 := cell_below (hB3) A1; have y2 := cell_below (hB3) A2; have y3 := cell_below (hB3) A3; have y4 := cell_below (hB3) A4; skip; dsimp only)
                  | (rw [if_pos (by rfl)]; go_simp; go_at_call 14; refine (h2 x1 hB1).mono ?_; rintro e x2 ⟨yan, ycn, yai, yci, rfl, hx2, hb2x⟩; have hB2 := hB1.trans (hb2x.mono hB1.size); dsimp only)
                  | (rw [if_pos (by rfl)]; go_simp; go_at_call 14; refine (h1 v3.drew hdr.out).mono ?_; rintro e x1 ⟨xan, xcn, xai, xci, rfl, hx1, hb1x⟩; have hB1 := Below.trans hdr.out hb1x; have z0 := cell_below (hB1) A0; have z1 := cell_below (hB1) A1; have z2 := cell_below (hB1) A2; have z3 := cell_below (hB1) A3; have z4 := cell_below (hB1) A4; skip; dsimp only))
                have hBw := Lib.hid (HS3.out.2.2.2.trans ((hB4.trans ((hb5x.trans (hb6x.mono hb5x.size)).mono hB4.size)).mono HS3.out.2.2.2.size))
                obtain ⟨tr1, tr2, ⟨q1, q2⟩, ⟨q3, q4⟩, ⟨q5, q6⟩⟩ := HT.out
                clear HS3 h1 h2 HSS hdr HT HO HCMP HCMP2 hx1 hx2 hx4 hx5 hb1x hb2x hb3x hb4x hb5x hb6x hB1 hB2 hB3 hB4 hB5 hB6 z0 z1 z2 z3 z4 y0 y1 y2 y3 y4 r0 r1 r2 r3 r4 A0 A1 A2 A3 A4 B0 B1 B2 B3 B4 C0 C1 C2 C3 C4
                generalize ord u v = p at *
                generalize ord t v = q at *
                generalize ord v u = p' at *
                generalize ord v t = q' at *
                generalize ord t u = o' at *
                have tr3 := imp2 tr1
                have tr4 := imp2 tr2
                clear tr1 tr2
                have c2 : p = -1 ∨ p = 0 ∨ p = 1 := by omega
                have c3 : q = -1 ∨ q = 0 ∨ q = 1 := by omega
                have HQ := Lib.hid (And.intro tr3 (And.intro tr4 (And.intro q1 (And.intro q3 q5))))
                clear tr3 tr4 q1 q2 q3 q4 q5 q6
                rcases c2 with rfl | rfl | rfl <;> rcases c3 with rfl | rfl | rfl
                all_goals first
                  | (exfalso; have h := HQ.out; omega)
                  | (clear HQ; go_wp2_with fail; refine (live_c _).mono ?_; rintro e x7 ⟨rfl, hb7⟩; go_wp2; go_ret; exact ⟨rfl, hBw.out.trans (hb7.mono hBw.out.size)⟩)
end Go.Proofs.YtjmhoccikbgigaaDoor
