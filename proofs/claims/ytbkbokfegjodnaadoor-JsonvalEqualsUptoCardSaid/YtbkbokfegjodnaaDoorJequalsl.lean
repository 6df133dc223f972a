/- The walk of the law JsonvalEquals. Conditions: what lies in the package-level variables; what a tree holds is at most 2 to the 40. -/
import Derived.Test.YtbkbokfegjodnaaDoorApartw
import Derived.Test.YtbkbokfegjodnaaDoorEquw
namespace Go.Proofs.YtbkbokfegjodnaaDoor
open Go.RowKit
theorem pself {W : World} {t : JV} {cs ds : List Value} {F G : List Nat} (h1 : RepF W t cs F) (h2 : RepF W t ds G) :
    Calls Tryd.prog 37 #[.agg cs.toArray, .agg ds.toArray] W fun e w' => e = .returned (.bool true) ∧ Below W.heap.size W w' := by
  have h := equ_c t t _ _ W (fun _ => True) (fun _ => True) (h1.rep _ _ _ (fun _ _ => trivial)) (h2.rep _ _ _ (fun _ _ => trivial))
  rw [same_self] at h
  exact h
theorem rself {W : World} {t : JV} {cs ds : List Value} {F : List Nat} {ok : Nat → Prop} (h1 : RepF W t cs F) (h2 : Rep W ok t ds) :
    Calls Tryd.prog 18 #[.agg cs.toArray, .agg ds.toArray] W fun e w' => e = .returned (.bool true) ∧ Below W.heap.size W w' := by
  have h := equal_c t t _ _ W (fun _ => True) ok (h1.rep _ _ _ (fun _ _ => trivial)) h2
  rw [same_self] at h
  exact h
set_option maxRecDepth 20000 in
set_option maxHeartbeats 16000000 in
theorem jsonvalEquals_c (t u : JV) (cs ds : List Value) (w : World) (ok ok' : Nat → Prop) (hr : Rep w ok t cs) (hu : Rep w ok' u ds) (hbt : t.bulk ≤ 1099511627776) (hbu : u.bulk ≤ 1099511627776) (hT : JTabs w) :
    Calls Tryd.prog 13 #[.agg cs.toArray, .agg ds.toArray] w fun r w' => r = .returned (.bool true) ∧ Below w.heap.size w w' := by
  obtain ⟨an, cn, ai, ci, rfl⟩ := hr.form
  obtain ⟨an1, cn1, ai1, ci1, rfl⟩ := hu.form
  obtain ⟨a0, a1, a2, a3, a4⟩ := cells5 w (.int .i64 t.kind) (.int .i64 t.int) (.string t.text) (.slice an t.names.length cn) (.slice ai t.items.length ci) 28
  have hb0 := box_new w t an cn ai ci
  obtain ⟨b0, b1, b2, b3, b4⟩ := cells5 (w.alloc (.cells #[.int .i64 t.kind, .int .i64 t.int, .string t.text, .slice an t.names.length cn, .slice ai t.items.length ci] 28)) (.int .i64 u.kind) (.int .i64 u.int) (.string u.text) (.slice an1 u.names.length cn1) (.slice ai1 u.items.length ci1) 28
  have hb1 := box_new (w.alloc (.cells #[.int .i64 t.kind, .int .i64 t.int, .string t.text, .slice an t.names.length cn, .slice ai t.items.length ci] 28)) u an1 cn1 ai1 ci1
  have hB := below_trans hb0 hb1
  have A0 := cell_below hb1 a0
  have A1 := cell_below hb1 a1
  have A2 := cell_below hb1 a2
  have A3 := cell_below hb1 a3
  have A4 := cell_below hb1 a4
  clear a0 a1 a2 a3 a4
  simp only [World.size_alloc] at b0 b1 b2 b3 b4
  have HR := Lib.hid (fun (W : World) (hW : Below w.heap.size w W) => hr.below hW)
  have HU := Lib.hid (fun (W : World) (hW : Below w.heap.size w W) => hu.below hW)
  have HT := Lib.hid (fun (W : World) (hW : Below w.heap.size w W) => hT.below hW)
  have HX := Lib.hid (show w.heap.size + 2 ≤ ((w.alloc (.cells #[.int .i64 t.kind, .int .i64 t.int, .string t.text, .slice an t.names.length cn, .slice ai t.items.length ci] 28)).alloc (.cells #[.int .i64 u.kind, .int .i64 u.int, .string u.text, .slice an1 u.names.length cn1, .slice ai1 u.items.length ci1] 28)).heap.size by simp)
  clear hr hu hT hb0 hb1
  have HSS := Lib.hid (fun (W' : World) (hW : Below ((w.alloc (.cells #[.int .i64 t.kind, .int .i64 t.int, .string t.text, .slice an t.names.length cn, .slice ai t.items.length ci] 28)).alloc (.cells #[.int .i64 u.kind, .int .i64 u.int, .string u.text, .slice an1 u.names.length cn1, .slice ai1 u.items.length ci1] 28)).heap.size ((w.alloc (.cells #[.int .i64 t.kind, .int .i64 t.int, .string t.text, .slice an t.names.length cn, .slice ai t.items.length ci] 28)).alloc (.cells #[.int .i64 u.kind, .int .i64 u.int, .string u.text, .slice an1 u.names.length cn1, .slice ai1 u.items.length ci1] 28)) W') => And.intro (cell_below hW A0) (And.intro (cell_below hW A1) (And.intro (cell_below hW A2) (And.intro (cell_below hW A3) (And.intro (cell_below hW A4) (And.intro (cell_below hW b0) (And.intro (cell_below hW b1) (And.intro (cell_below hW b2) (And.intro (cell_below hW b3) (cell_below hW b4))))))))))
  go_enter Tryd.func13, Tryd.ntmps13
  go_wp2_with fail
  clear A0 A1 A2 A3 A4 b0 b1 b2 b3 b4
  generalize ((w.alloc (.cells #[.int .i64 t.kind, .int .i64 t.int, .string t.text, .slice an t.names.length cn, .slice ai t.items.length ci] 28)).alloc (.cells #[.int .i64 u.kind, .int .i64 u.int, .string u.text, .slice an1 u.names.length cn1, .slice ai1 u.items.length ci1] 28)) = wB at *
  have HB := Lib.hid hB
  clear hB
  refine (large_t t an ai cn ci wB ok (HR.out wB HB.out) hbt).mono ?_; rintro e w1 ⟨rfl, hb1⟩
  cases hlt : largeB t with
  | true =>
    go_wp2
    go_ret
    exact ⟨rfl, HB.out.trans (hb1.mono HB.out.size)⟩
  | false =>
    obtain ⟨-, -, -, -, -, b0, b1, b2, b3, b4⟩ := HSS.out w1 hb1
    go_wp2_with fail
    clear b0 b1 b2 b3 b4
    refine (large_t u an1 ai1 cn1 ci1 w1 ok' (HU.out w1 (HB.out.trans (hb1.mono HB.out.size))) hbu).mono ?_; rintro e w2 ⟨rfl, hb2⟩
    have HB2 := Lib.hid (below_trans hb1 hb2)
    clear hb1 hb2 hlt
    cases hlu : largeB u with
    | true =>
      go_wp2
      go_ret
      exact ⟨rfl, HB.out.trans (HB2.out.mono HB.out.size)⟩
    | false =>
      clear hlu
      have E1 := fun (W : World) (hW : Below wB.heap.size wB W) => fcopy_c t _ W ok (HR.out W (HB.out.trans (hW.mono HB.out.size))) hbt
      have E2 := fun (W : World) (hW : Below wB.heap.size wB W) => fcopy_c u _ W ok' (HU.out W (HB.out.trans (hW.mono HB.out.size))) hbu
      have E4 := fun (W : World) (hW : Below wB.heap.size wB W) => equal_c t u _ _ W ok ok' (HR.out W (HB.out.trans (hW.mono HB.out.size))) (HU.out W (HB.out.trans (hW.mono HB.out.size)))
      have hdr := Lib.hid (Below.drew HB2.out)
      go_wp2_with fail
      go_region_held3 (fun w' => w'.cell? ⟨w.heap.size, 0, none⟩ = some (.int .i64 t.kind) ∧ w'.cell? ⟨w.heap.size, 1, none⟩ = some (.int .i64 t.int) ∧ w'.cell? ⟨w.heap.size, 2, none⟩ = some (.string t.text) ∧ w'.cell? ⟨w.heap.size, 3, none⟩ = some (.slice an t.names.length cn) ∧ w'.cell? ⟨w.heap.size, 4, none⟩ = some (.slice ai t.items.length ci) ∧ w'.cell? ⟨w.heap.size + 1, 0, none⟩ = some (.int .i64 u.kind) ∧ w'.cell? ⟨w.heap.size + 1, 1, none⟩ = some (.int .i64 u.int) ∧ w'.cell? ⟨w.heap.size + 1, 2, none⟩ = some (.string u.text) ∧ w'.cell? ⟨w.heap.size + 1, 3, none⟩ = some (.slice an1 u.names.length cn1) ∧ w'.cell? ⟨w.heap.size + 1, 4, none⟩ = some (.slice ai1 u.items.length ci1)) (exact HSS.out _ (by first | with_reducible exact hdr.out | with_reducible exact hB1 | with_reducible exact hB2 | with_reducible exact hB3 | with_reducible exact hB4 | with_reducible exact hB5 | with_reducible exact hB6 | with_reducible exact hB7)) (first
        | (rw [if_pos (by rfl)]; go_simp; go_at_call 37; refine (pself (R5.below hb6x) R6).mono ?_; rintro e x7 ⟨rfl, hb7x⟩; have hB7 := hB6.trans (hb7x.mono hB6.size); dsimp only)
        | (rw [if_pos (by rfl)]; go_simp; go_at_call 21; refine (E1 x5 hB5).mono ?_; rintro e x6 ⟨s1, s2, s3, s4, SF, rfl, R6, _, _, hb6x⟩; have hB6 := hB5.trans (hb6x.mono hB5.size); dsimp only)
        | (rw [if_pos (by rfl)]; go_simp; go_at_call 21; refine (E1 x4 hB4).mono ?_; rintro e x5 ⟨r1, r2, r3, r4, RF, rfl, R5, _, _, hb5x⟩; have hB5 := hB4.trans (hb5x.mono hB4.size); dsimp only)
        | (go_at_call 18; refine (E4 x3 hB3).mono ?_; rintro e x4 ⟨rfl, hb4x⟩; have hB4 := hB3.trans (hb4x.mono hB3.size); dsimp only)
        | (go_at_call 37; refine (equ_c t u _ _ x2 (fun _ => True) (fun _ => True) ((R1.below hb2x).rep _ _ _ (fun _ _ => trivial)) (R2.rep _ _ _ (fun _ _ => trivial))).mono ?_; rintro e x3 ⟨rfl, hb3x⟩; have hB3 := hB2.trans (hb3x.mono hB2.size); dsimp only)
        | (go_at_call 21; refine (E2 x1 hB1).mono ?_; rintro e x2 ⟨q1, q2, q3, q4, QF, rfl, R2, _, _, hb2x⟩; have hB2 := hB1.trans (hb2x.mono hB1.size); dsimp only)
        | (go_at_call 21; refine (E1 w2.drew hdr.out).mono ?_; rintro e x1 ⟨p1, p2, p3, p4, PF, rfl, R1, _, _, hb1x⟩; have hB1 := hdr.out.trans (hb1x.mono hdr.out.size); dsimp only))
      have hAll := HSS.out x7 hB7
      obtain ⟨a0, a1, a2, a3, a4, -⟩ := hAll
      clear hdr hb1x hb2x hb3x hb4x hb5x hb6x hb7x R1 R2 R5 R6 E2 E4 hB1 hB2 hB3 hB4 hB5 hB6 HU HB2
      go_wp2_with fail
      clear a0 a1 a2 a3 a4
      refine (E1 x7 hB7).mono ?_; rintro e y1 ⟨gn, gc, gi, gd, FG, rfl, RG, ndG, frG, hby1⟩
      clear E1
      have s7 := hB7.size
      have sy1 := hby1.size
      have ltG := RepF.lt _ _ _ RG
      have B1 := Lib.hid (hB7.trans (hby1.mono hB7.size))
      clear hB7 hby1
      have sv1 : (y1.alloc (.cells #[.int .i64 t.kind, .int .i64 t.int, .string t.text, .slice gn t.names.length gc, .slice gi t.items.length gd] 28)).heap.size = y1.heap.size + 1 := by simp
      have bv1 : Below y1.heap.size y1 (y1.alloc (.cells #[.int .i64 t.kind, .int .i64 t.int, .string t.text, .slice gn t.names.length gc, .slice gi t.items.length gd] 28)) := (Below.refl _ _).alloc (Nat.le_refl _) _
      have XG := heap_alloc_new y1 (.cells #[.int .i64 t.kind, .int .i64 t.int, .string t.text, .slice gn t.names.length gc, .slice gi t.items.length gd] 28)
      obtain ⟨⟨g0, g1, g2, g3, g4⟩, zf⟩ := cellsOf5 XG
      have RG1 := Lib.hid (RG.below bv1)
      have hc := pcopy_c t _ _ (fun _ => True) (RG1.out.rep _ _ _ (fun _ _ => trivial)) hbt
      have B2 := Lib.hid (B1.out.trans (bv1.mono B1.out.size))
      have XG1 := Lib.hid XG
      clear XG zf RG B1 bv1
      go_wp2_with fail
      generalize (y1.alloc (.cells #[.int .i64 t.kind, .int .i64 t.int, .string t.text, .slice gn t.names.length gc, .slice gi t.items.length gd] 28)) = v1 at *
      clear g0 g1 g2 g3 g4
      refine hc.mono ?_; rintro e y2 ⟨cn, cc, ci, cd, FC, rfl, RC, ndC, frC, hby2⟩
      clear hc
      have sy2 := hby2.size
      have ltC := RepF.lt _ _ _ RC
      have RG2 := Lib.hid (RG1.out.below hby2)
      have XG2 := Lib.hid (block_below hby2 XG1.out)
      have B3 := Lib.hid (B2.out.trans (hby2.mono B2.out.size))
      clear RG1 XG1 B2 hby2
      have sv2 : (y2.alloc (.cells #[.int .i64 t.kind, .int .i64 t.int, .string t.text, .slice cn t.names.length cc, .slice ci t.items.length cd] 28)).heap.size = y2.heap.size + 1 := by simp
      have bv2 : Below y2.heap.size y2 (y2.alloc (.cells #[.int .i64 t.kind, .int .i64 t.int, .string t.text, .slice cn t.names.length cc, .slice ci t.items.length cd] 28)) := (Below.refl _ _).alloc (Nat.le_refl _) _
      have XC := heap_alloc_new y2 (.cells #[.int .i64 t.kind, .int .i64 t.int, .string t.text, .slice cn t.names.length cc, .slice ci t.items.length cd] 28)
      have RG3 := Lib.hid (RG2.out.below bv2)
      have XG3 := block_below bv2 XG2.out
      obtain ⟨⟨g0, g1, g2, g3, g4⟩, zf⟩ := cellsOf5 XG3
      have RC3 := Lib.hid (RC.below bv2)
      have hc := pcopy_c t _ _ (fun _ => True) (RG3.out.rep _ _ _ (fun _ _ => trivial)) hbt
      have B4 := Lib.hid (B3.out.trans (bv2.mono B3.out.size))
      have XC3 := Lib.hid XC
      have XG4 := Lib.hid XG3
      clear XC XG3 zf RC RG2 XG2 B3 bv2
      go_wp2_with fail
      generalize (y2.alloc (.cells #[.int .i64 t.kind, .int .i64 t.int, .string t.text, .slice cn t.names.length cc, .slice ci t.items.length cd] 28)) = v2 at *
      clear g0 g1 g2 g3 g4
      refine hc.mono ?_; rintro e y3 ⟨dn, dc, di, dd, FD, rfl, RD, ndD, frD, hby3⟩
      clear hc
      have sy3 := hby3.size
      have ltD := RepF.lt _ _ _ RD
      have bv3 : Below y3.heap.size y3 (y3.alloc (.cells #[.int .i64 t.kind, .int .i64 t.int, .string t.text, .slice dn t.names.length dc, .slice di t.items.length dd] 28)) := (Below.refl _ _).alloc (Nat.le_refl _) _
      have bv4 : Below v2.heap.size v2 (y3.alloc (.cells #[.int .i64 t.kind, .int .i64 t.int, .string t.text, .slice dn t.names.length dc, .slice di t.items.length dd] 28)) := below_trans hby3 bv3
      have sv3 : (y3.alloc (.cells #[.int .i64 t.kind, .int .i64 t.int, .string t.text, .slice dn t.names.length dc, .slice di t.items.length dd] 28)).heap.size = y3.heap.size + 1 := by simp
      have XD := heap_alloc_new y3 (.cells #[.int .i64 t.kind, .int .i64 t.int, .string t.text, .slice dn t.names.length dc, .slice di t.items.length dd] 28)
      have XC4 := block_below bv4 XC3.out
      have XG5 := block_below bv4 XG4.out
      have RG5 := Lib.hid (RG3.out.below bv4)
      have RC5 := Lib.hid (RC3.out.below bv4)
      have RD5 := Lib.hid (RD.below bv3)
      have B5 := Lib.hid (B4.out.trans (bv4.mono B4.out.size))
      obtain ⟨⟨c0, c1, c2, c3, c4⟩, zf⟩ := cellsOf5 XC4
      obtain ⟨a0, a1, a2, a3, a4, -⟩ := HSS.out _ B5.out
      have hc := rself RC5.out (HR.out _ (HB.out.trans (B5.out.mono HB.out.size)))
      have XG6 := Lib.hid XG5
      have XC6 := Lib.hid XC4
      have XD6 := Lib.hid XD
      clear XD XC4 XG5 RC3 RG3 RD bv3 bv4 zf B4 XC3 XG4 hby3
      go_wp2_with fail
      generalize (y3.alloc (.cells #[.int .i64 t.kind, .int .i64 t.int, .string t.text, .slice dn t.names.length dc, .slice di t.items.length dd] 28)) = v3 at *
      clear c0 c1 c2 c3 c4 a0 a1 a2 a3 a4
      refine hc.mono ?_; rintro e z1 ⟨rfl, hb⟩
      clear hc
      have sz1 := hb.size
      have B6 := Lib.hid (B5.out.trans (hb.mono B5.out.size))
      have RG7 := Lib.hid (RG5.out.below hb)
      have RC7 := Lib.hid (RC5.out.below hb)
      have RD7 := Lib.hid (RD5.out.below hb)
      have XG7 := Lib.hid (block_below hb XG6.out)
      have XC7 := Lib.hid (block_below hb XC6.out)
      have XD7 := Lib.hid (block_below hb XD6.out)
      clear hb B5 RG5 RC5 RD5 XG6 XC6 XD6
      obtain ⟨⟨g0, g1, g2, g3, g4⟩, zf⟩ := cellsOf5 XG7.out
      obtain ⟨a0, a1, a2, a3, a4, -⟩ := HSS.out _ B6.out
      have hc := rself RG7.out (HR.out _ (HB.out.trans (B6.out.mono HB.out.size)))
      clear zf
      go_wp2_with fail
      clear g0 g1 g2 g3 g4 a0 a1 a2 a3 a4
      refine hc.mono ?_; rintro e z2 ⟨rfl, hb⟩
      clear hc
      have sz2 := hb.size
      have B7 := Lib.hid (B6.out.trans (hb.mono B6.out.size))
      have RG8 := Lib.hid (RG7.out.below hb)
      have RC8 := Lib.hid (RC7.out.below hb)
      have RD8 := Lib.hid (RD7.out.below hb)
      have XG8 := Lib.hid (block_below hb XG7.out)
      have XC8 := Lib.hid (block_below hb XC7.out)
      have XD8 := Lib.hid (block_below hb XD7.out)
      clear hb B6 RG7 RC7 RD7 XG7 XC7 XD7
      obtain ⟨⟨c0, c1, c2, c3, c4⟩, zf⟩ := cellsOf5 XC8.out
      have hc := spoil_c t _ FC z2 RC8.out ndC hbt
      clear zf
      go_wp2_with fail
      clear c0 c1 c2 c3 c4
      refine hc.mono ?_; rintro e z3 ⟨rfl, ht⟩
      clear hc
      have sz3 := ht.size
      have B8 := Lib.hid (B7.out.trans (ht.below (B := wB.heap.size) (fun g hg => by have := frC g hg; omega) B7.out.size))
      have RG9 := Lib.hid (RG8.out.turn ht (fun b hb hm => by have := ltG b hb; have := frC b hm; omega))
      have RD9 := Lib.hid (RD8.out.turn ht (fun b hb hm => by have := frD b hb; have := ltC b hm; omega))
      have XG9 := Lib.hid ((ht.block y1.heap.size (by omega) (fun hm => by have := frC _ hm; omega)).trans XG8.out)
      have XD9 := Lib.hid ((ht.block y3.heap.size (by omega) (fun hm => by have := ltC _ hm; omega)).trans XD8.out)
      clear ht B7 RG8 RC8 RD8 XG8 XC8 XD8
      obtain ⟨⟨g0, g1, g2, g3, g4⟩, zf⟩ := cellsOf5 XG9.out
      have hc := spoil_c t _ FG z3 RG9.out ndG hbt
      clear zf
      go_wp2_with fail
      clear g0 g1 g2 g3 g4
      refine hc.mono ?_; rintro e z4 ⟨rfl, ht⟩
      clear hc
      have sz4 := ht.size
      have B9 := Lib.hid (B8.out.trans (ht.below (B := wB.heap.size) (fun g hg => by have := frG g hg; omega) B8.out.size))
      have RD10 := Lib.hid (RD9.out.turn ht (fun b hb hm => by have := frD b hb; have := ltG b hm; omega))
      have XD10 := Lib.hid ((ht.block y3.heap.size (by omega) (fun hm => by have := ltG _ hm; omega)).trans XD9.out)
      clear ht B8 RG9 RD9 XG9 XD9
      obtain ⟨⟨d0, d1, d2, d3, d4⟩, zf⟩ := cellsOf5 XD10.out
      obtain ⟨a0, a1, a2, a3, a4, -⟩ := HSS.out _ B9.out
      have hc := rself RD10.out (HR.out _ (HB.out.trans (B9.out.mono HB.out.size)))
      clear zf
      go_wp2_with fail
      clear d0 d1 d2 d3 d4 a0 a1 a2 a3 a4
      refine hc.mono ?_; rintro e z5 ⟨rfl, hb⟩
      clear hc
      have sz5 := hb.size
      have B10 := Lib.hid (B9.out.trans (hb.mono B9.out.size))
      have RD11 := Lib.hid (RD10.out.below hb)
      have XD11 := Lib.hid (block_below hb XD10.out)
      clear hb B9 RD10 XD10
      obtain ⟨⟨d0, d1, d2, d3, d4⟩, zf⟩ := cellsOf5 XD11.out
      have hc := apart_c t _ FD z5 RD11.out ndD hbt
      clear zf
      go_wp2_with fail
      clear d0 d1 d2 d3 d4
      refine hc.mono ?_; rintro e z6 ⟨rfl, ht⟩
      clear hc
      have B11 := Lib.hid (B10.out.trans (ht.below (B := wB.heap.size) (fun g hg => by have := frD g hg; omega) B10.out.size))
      have hc := live_c z6 (HT.out _ (HB.out.trans (B11.out.mono HB.out.size)))
      clear ht B10 RD11 XD11
      go_wp2_with fail
      refine hc.mono ?_; rintro e z7 ⟨rfl, hb⟩
      clear hc
      have B12 := Lib.hid (HB.out.trans ((B11.out.trans (hb.mono B11.out.size)).mono HB.out.size))
      clear hb
      go_wp2
      go_ret
      exact ⟨rfl, B12.out⟩
end Go.Proofs.YtbkbokfegjodnaaDoor
