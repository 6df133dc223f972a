/- The walk of the law SchemaParses. Conditions: what comes in is of bulk at most 2 to the 20; the tables of package utf8 lie as their texts lay them. -/
import Derived.Test.YtnmojmmgkipjcaaGreatDoorLawa
import Derived.Test.YtnmojmmgkipjcaaGreatDoorEqualw
import Derived.Test.YtnmojmmgkipjcaaGreatDoorCopyw
import Derived.Test.YtnmojmmgkipjcaaGreatDoorDocb
namespace Go.Proofs.YtnmojmmgkipjcaaGreatDoor
open Go.RowKit
set_option maxRecDepth 20000 in
set_option maxHeartbeats 8000000 in
theorem schemaParses_c (t : JV) (cs : List Value) (w : World) (hr : Rep w (fun _ => True) t cs) (hbk : t.bulk ≤ 1048576) (hT : Lib.Utf8Tabs 0 1 w) :
    Calls Tryz.prog 5 #[.agg cs.toArray] w fun e w' => e = .returned (.bool true) ∧ Below w.heap.size w w' := by
  have hr0 := hr
  obtain ⟨an, cn, ai, ci, rfl⟩ := hr.form
  obtain ⟨a0, a1, a2, a3, a4⟩ := cells5 w (.int .i64 t.kind) (.int .i64 t.int) (.string t.text) (.slice an t.names.length cn) (.slice ai t.items.length ci) 25
  have hb0 : Below w.heap.size w (w.alloc (.cells #[.int .i64 t.kind, .int .i64 t.int, .string t.text, .slice an t.names.length cn, .slice ai t.items.length ci] 25)) := (Below.refl _ _).alloc (Nat.le_refl _) _
  have HB0 := Lib.hid hb0
  have HR := Lib.hid (hr0.below hb0)
  have HT := Lib.hid (tabs_below hT hb0)
  have HX := Lib.hid (heap_alloc_new w (.cells #[.int .i64 t.kind, .int .i64 t.int, .string t.text, .slice an t.names.length cn, .slice ai t.items.length ci] 25))
  have hX1 : w.heap.size < (w.alloc (.cells #[.int .i64 t.kind, .int .i64 t.int, .string t.text, .slice an t.names.length cn, .slice ai t.items.length ci] 25)).heap.size := by simp
  have HBK := Lib.hid (show t.bulk ≤ 1099511627776 by omega)
  clear hr hr0 hb0 hT hbk
  have hb1 : Below (w.alloc (.cells #[.int .i64 t.kind, .int .i64 t.int, .string t.text, .slice an t.names.length cn, .slice ai t.items.length ci] 25)).heap.size (w.alloc (.cells #[.int .i64 t.kind, .int .i64 t.int, .string t.text, .slice an t.names.length cn, .slice ai t.items.length ci] 25)) ((w.alloc (.cells #[.int .i64 t.kind, .int .i64 t.int, .string t.text, .slice an t.names.length cn, .slice ai t.items.length ci] 25)).alloc (.cells #[.int .i64 t.kind, .int .i64 t.int, .string t.text, .slice an t.names.length cn, .slice ai t.items.length ci] 25)) := (Below.refl _ _).alloc (Nat.le_refl _) _
  have hBn := heap_alloc_new (w.alloc (.cells #[.int .i64 t.kind, .int .i64 t.int, .string t.text, .slice an t.names.length cn, .slice ai t.items.length ci] 25)) (.cells #[.int .i64 t.kind, .int .i64 t.int, .string t.text, .slice an t.names.length cn, .slice ai t.items.length ci] 25)
  rw [World.size_alloc] at hBn
  have HLC := Lib.hid (show Calls Tryz.prog 6 #[.slice (some ⟨w.heap.size + 1, 0, none⟩) 1 1] ((w.alloc (.cells #[.int .i64 t.kind, .int .i64 t.int, .string t.text, .slice an t.names.length cn, .slice ai t.items.length ci] 25)).alloc (.cells #[.int .i64 t.kind, .int .i64 t.int, .string t.text, .slice an t.names.length cn, .slice ai t.items.length ci] 25)) (fun e w' => e = .returned (.bool (largeS [t])) ∧ Below ((w.alloc (.cells #[.int .i64 t.kind, .int .i64 t.int, .string t.text, .slice an t.names.length cn, .slice ai t.items.length ci] 25)).alloc (.cells #[.int .i64 t.kind, .int .i64 t.int, .string t.text, .slice an t.names.length cn, .slice ai t.items.length ci] 25)).heap.size ((w.alloc (.cells #[.int .i64 t.kind, .int .i64 t.int, .string t.text, .slice an t.names.length cn, .slice ai t.items.length ci] 25)).alloc (.cells #[.int .i64 t.kind, .int .i64 t.int, .string t.text, .slice an t.names.length cn, .slice ai t.items.length ci] 25)) w') from
    large_c [t] (by simp) (fun x hx => by rw [List.mem_singleton.1 hx]; exact HBK.out) (some ⟨w.heap.size + 1, 0, none⟩) 1 _ _ (items_one (HR.out.below hb1) hBn))
  have HB1' := Lib.hid hb1
  clear hBn hb1
  go_enter Tryz.func5, Tryz.ntmps5
  go_wp2_with fail
  with_reducible refine HLC.out.mono ?_
  rintro e w1 ⟨rfl, hbl1⟩
  have hb1 := HB1'.out
  generalize hW0 : w.alloc (.cells #[.int .i64 t.kind, .int .i64 t.int, .string t.text, .slice an t.names.length cn, .slice ai t.items.length ci] 25) = W0 at *
  clear hW0 HLC HB1'
  have HA1 := Lib.hid (hb1.trans (hbl1.mono hb1.size))
  clear hb1 hbl1 a0 a1 a2 a3 a4
  cases hlg : largeS [t] with
  | true =>
    go_wp2_with fail
    refine (live_c w1 (tabs_below HT.out HA1.out)).mono ?_; rintro e w2 ⟨rfl, hb2⟩
    have HA2 := Lib.hid (HA1.out.trans (hb2.mono HA1.out.size))
    clear hb2
    go_wp2
    go_ret
    exact ⟨rfl, HB0.out.trans (HA2.out.mono HB0.out.size)⟩
  | false =>
    have x1 := (HA1.out.block _ hX1).trans HX.out
    obtain ⟨⟨a0, a1, a2, a3, a4⟩, _⟩ := cellsOf5 x1
    clear x1
    go_wp2_with fail
    refine (copy_c t _ w1 _ (HR.out.below HA1.out) HBK.out).mono ?_; rintro e w2 ⟨gn, gc, gi, gd, rfl, hrg, hb2⟩
    have HA2 := Lib.hid (HA1.out.trans (hb2.mono HA1.out.size))
    have hbg : Below w2.heap.size w2 (w2.alloc (.cells #[.int .i64 t.kind, .int .i64 t.int, .string t.text, .slice gn t.names.length gc, .slice gi t.items.length gd] 25)) := (Below.refl _ _).alloc (Nat.le_refl _) _
    have HA3 := Lib.hid (HA2.out.trans (hbg.mono HA2.out.size))
    have HRG := Lib.hid (hrg.below hbg)
    have HG := Lib.hid (heap_alloc_new w2 (.cells #[.int .i64 t.kind, .int .i64 t.int, .string t.text, .slice gn t.names.length gc, .slice gi t.items.length gd] 25))
    have hg1 : w2.heap.size < (w2.alloc (.cells #[.int .i64 t.kind, .int .i64 t.int, .string t.text, .slice gn t.names.length gc, .slice gi t.items.length gd] 25)).heap.size := by simp
    have hwg : w.heap.size < w2.heap.size := by have := HA2.out.size; omega
    clear hb2 hrg hbg a0 a1 a2 a3 a4
    have HEQ := Lib.hid (fun (W : World) (h1 : Below (w2.alloc (.cells #[.int .i64 t.kind, .int .i64 t.int, .string t.text, .slice gn t.names.length gc, .slice gi t.items.length gd] 25)).heap.size (w2.alloc (.cells #[.int .i64 t.kind, .int .i64 t.int, .string t.text, .slice gn t.names.length gc, .slice gi t.items.length gd] 25)) W) => (show Calls Tryz.prog 15 #[.agg #[.int .i64 t.kind, .int .i64 t.int, .string t.text, .slice gn t.names.length gc, .slice gi t.items.length gd], .agg #[.int .i64 t.kind, .int .i64 t.int, .string t.text, .slice an t.names.length cn, .slice ai t.items.length ci]] W (fun e w' => e = .returned (.bool true) ∧ Below W.heap.size W w') from by
      have h := equal_c t t _ _ W _ _ (HRG.out.below h1) (HR.out.below (HA3.out.trans (h1.mono HA3.out.size)))
      rw [same_self] at h
      exact h))
    have HPA := Lib.hid (show (∃ z : Int, z ≠ 0 ∧ readE t = z ∧ Calls Tryz.prog 13 #[.agg #[.int .i64 t.kind, .int .i64 t.int, .string t.text, .slice gn t.names.length gc, .slice gi t.items.length gd]] (w2.alloc (.cells #[.int .i64 t.kind, .int .i64 t.int, .string t.text, .slice gn t.names.length gc, .slice gi t.items.length gd] 25)) (PaBad (w2.alloc (.cells #[.int .i64 t.kind, .int .i64 t.int, .string t.text, .slice gn t.names.length gc, .slice gi t.items.length gd] 25)) z)) ∨ (∃ m, readE t = 0 ∧ chk t 0 = 0 ∧ readS t 0 0 = .ok m ∧ Calls Tryz.prog 13 #[.agg #[.int .i64 t.kind, .int .i64 t.int, .string t.text, .slice gn t.names.length gc, .slice gi t.items.length gd]] (w2.alloc (.cells #[.int .i64 t.kind, .int .i64 t.int, .string t.text, .slice gn t.names.length gc, .slice gi t.items.length gd] 25)) (PaOk (w2.alloc (.cells #[.int .i64 t.kind, .int .i64 t.int, .string t.text, .slice gn t.names.length gc, .slice gi t.items.length gd] 25)) (fun b => w1.heap.size ≤ b) t m)) from by
      have hT3 := tabs_below HT.out HA3.out
      by_cases h0 : chk t 0 = 0
      · cases hrs : readS t 0 0 with
        | bad E =>
          refine .inl ⟨E, ?_, ?_, parse_bad t HBK.out _ _ _ HRG.out hT3 h0 E hrs⟩
          · rcases readS_bad t 0 0 E hrs with h | h <;> rw [h] <;> decide
          · unfold readE; rw [if_pos h0, hrs]; rfl
        | ok m => exact .inr ⟨m, by unfold readE; rw [if_pos h0, hrs]; rfl, h0, rfl, parse_ok t HBK.out _ _ _ HRG.out hT3 h0 m hrs⟩
      · exact .inl ⟨chk t 0, h0, by unfold readE; rw [if_neg h0], parse_chk t HBK.out _ _ _ HRG.out hT3 h0⟩)
    rcases HPA.out with ⟨z, hz, hre, hpa⟩ | ⟨m, hre, hc0, hrs, hpa⟩
    · have HZ := Lib.hid hre
      have HP := Lib.hid hpa
      have hzb : (z != 0) = true := by simp [hz]
      clear hre hpa HPA
      go_wp2_with fail
      refine HP.out.mono ?_; rintro e w4 ⟨rfl, hb4⟩
      have HB4 := Lib.hid hb4
      have HA4 := Lib.hid (HA3.out.trans (hb4.mono HA3.out.size))
      obtain ⟨⟨a0, a1, a2, a3, a4⟩, _⟩ := cellsOf5 ((HA4.out.block _ hX1).trans HX.out)
      clear hb4
      go_wp2_with fail
      refine (refRead_c t HBK.out _ w4 _ (HR.out.below HA4.out)).mono ?_; rintro e w5 ⟨N, rfl, -, -, hb5⟩
      rw [HZ.out]
      have HB5 := Lib.hid (HB4.out.trans (hb5.mono HB4.out.size))
      have HA5 := Lib.hid (HA4.out.trans (hb5.mono HA4.out.size))
      clear hb5 a0 a1 a2 a3 a4
      obtain ⟨⟨a0, a1, a2, a3, a4⟩, _⟩ := cellsOf5 ((HA5.out.block _ hX1).trans HX.out)
      obtain ⟨⟨g0, g1, g2, g3, g4⟩, _⟩ := cellsOf5 ((HB5.out.block _ hg1).trans HG.out)
      go_wp2_with fail
      refine (num_c z _).mono ?_; rintro e w' ⟨rfl, rfl⟩
      go_wp2_with fail
      refine (HEQ.out w5 HB5.out).mono ?_; rintro e w6 ⟨rfl, hb6⟩
      have HA6 := Lib.hid (HA5.out.trans (hb6.mono HA5.out.size))
      clear hb6 a0 a1 a2 a3 a4 g0 g1 g2 g3 g4
      go_wp2_with fail
      refine (live_c w6 (tabs_below HT.out HA6.out)).mono ?_; rintro e w7 ⟨rfl, hb7⟩
      have HA7 := Lib.hid (HA6.out.trans (hb7.mono HA6.out.size))
      clear hb7
      go_wp2
      go_ret
      exact ⟨rfl, HB0.out.trans (HA7.out.mono HB0.out.size)⟩
    · have HZ := Lib.hid hre
      have HP := Lib.hid hpa
      have HC := Lib.hid (And.intro hc0 hrs)
      clear hre hpa HPA hc0 hrs
      go_wp2_with fail
      refine HP.out.mono ?_; rintro e w4 ⟨p, rfl, HSC, HNC, HB4⟩
      have HA4 := Lib.hid (HA3.out.trans (HB4.out.mono HA3.out.size))
      obtain ⟨⟨a0, a1, a2, a3, a4⟩, _⟩ := cellsOf5 ((HA4.out.block _ hX1).trans HX.out)
      go_wp2_with fail
      refine (refRead_c t HBK.out _ w4 _ (HR.out.below HA4.out)).mono ?_; rintro e w5 ⟨N, rfl, -, hN, hb5⟩
      obtain rfl := hN HC.out.1 m HC.out.2
      rw [HZ.out]
      have HNC5 := Lib.hid (cell_below hb5 HNC.out)
      have HB5 := Lib.hid (HB4.out.trans (hb5.mono HB4.out.size))
      have HA5 := Lib.hid (HA4.out.trans (hb5.mono HA4.out.size))
      clear hb5 a0 a1 a2 a3 a4 hN
      obtain ⟨⟨a0, a1, a2, a3, a4⟩, _⟩ := cellsOf5 ((HA5.out.block _ hX1).trans HX.out)
      obtain ⟨⟨g0, g1, g2, g3, g4⟩, _⟩ := cellsOf5 ((HB5.out.block _ hg1).trans HG.out)
      go_wp2_with fail
      refine (num_c 0 _).mono ?_; rintro e w' ⟨rfl, rfl⟩
      go_wp2_with fail
      refine (HEQ.out w5 HB5.out).mono ?_; rintro e w6 ⟨rfl, hb6⟩
      have HA6 := Lib.hid (HA5.out.trans (hb6.mono HA5.out.size))
      have HNC6 := Lib.hid (cell_below hb6 HNC5.out)
      clear hb6 a0 a1 a2 a3 a4 g0 g1 g2 g3 g4
      go_wp2_with fail
      refine (live_c w6 (tabs_below HT.out HA6.out)).mono ?_; rintro e w7 ⟨rfl, hb7⟩
      have HA7 := Lib.hid (HA6.out.trans (hb7.mono HA6.out.size))
      have HNC7 := Lib.hid (cell_below hb7 HNC6.out)
      clear hb7
      go_wp2_with fail
      refine (rules_c p _ w7 HNC7.out).mono ?_; rintro e w' ⟨rfl, rfl⟩
      go_wp2
      go_ret
      exact ⟨rfl, HB0.out.trans (HA7.out.mono HB0.out.size)⟩
end Go.Proofs.YtnmojmmgkipjcaaGreatDoor
