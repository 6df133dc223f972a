/- The walks of the laws JsonvalForm and JsonvalFirst. Conditions: what lies in the package-level variables. -/
import Derived.Test.YtbkbokfegjodnaaDoorLivej
import Derived.Test.YtbkbokfegjodnaaDoorJbulk
import Derived.Lib.IndexBytes
namespace Go.Proofs.YtbkbokfegjodnaaDoor
open Go.RowKit
/-- a value in a box of its own -/
theorem box_new (w : World) (t : JV) (an : Option Addr) (cn : Nat) (ai : Option Addr) (ci : Nat) : Below w.heap.size w (w.alloc (.cells #[.int .i64 t.kind, .int .i64 t.int, .string t.text, .slice an t.names.length cn, .slice ai t.items.length ci] 28)) := (Below.refl _ _).alloc (Nat.le_refl _) _
theorem back_list (l : List UInt8) : (⟨l.toArray⟩ : ByteArray).data.toList = l := by simp
set_option maxRecDepth 20000 in
set_option maxHeartbeats 8000000 in
theorem jsonvalForm_c (s : ByteArray) (w : World) (hT : JTabs w) : Calls Tryd.prog 6 #[.string s] w fun r w' => r = .returned (.bool true) ∧ Below w.heap.size w w' := by
  have HT := Lib.hid hT
  cases hj : jparse s.data.toList with
  | bad e p =>
    have h1 := parse_bad hj w hT
    have he : ((e : Int) == 0) = false := by have := jparse_ne hj; simp; omega
    clear hj hT
    go_enter Tryd.func6, Tryd.ntmps6
    go_wp2_with fail
    refine h1.mono ?_; rintro e w1 ⟨an, cn, ai, ci, rfl, hr, hb1⟩
    have HB := Lib.hid (hb1.alloc hb1.size (.cells #[.int .i64 0, .int .i64 0, .string ⟨#[]⟩, .slice an 0 cn, .slice ai 0 ci] 28))
    have hl := live_c _ (HT.out.below HB.out)
    clear h1 hr hb1 HT
    go_wp2_with fail
    refine (lnum_c _ _).mono ?_; rintro e w2 ⟨rfl, rfl⟩
    go_wp2_with fail
    refine hl.mono ?_; rintro e w2 ⟨rfl, hb2⟩
    have HB2 := Lib.hid (below_trans HB.out hb2)
    clear hl hb2 HB
    go_wp2
    go_ret
    exact ⟨rfl, HB2.out⟩
  | ok t r =>
    have h1 := parse_ok hj w hT
    obtain ⟨hck, rfl⟩ := jparse_chk hj
    have hbk := jparse_bulk hj
    clear hj hT
    go_enter Tryd.func6, Tryd.ntmps6
    go_wp2_with fail
    refine h1.mono ?_; rintro e w1 ⟨an, cn, ai, ci, rfl, hr, hb1⟩
    have hb2 := box_new w1 t an cn ai ci
    obtain ⟨a0, a1, a2, a3, a4⟩ := cells5 w1 (.int .i64 t.kind) (.int .i64 t.int) (.string t.text) (.slice an t.names.length cn) (.slice ai t.items.length ci) 28
    have hB := below_trans hb1 hb2
    have hoi := rep_okI t _ hr
    have hT2 := HT.out.below hB
    have hp := print_c t (by omega) _ _ _ (hr.below hb2) hT2
    have HR := Lib.hid (hr.below hb2)
    have HB := Lib.hid hB
    have HT2 := Lib.hid hT2
    clear h1 hr hb1 hb2 hB hT2 HT
    go_wp2_with fail
    refine (lnum_c _ _).mono ?_; rintro e w2 ⟨rfl, rfl⟩
    by_cases hlen : 65536 < (jput t).length
    · rw [jprint_long hck hlen] at hp
      clear hlen hck hoi
      go_wp2_with fail
      refine hp.mono ?_; rintro e w2 ⟨rfl, hb3⟩
      have HB3 := Lib.hid (below_trans HB.out hb3)
      have hl := live_c _ (HT2.out.below hb3)
      clear hp hb3 HB HT2 HR a0 a1 a2 a3 a4
      go_wp2_with fail
      refine (lnum_c _ _).mono ?_; rintro e w3 ⟨rfl, rfl⟩
      go_wp2_with fail
      refine (lnum_c _ _).mono ?_; rintro e w3 ⟨rfl, rfl⟩
      go_wp2_with fail
      refine hl.mono ?_; rintro e w4 ⟨rfl, hb4⟩
      have HB4 := Lib.hid (below_trans HB3.out hb4)
      clear hl hb4 HB3
      go_wp2
      go_ret
      exact ⟨rfl, HB4.out⟩
    · have hjb := jback t hoi hck (by omega)
      have hjp := jprint_ok hck hlen
      rw [hjp] at hp
      clear hlen hck hoi
      go_wp2_with fail
      refine hp.mono ?_; rintro e w2 ⟨rfl, hb3⟩
      have HB3 := Lib.hid (below_trans HB.out hb3)
      have HT3 := Lib.hid (HT2.out.below hb3)
      have HR3 := Lib.hid (HR.out.below hb3)
      have e0 := cell_below hb3 a0
      have e1 := cell_below hb3 a1
      have e2 := cell_below hb3 a2
      have e3 := cell_below hb3 a3
      have e4 := cell_below hb3 a4
      have h2 := parse_ok (s := ⟨(jput t).toArray⟩) (by rw [back_list]; exact hjb) w2 HT3.out
      clear hp hb3 HB HT2 HR a0 a1 a2 a3 a4 hjb
      go_wp2_with fail
      refine (lnum_c _ _).mono ?_; rintro e w3 ⟨rfl, rfl⟩
      go_wp2_with fail
      refine h2.mono ?_; rintro e w3 ⟨bn, dn, bi, di, rfl, hr4, hb4⟩
      have hb5 := box_new w3 t bn dn bi di
      obtain ⟨x0, x1, x2, x3, x4⟩ := cells5 w3 (.int .i64 t.kind) (.int .i64 t.int) (.string t.text) (.slice bn t.names.length dn) (.slice bi t.items.length di) 28
      have hB5 := below_trans hb4 hb5
      have hT5 := HT3.out.below hB5
      have f0 := cell_below hB5 e0
      have f1 := cell_below hB5 e1
      have f2 := cell_below hB5 e2
      have f3 := cell_below hB5 e3
      have f4 := cell_below hB5 e4
      have HR5 := Lib.hid (HR3.out.below hB5)
      have HS5 := Lib.hid (hr4.below hb5)
      have hp2 := print_c t (by omega) _ _ _ HS5.out hT5
      rw [hjp] at hp2
      have HB5 := Lib.hid (below_trans HB3.out hB5)
      have HT5 := Lib.hid hT5
      clear h2 hr4 hb4 hb5 hB5 hT5 HB3 HT3 HR3 e0 e1 e2 e3 e4 hjp
      go_wp2_with fail
      refine hp2.mono ?_; rintro e w6 ⟨rfl, hb6⟩
      have g0 := cell_below hb6 f0
      have g1 := cell_below hb6 f1
      have g2 := cell_below hb6 f2
      have g3 := cell_below hb6 f3
      have g4 := cell_below hb6 f4
      have y0 := cell_below hb6 x0
      have y1 := cell_below hb6 x1
      have y2 := cell_below hb6 x2
      have y3 := cell_below hb6 x3
      have y4 := cell_below hb6 x4
      have heq := equal_c t t _ _ w6 _ _ (HR5.out.below hb6) (HS5.out.below hb6)
      rw [same_self] at heq
      have HB6 := Lib.hid (below_trans HB5.out hb6)
      have HT6 := Lib.hid (HT5.out.below hb6)
      clear hp2 hb6 HB5 HT5 HR5 HS5 f0 f1 f2 f3 f4 x0 x1 x2 x3 x4
      go_wp2_with fail
      refine (lnum_c _ _).mono ?_; rintro e w7 ⟨rfl, rfl⟩
      go_wp2_with fail
      refine heq.mono ?_; rintro e w7 ⟨rfl, hb7⟩
      have hl := live_c _ (HT6.out.below hb7)
      have HB7 := Lib.hid (below_trans HB6.out hb7)
      clear heq hb7 HB6 HT6 g0 g1 g2 g3 g4 y0 y1 y2 y3 y4
      go_wp2_with fail
      refine (lnum_c _ _).mono ?_; rintro e w8 ⟨rfl, rfl⟩
      go_wp2_with fail
      refine hl.mono ?_; rintro e w8 ⟨rfl, hb8⟩
      have HB8 := Lib.hid (below_trans HB7.out hb8)
      clear hl hb8 HB7
      go_wp2
      go_ret
      exact ⟨rfl, HB8.out⟩
end Go.Proofs.YtbkbokfegjodnaaDoor
