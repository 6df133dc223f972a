/- The walk of the law JsonvalFirst. Conditions: what lies in the package-level variables. -/
import Derived.Test.YtbkbokfegjodnaaDoorJforml
import Derived.Lib.Strings
namespace Go.Proofs.YtbkbokfegjodnaaDoor
open Go.RowKit
theorem take_text (s : ByteArray) (p : Nat) : (s.extract 0 p).data.toList = s.data.toList.take p := by rw [Lib.extract_data]; simp
theorem more_text (s : ByteArray) : (s ++ ⟨#[0]⟩).data.toList = s.data.toList ++ [0] := by simp
theorem text_len (s : ByteArray) : s.data.toList.length = s.size := Array.length_toList
set_option maxRecDepth 20000 in
set_option maxHeartbeats 8000000 in
theorem jsonvalFirst_c (s : ByteArray) (w : World) (hT : JTabs w) : Calls Tryd.prog 7 #[.string s] w fun r w' => r = .returned (.bool true) ∧ Below w.heap.size w w' := by
  have HT := Lib.hid hT
  cases hj : jparse s.data.toList with
  | ok t r =>
    have h1 := parse_ok hj w hT
    have hlen := jparse_len hj
    rw [text_len] at hlen
    have hz : (s ++ ⟨#[0]⟩ : ByteArray).size = s.size + 1 := by rw [ByteArray.size_append]; rfl
    have h2 : ∃ e p, (∀ W, JTabs W → Calls Tryd.prog 16 #[.string (s ++ ⟨#[0]⟩)] W fun r w' => ∃ an cn ai ci, r = .returned (.tuple #[.agg #[.int .i64 0, .int .i64 0, .string ⟨#[]⟩, .slice an 0 cn, .slice ai 0 ci], .int .i64 e, .int .i64 p]) ∧
        Rep w' (fun b => W.heap.size ≤ b) (jnil 0) [.int .i64 0, .int .i64 0, .string ⟨#[]⟩, .slice an 0 cn, .slice ai 0 ci] ∧ Below W.heap.size W w') ∧ (((s.size : Int) == 65536) = true ∨ (((s.size : Int) == 65536) = false ∧ e = 4 ∧ p = s.size)) := by
      rcases first_ok hj with h | h
      · rw [text_len] at h
        have hb : jparse (s ++ ⟨#[0]⟩ : ByteArray).data.toList = .bad 1 0 := by
          unfold jparse
          rw [text_len, hz, if_pos (by omega)]
        exact ⟨1, 0, fun W hW => parse_bad hb W hW, .inl (by rw [h]; rfl)⟩
      · rw [← more_text, text_len] at h
        by_cases h6 : s.size = 65536
        · exact ⟨4, s.size, fun W hW => parse_bad h W hW, .inl (by rw [h6]; rfl)⟩
        · exact ⟨4, s.size, fun W hW => parse_bad h W hW, .inr ⟨by simp; omega, rfl, rfl⟩⟩
    obtain ⟨e, p, h2, h3⟩ := h2
    have H2 := Lib.hid h2
    clear hj hT h2
    go_enter Tryd.func7, Tryd.ntmps7
    go_wp2_with fail
    refine h1.mono ?_; rintro e w1 ⟨an, cn, ai, ci, rfl, hr, hb1⟩
    have hb2 := box_new w1 t an cn ai ci
    have hB := below_trans hb1 hb2
    have hp := H2.out _ (HT.out.below hB)
    have HB := Lib.hid hB
    have HT2 := Lib.hid (HT.out.below hB)
    clear h1 hr hb1 hb2 hB HT H2
    go_wp2_with fail
    refine (lnum_c _ _).mono ?_; rintro e w2 ⟨rfl, rfl⟩
    go_wp2_with fail
    refine hp.mono ?_; rintro e w3 ⟨an, cn, ai, ci, rfl, hr, hb3⟩
    have HB3 := Lib.hid (below_trans HB.out (hb3.alloc hb3.size (.cells #[.int .i64 0, .int .i64 0, .string ⟨#[]⟩, .slice an 0 cn, .slice ai 0 ci] 28)))
    have hl := live_c _ (HT2.out.below (hb3.alloc hb3.size (.cells #[.int .i64 0, .int .i64 0, .string ⟨#[]⟩, .slice an 0 cn, .slice ai 0 ci] 28)))
    clear hp hr hb3 HB HT2
    rcases h3 with h3 | ⟨h3, rfl, rfl⟩
    · go_wp2_with fail
      refine hl.mono ?_; rintro e w4 ⟨rfl, hb4⟩
      have HB4 := Lib.hid (below_trans HB3.out hb4)
      clear hl hb4 HB3
      go_wp2
      go_ret
      exact ⟨rfl, HB4.out⟩
    · go_wp2_with fail
      refine (lnum_c _ _).mono ?_; rintro e w2 ⟨rfl, rfl⟩
      go_wp2_with fail
      refine hl.mono ?_; rintro e w4 ⟨rfl, hb4⟩
      have HB4 := Lib.hid (below_trans HB3.out hb4)
      clear hl hb4 HB3
      go_wp2
      go_ret
      exact ⟨rfl, HB4.out⟩
  | bad e p =>
    have h1 := parse_bad hj w hT
    have he0 := jparse_ne hj
    obtain ⟨hp1, hp3, hf⟩ := first_bad hj
    rw [text_len] at hp1 hp3
    rw [← take_text] at hf
    have he : ((e : Int) == 0) = false := by simp; omega
    have hq1 : ¬ (p : Int) < 0 := by omega
    have hq2 : ¬ (s.size : Int) < (p : Int) := by omega
    have hq3 : ((e : Int) == 3) = false ∨ (((e : Int) == 3) = true ∧ ((p : Int) != (s.size : Int)) = false) := by
      by_cases h : e = 3
      · exact .inr ⟨by rw [h]; rfl, by rw [hp3 h]; simp⟩
      · exact .inl (by simp; omega)
    have HP := Lib.hid hp1
    clear hj hT he0 hp3
    go_enter Tryd.func7, Tryd.ntmps7
    go_wp2_with fail
    refine h1.mono ?_; rintro e w1 ⟨an, cn, ai, ci, rfl, hr, hb1⟩
    have hB := hb1.alloc hb1.size (.cells #[.int .i64 0, .int .i64 0, .string ⟨#[]⟩, .slice an 0 cn, .slice ai 0 ci] 28)
    have HB := Lib.hid hB
    have HT2 := Lib.hid (HT.out.below hB)
    clear h1 hr hb1 hB HT
    go_wp2_with fail
    refine (lnum_c _ _).mono ?_; rintro e w2 ⟨rfl, rfl⟩
    have key : ∀ (W : World), JTabs W → Calls Tryd.prog 16 #[.string (s.extract 0 p)] W fun r w' => ∃ (u : JV) (an : Option Addr) (cn : Nat) (ai : Option Addr) (ci : Nat) (e2 p2 : Nat), r = .returned (.tuple #[.agg #[.int .i64 u.kind, .int .i64 u.int, .string u.text, .slice an u.names.length cn, .slice ai u.items.length ci], .int .i64 e2, .int .i64 p2]) ∧
        ((((e2 : Int) == 0) = true) ∨ (((e2 : Int) == 0) = false ∧ ((e2 : Int) == 3) = true ∧ ((p2 : Int) == (p : Int)) = true)) ∧ Below W.heap.size W w' := by
      intro W hW
      rcases hf with hf | ⟨v, hf⟩
      · refine (parse_bad hf W hW).mono ?_
        rintro r w' ⟨an, cn, ai, ci, rfl, _, hb⟩
        exact ⟨jnil 0, an, cn, ai, ci, 3, p, rfl, .inr ⟨rfl, rfl, by simp⟩, hb⟩
      · refine (parse_ok hf W hW).mono ?_
        rintro r w' ⟨an, cn, ai, ci, rfl, _, hb⟩
        exact ⟨v, an, cn, ai, ci, 0, 0, rfl, .inl rfl, hb⟩
    have hcall := key _ HT2.out
    clear hf key
    rcases hq3 with hq3 | ⟨hq3, hq4⟩
    all_goals (
      go_wp2_with fail
      refine (lnum_c _ _).mono ?_; rintro e w2 ⟨rfl, rfl⟩
      go_wp2_with fail
      refine hcall.mono ?_; rintro e w3 ⟨u, bn, dn, bi, di, e2, p2, rfl, hcs, hb3⟩
      have hb4 := hb3.alloc hb3.size (.cells #[.int .i64 u.kind, .int .i64 u.int, .string u.text, .slice bn u.names.length dn, .slice bi u.items.length di] 28)
      have HB4 := Lib.hid (below_trans HB.out hb4)
      have hl := live_c _ (HT2.out.below hb4)
      clear hcall hb3 hb4 HB HT2
      go_wp2_with fail
      refine (lnum_c _ _).mono ?_; rintro e w4 ⟨rfl, rfl⟩
      rcases hcs with hcs | ⟨hcs, hcs3, hcp⟩
      · go_wp2_with fail
        refine hl.mono ?_; rintro e w5 ⟨rfl, hb5⟩
        have HB5 := Lib.hid (below_trans HB4.out hb5)
        clear hl hb5 HB4
        go_wp2
        go_ret
        exact ⟨rfl, HB5.out⟩
      · go_wp2_with fail
        refine (lnum_c _ _).mono ?_; rintro e w5 ⟨rfl, rfl⟩
        go_wp2_with fail
        refine hl.mono ?_; rintro e w5 ⟨rfl, hb5⟩
        have HB5 := Lib.hid (below_trans HB4.out hb5)
        clear hl hb5 HB4
        go_wp2
        go_ret
        exact ⟨rfl, HB5.out⟩)
end Go.Proofs.YtbkbokfegjodnaaDoor
