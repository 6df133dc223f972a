/- The walks of Bytes at a number. Conditions: none. -/
import Derived.Test.YtjmhoccikbgigaaDoorLaidint
import Derived.Carry
namespace Go.Proofs.YtjmhoccikbgigaaDoor
open Go.RowKit
attribute [local go_sem] run_makeMap
set_option maxHeartbeats 1000000 in
theorem fitsInt_c (n : Int) (w : World) :
    Calls Tryd.prog 77 #[.agg #[.int .i64 3, .int .i64 n, .string ⟨#[]⟩, .slice none 0 0, .slice none 0 0]] w fun e w' => e = .returned (.bool true) ∧ Below w.heap.size w w' := by
  obtain ⟨a0, a1, a2, a3, a4⟩ := cells5 w (.int .i64 3) (.int .i64 n) (.string ⟨#[]⟩) (.slice none 0 0) (.slice none 0 0) 28
  have hb0 : Below w.heap.size w (w.alloc (.cells #[.int .i64 3, .int .i64 n, .string ⟨#[]⟩, .slice none 0 0, .slice none 0 0] 28)) := (Below.refl _ _).alloc (Nat.le_refl _) _
  go_enter Tryd.func77, Tryd.ntmps77
  go_wp2
  go_quiet (fail)
  go_wp2
  go_ret
  exact ⟨rfl, below_drewN hb0 _⟩
set_option maxHeartbeats 1000000 in
theorem checkInt_c (n : Int) (w : World) :
    Calls Tryd.prog 60 #[.agg #[.int .i64 3, .int .i64 n, .string ⟨#[]⟩, .slice none 0 0, .slice none 0 0], .int .i64 0] w fun e w' => e = .returned (.int .i64 0) ∧ Below w.heap.size w w' := by
  obtain ⟨a0, a1, a2, a3, a4⟩ := cells5 w (.int .i64 3) (.int .i64 n) (.string ⟨#[]⟩) (.slice none 0 0) (.slice none 0 0) 28
  have hb0 : Below w.heap.size w (w.alloc (.cells #[.int .i64 3, .int .i64 n, .string ⟨#[]⟩, .slice none 0 0, .slice none 0 0] 28)) := (Below.refl _ _).alloc (Nat.le_refl _) _
  go_enter Tryd.func60, Tryd.ntmps60
  go_wp2_with fail
  refine (fitsInt_c n _).mono ?_; rintro e w1 ⟨rfl, hb1⟩
  have A4 := cell_below hb1 a4
  have A4m := cell_below ((Below.refl w1.heap.size w1).alloc (Nat.le_refl _) (.map #[] 0)) A4
  have HB := Lib.hid (below_trans hb0 hb1)
  clear hb0 hb1 a0 a1 a2 a3 a4
  go_wp2
  go_loopw [30] (fun i wr => i = .int .i64 0 ∧ Below w.heap.size w wr) (fun _ _ => 0)
  case atStart => exact ⟨rfl, HB.out.alloc (by have := HB.out.size; omega) _⟩
  case round =>
    obtain ⟨rfl, hbl⟩ := hrel
    go_wp2
    go_ret
    exact ⟨rfl, hbl⟩
set_option maxHeartbeats 1000000 in
theorem jcheckInt_c (n : Int) (w : World) :
    Calls Tryd.prog 42 #[.agg #[.int .i64 3, .int .i64 n, .string ⟨#[]⟩, .slice none 0 0, .slice none 0 0]] w fun e w' => e = .returned (.int .i64 0) ∧ Below w.heap.size w w' := by
  obtain ⟨a0, a1, a2, a3, a4⟩ := cells5 w (.int .i64 3) (.int .i64 n) (.string ⟨#[]⟩) (.slice none 0 0) (.slice none 0 0) 28
  have hb0 : Below w.heap.size w (w.alloc (.cells #[.int .i64 3, .int .i64 n, .string ⟨#[]⟩, .slice none 0 0, .slice none 0 0] 28)) := (Below.refl _ _).alloc (Nat.le_refl _) _
  go_enter Tryd.func42, Tryd.ntmps42
  go_wp2_with fail
  refine (checkInt_c n _).mono ?_; rintro e w1 ⟨rfl, hb1⟩
  go_wp2
  go_ret
  exact ⟨rfl, below_trans hb0 hb1⟩
set_option maxHeartbeats 1000000 in
theorem bytesInt_c (n : Int) (hn : -9223372036854775808 ≤ n ∧ n ≤ 9223372036854775807) (w : World) :
    Calls Tryd.prog 20 #[.agg #[.int .i64 3, .int .i64 n, .string ⟨#[]⟩, .slice none 0 0, .slice none 0 0]] w fun e w' =>
      ∃ g c, e = .returned (.tuple #[.slice (some ⟨g, 0, none⟩) 9 c, .int .i64 0]) ∧ 9 ≤ c ∧ c ≤ maxLen ∧ Byts w' (.slice (some ⟨g, 0, none⟩) 9 c) (16 :: encN n) ∧ Below w.heap.size w w' := by
  obtain ⟨a0, a1, a2, a3, a4⟩ := cells5 w (.int .i64 3) (.int .i64 n) (.string ⟨#[]⟩) (.slice none 0 0) (.slice none 0 0) 28
  have hb0 : Below w.heap.size w (w.alloc (.cells #[.int .i64 3, .int .i64 n, .string ⟨#[]⟩, .slice none 0 0, .slice none 0 0] 28)) := (Below.refl _ _).alloc (Nat.le_refl _) _
  go_enter Tryd.func20, Tryd.ntmps20
  go_wp2_with fail
  refine (jcheckInt_c n _).mono ?_; rintro e w1 ⟨rfl, hb1⟩
  have A0 := cell_below hb1 a0
  have A1 := cell_below hb1 a1
  have A2 := cell_below hb1 a2
  have A3 := cell_below hb1 a3
  have A4 := cell_below hb1 a4
  have HB := Lib.hid (below_trans hb0 hb1)
  clear hb0 hb1 a0 a1 a2 a3 a4
  go_wp2_with fail
  refine (laidInt_c n hn ⟨#[]⟩ none none 0 0 0 0 w1 (.slice none 0 0) [] (byts_nil _) (by simp)).mono ?_; rintro e w2 ⟨v, rfl, hv, hu⟩
  obtain ⟨g, c, hv1, h1, h2, hf⟩ := Row.form hv
  have h3 : ∃ b, g = some ⟨b, 0, none⟩ := by
    rcases hf with ⟨_, h, _⟩ | ⟨b, h, _⟩
    · cases h
    · exact ⟨b, h⟩
  obtain ⟨b, rfl⟩ := h3
  subst hv1
  have HV := Lib.hid (And.intro hv hu)
  clear hv hu hf A0 A1 A2 A3 A4
  go_wp2
  go_ret2
  exact ⟨b, c, rfl, h1, h2, HV.out.1, HB.out.trans (HV.out.2.below HB.out.size (by simp [Value.ownBlock]))⟩
end Go.Proofs.YtjmhoccikbgigaaDoor
