/- The walk of live. Conditions: none. -/
import Derived.Test.YtjmhoccikbgigaaDoorRdlive
import Derived.Test.YtjmhoccikbgigaaDoorCmpw
namespace Go.Proofs.YtjmhoccikbgigaaDoor
open Go.RowKit
theorem enc1 : 16 :: encN 1 = [16, 128, 0, 0, 0, 0, 0, 0, 1] := by decide
theorem next1 : nextP [16, 128, 0, 0, 0, 0, 0, 0, 1] ⟨0, 0, 0⟩ = (16, ⟨1, 0, 0⟩) := rfl
theorem num1 : numP [16, 128, 0, 0, 0, 0, 0, 0, 1] 8 (0, ⟨1, 0, 0⟩) = (9223372036854775809, ⟨9, 0, 0⟩) := rfl
theorem rep_int (n : Int) (hn : -9223372036854775808 ≤ n ∧ n ≤ 9223372036854775807) (k : Int) (hk : -9223372036854775808 ≤ k ∧ k ≤ 9223372036854775807) (w : World) (ok : Nat → Prop) :
    Rep w ok (.mk k n ⟨#[]⟩ [] []) [.int .i64 k, .int .i64 n, .string ⟨#[]⟩, .slice none 0 0, .slice none 0 0] :=
  rep_mk.2 ⟨hk, hn, Nat.zero_le _, none, 0, none, 0, rfl, ⟨Nat.le_refl _, Nat.zero_le _⟩, ⟨Nat.le_refl _, Nat.zero_le _⟩, .inl rfl, .inl rfl⟩
theorem num_c (e : Int) (w : World) : Calls Tryd.prog 11 #[.int .i64 e] w fun r w' => r = .returned (.int .i64 e) ∧ w' = w := by
  go_enter Tryd.func11, Tryd.ntmps11
  go_wp2
  go_ret
  exact ⟨rfl, rfl⟩
set_option maxHeartbeats 2000000 in
theorem live_c (w : World) : Calls Tryd.prog 12 #[] w fun r w' => r = .returned (.bool true) ∧ Below w.heap.size w w' := by
  have hb0 : Below w.heap.size w (w.alloc (.cells #[.int .i64 3, .int .i64 1, .string ⟨#[]⟩, .slice none 0 0, .slice none 0 0] 28)) := (Below.refl _ _).alloc (Nat.le_refl _) _
  obtain ⟨a0, a1, a2, a3, a4⟩ := cells5 w (.int .i64 3) (.int .i64 1) (.string ⟨#[]⟩) (.slice none 0 0) (.slice none 0 0) 28
  go_enter Tryd.func12, Tryd.ntmps12
  go_wp2_with fail
  refine (bytesInt_c 1 (by omega) (w.alloc (.cells #[.int .i64 3, .int .i64 1, .string ⟨#[]⟩, .slice none 0 0, .slice none 0 0] 28))).mono ?_; rintro e w1 ⟨g, c, rfl, hc1, hc2, hby, hb1⟩
  rw [enc1] at hby
  have hfr := fun (W : World) (hW : Below w1.heap.size w1 W) => fromInt_c [16, 128, 0, 0, 0, 0, 0, 0, 1] g c 9223372036854775809 W (byts_kept hby hW) ⟨hc1, hc2⟩ next1 num1
  have A0 := cell_below hb1 a0
  have A1 := cell_below hb1 a1
  have A2 := cell_below hb1 a2
  have A3 := cell_below hb1 a3
  have A4 := cell_below hb1 a4
  have HB1 := Lib.hid (below_trans hb0 hb1)
  have hfr1 := hfr w1 (Below.refl _ _)
  unfold maxLen at hc2
  clear hb0 hb1 hby hfr a0 a1 a2 a3 a4
  go_wp2_with fail
  refine hfr1.mono ?_; rintro e w2 ⟨rfl, hb2⟩
  have hb3 : Below w2.heap.size w2 (w2.alloc (.cells #[.int .i64 3, .int .i64 1, .string ⟨#[]⟩, .slice none 0 0, .slice none 0 0] 28)) := (Below.refl _ _).alloc (Nat.le_refl _) _
  have B0 := cell_below (below_trans hb2 hb3) A0
  have B1 := cell_below (below_trans hb2 hb3) A1
  have B2 := cell_below (below_trans hb2 hb3) A2
  have B3 := cell_below (below_trans hb2 hb3) A3
  have B4 := cell_below (below_trans hb2 hb3) A4
  obtain ⟨D0, D1, D2, D3, D4⟩ := cells5 w2 (.int .i64 3) (.int .i64 1) (.string ⟨#[]⟩) (.slice none 0 0) (.slice none 0 0) 28
  have HB2 := Lib.hid (HB1.out.trans ((below_trans hb2 hb3).mono HB1.out.size))
  have hcmp := cmp_c (.mk 3 1 ⟨#[]⟩ [] []) (.mk 0 0 ⟨#[]⟩ [] []) _ _ (w2.alloc (.cells #[.int .i64 3, .int .i64 1, .string ⟨#[]⟩, .slice none 0 0, .slice none 0 0] 28)) (fun _ => True) (fun _ => True) (rep_int 1 (by omega) 3 (by omega) _ _) (rep_int 0 (by omega) 0 (by omega) _ _)
  have HO := Lib.hid (show ord (.mk 3 1 ⟨#[]⟩ [] []) (.mk 0 0 ⟨#[]⟩ [] []) = 1 by rw [ord]; rfl)
  rw [HO.out] at hcmp
  clear hb2 hb3 hfr1 A0 A1 A2 A3 A4
  go_wp2_with fail
  refine hcmp.mono ?_; rintro e w4 ⟨rfl, hb4⟩
  have E0 := cell_below hb4 B0
  have E1 := cell_below hb4 B1
  have E2 := cell_below hb4 B2
  have E3 := cell_below hb4 B3
  have E4 := cell_below hb4 B4
  have F0 := cell_below hb4 D0
  have F1 := cell_below hb4 D1
  have F2 := cell_below hb4 D2
  have F3 := cell_below hb4 D3
  have F4 := cell_below hb4 D4
  have HB4 := Lib.hid (HB2.out.trans (hb4.mono HB2.out.size))
  clear hb4 hcmp B0 B1 B2 B3 B4 D0 D1 D2 D3 D4
  have hequ := equal_c (.mk 3 1 ⟨#[]⟩ [] []) (.mk 3 1 ⟨#[]⟩ [] []) _ _ w4 (fun _ => True) (fun _ => True) (rep_int 1 (by omega) 3 (by omega) _ _) (rep_int 1 (by omega) 3 (by omega) _ _)
  rw [same_self] at hequ
  go_wp2_with fail
  refine (num_c _ _).mono ?_; rintro e w5 ⟨rfl, rfl⟩
  go_wp2_with fail
  refine (num_c _ _).mono ?_; rintro e w5 ⟨rfl, rfl⟩
  go_wp2_with fail
  refine hequ.mono ?_; rintro e w5 ⟨rfl, hb5⟩
  have HB5 := Lib.hid (HB4.out.trans (hb5.mono HB4.out.size))
  clear hb5 hequ E0 E1 E2 E3 E4 F0 F1 F2 F3 F4
  go_wp2
  go_ret
  exact ⟨rfl, HB5.out⟩
set_option maxHeartbeats 1000000 in
theorem orderNames_c (w : World) : Calls Tryd.prog 3 #[] w fun r w' => r = .returned (.bool true) ∧ Below w.heap.size w w' := by
  go_enter Tryd.func3, Tryd.ntmps3
  go_wp2_with fail
  refine (num_c _ _).mono ?_; rintro e w1 ⟨rfl, rfl⟩
  go_wp2_with fail
  refine (num_c _ _).mono ?_; rintro e w1 ⟨rfl, rfl⟩
  go_wp2_with fail
  refine (live_c _).mono ?_; rintro e w1 ⟨rfl, hb⟩
  go_wp2
  go_ret
  exact ⟨rfl, hb⟩
end Go.Proofs.YtjmhoccikbgigaaDoor
