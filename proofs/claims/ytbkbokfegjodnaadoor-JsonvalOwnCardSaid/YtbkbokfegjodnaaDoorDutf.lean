/- The walks of the document's Utf and simple. Conditions: the number is a character's. -/
import Derived.Test.YtbkbokfegjodnaaDoorDhex
import Derived.Test.YtbkbokfegjodnaaDoorDigw
namespace Go.Proofs.YtbkbokfegjodnaaDoor
open Go.RowKit
theorem conv_at (W : World) (g : Nat) (l : List UInt8) (h : ∀ j (hj : j < l.length), W.cell? ⟨g, j, none⟩ = some (.int .u8 (l[j].toNat : Int))) : (convert 63 9 (.slice (some ⟨g, 0, none⟩) l.length l.length)).run Tryd.prog W = .ok (.string ⟨l.toArray⟩) W := by
  refine run_convert_bytes_back W 63 9 5 ⟨g, 0, none⟩ l.length l byTyK.slice byTyK.byte Tryd.underlying9 ?_
  intro j hj
  have e2 : (⟨g, 0, none⟩ : Addr).add j = ⟨g, j, none⟩ := by rw [add_none]; simp
  rw [e2]
  exact h j hj
theorem ofNat_toNat {n : Nat} (h : n < 256) : ((UInt8.ofNat n).toNat : Int) = (n : Int) := by rw [UInt8.toNat_ofNat']; omega
theorem convB1 (w : World) (b0 : UInt8) (z0 : Int) (h0 : (b0.toNat : Int) = z0) : (convert 63 9 (.slice (some ⟨w.heap.size, 0, none⟩) 1 1)).run Tryd.prog (w.alloc (.cells #[.int .u8 z0] 5)) = .ok (.string ⟨#[b0]⟩) (w.alloc (.cells #[.int .u8 z0] 5)) := by
  subst h0
  have hb := heap_alloc_new w (.cells #[.int .u8 (b0.toNat : Int)] 5)
  refine conv_at _ w.heap.size [b0] (fun j hj => ?_)
  rcases (show j = 0 by simp at hj; omega) with rfl
  all_goals exact cell_of_row _ _ _ _ _ _ hb
theorem convB2 (w : World) (b0 b1 : UInt8) (z0 z1 : Int) (h0 : (b0.toNat : Int) = z0) (h1 : (b1.toNat : Int) = z1) : (convert 63 9 (.slice (some ⟨w.heap.size, 0, none⟩) 2 2)).run Tryd.prog (w.alloc (.cells #[.int .u8 z0, .int .u8 z1] 5)) = .ok (.string ⟨#[b0, b1]⟩) (w.alloc (.cells #[.int .u8 z0, .int .u8 z1] 5)) := by
  subst h0
  subst h1
  have hb := heap_alloc_new w (.cells #[.int .u8 (b0.toNat : Int), .int .u8 (b1.toNat : Int)] 5)
  refine conv_at _ w.heap.size [b0, b1] (fun j hj => ?_)
  rcases (show j = 0 ∨ j = 1 by simp at hj; omega) with rfl | rfl
  all_goals exact cell_of_row _ _ _ _ _ _ hb
theorem convB3 (w : World) (b0 b1 b2 : UInt8) (z0 z1 z2 : Int) (h0 : (b0.toNat : Int) = z0) (h1 : (b1.toNat : Int) = z1) (h2 : (b2.toNat : Int) = z2) : (convert 63 9 (.slice (some ⟨w.heap.size, 0, none⟩) 3 3)).run Tryd.prog (w.alloc (.cells #[.int .u8 z0, .int .u8 z1, .int .u8 z2] 5)) = .ok (.string ⟨#[b0, b1, b2]⟩) (w.alloc (.cells #[.int .u8 z0, .int .u8 z1, .int .u8 z2] 5)) := by
  subst h0
  subst h1
  subst h2
  have hb := heap_alloc_new w (.cells #[.int .u8 (b0.toNat : Int), .int .u8 (b1.toNat : Int), .int .u8 (b2.toNat : Int)] 5)
  refine conv_at _ w.heap.size [b0, b1, b2] (fun j hj => ?_)
  rcases (show j = 0 ∨ j = 1 ∨ j = 2 by simp at hj; omega) with rfl | rfl | rfl
  all_goals exact cell_of_row _ _ _ _ _ _ hb
theorem convB4 (w : World) (b0 b1 b2 b3 : UInt8) (z0 z1 z2 z3 : Int) (h0 : (b0.toNat : Int) = z0) (h1 : (b1.toNat : Int) = z1) (h2 : (b2.toNat : Int) = z2) (h3 : (b3.toNat : Int) = z3) : (convert 63 9 (.slice (some ⟨w.heap.size, 0, none⟩) 4 4)).run Tryd.prog (w.alloc (.cells #[.int .u8 z0, .int .u8 z1, .int .u8 z2, .int .u8 z3] 5)) = .ok (.string ⟨#[b0, b1, b2, b3]⟩) (w.alloc (.cells #[.int .u8 z0, .int .u8 z1, .int .u8 z2, .int .u8 z3] 5)) := by
  subst h0
  subst h1
  subst h2
  subst h3
  have hb := heap_alloc_new w (.cells #[.int .u8 (b0.toNat : Int), .int .u8 (b1.toNat : Int), .int .u8 (b2.toNat : Int), .int .u8 (b3.toNat : Int)] 5)
  refine conv_at _ w.heap.size [b0, b1, b2, b3] (fun j hj => ?_)
  rcases (show j = 0 ∨ j = 1 ∨ j = 2 ∨ j = 3 by simp at hj; omega) with rfl | rfl | rfl | rfl
  all_goals exact cell_of_row _ _ _ _ _ _ hb
set_option maxHeartbeats 4000000 in
theorem dutf_c (n : Nat) (hn : n ≤ 1114111) (w : World) : Calls Tryd.prog 100 #[.int .i64 (n : Int)] w fun e w' => e = .returned (.string ⟨(utfL n).toArray⟩) ∧ Below w.heap.size w w' := by
  have d1 : (n : Int).tdiv 64 = (n : Int) / 64 := by rw [Int.tdiv_eq_ediv_of_nonneg (by omega)]
  have d2 : (n : Int).tdiv 4096 = (n : Int) / 4096 := by rw [Int.tdiv_eq_ediv_of_nonneg (by omega)]
  have d3 : (n : Int).tdiv 262144 = (n : Int) / 262144 := by rw [Int.tdiv_eq_ediv_of_nonneg (by omega)]
  have d4 : (n : Int).tmod 64 = (n : Int) % 64 := by rw [Int.tmod_eq_emod_of_nonneg (by omega)]
  have d5 : ((n : Int) / 64).tmod 64 = ((n : Int) / 64) % 64 := by rw [Int.tmod_eq_emod_of_nonneg (by omega)]
  have d6 : ((n : Int) / 4096).tmod 64 = ((n : Int) / 4096) % 64 := by rw [Int.tmod_eq_emod_of_nonneg (by omega)]
  unfold utfL
  by_cases h1 : n < 128
  · rw [if_pos h1]
    have g1 : (n : Int) < 128 := by omega
    have q1 : IntKind.u8.wrap (n : Int) = (n : Int) := by rw [IntKind.wrap_u8]; omega
    have hC := convB1 w (UInt8.ofNat n) (n : Int) (ofNat_toNat (by omega))
    clear h1 d1 d2 d3 d4 d5 d6
    go_enter Tryd.func100, Tryd.ntmps100
    go_wp2
    go_ret
    exact ⟨rfl, (Below.refl _ _).alloc (Nat.le_refl _) _⟩
  rw [if_neg h1]
  have g1 : ¬ (n : Int) < 128 := by omega
  by_cases h2 : n < 2048
  · rw [if_pos h2]
    have g2 : (n : Int) < 2048 := by omega
    have q1 : IntKind.u8.wrap (192 + (n : Int) / 64) = 192 + (n : Int) / 64 := by rw [IntKind.wrap_u8]; omega
    have q2 : IntKind.u8.wrap (128 + (n : Int) % 64) = 128 + (n : Int) % 64 := by rw [IntKind.wrap_u8]; omega
    have hC := convB2 w (UInt8.ofNat (192 + n / 64)) (UInt8.ofNat (128 + n % 64)) (192 + (n : Int) / 64) (128 + (n : Int) % 64) (by rw [ofNat_toNat (by omega)]; omega) (by rw [ofNat_toNat (by omega)]; omega)
    clear h1 h2 d2 d3 d5 d6
    go_enter Tryd.func100, Tryd.ntmps100
    go_wp2
    go_ret
    exact ⟨rfl, (Below.refl _ _).alloc (Nat.le_refl _) _⟩
  rw [if_neg h2]
  have g2 : ¬ (n : Int) < 2048 := by omega
  by_cases h3 : n < 65536
  · rw [if_pos h3]
    have g3 : (n : Int) < 65536 := by omega
    have q1 : IntKind.u8.wrap (224 + (n : Int) / 4096) = 224 + (n : Int) / 4096 := by rw [IntKind.wrap_u8]; omega
    have q2 : IntKind.u8.wrap (128 + (n : Int) / 64 % 64) = 128 + (n : Int) / 64 % 64 := by rw [IntKind.wrap_u8]; omega
    have q3 : IntKind.u8.wrap (128 + (n : Int) % 64) = 128 + (n : Int) % 64 := by rw [IntKind.wrap_u8]; omega
    have hC := convB3 w (UInt8.ofNat (224 + n / 4096)) (UInt8.ofNat (128 + n / 64 % 64)) (UInt8.ofNat (128 + n % 64)) (224 + (n : Int) / 4096) (128 + (n : Int) / 64 % 64) (128 + (n : Int) % 64) (by rw [ofNat_toNat (by omega)]; omega) (by rw [ofNat_toNat (by omega)]; omega) (by rw [ofNat_toNat (by omega)]; omega)
    clear h1 h2 h3 d3 d6
    go_enter Tryd.func100, Tryd.ntmps100
    go_wp2
    go_ret
    exact ⟨rfl, (Below.refl _ _).alloc (Nat.le_refl _) _⟩
  · rw [if_neg h3]
    have g3 : ¬ (n : Int) < 65536 := by omega
    have q1 : IntKind.u8.wrap (240 + (n : Int) / 262144) = 240 + (n : Int) / 262144 := by rw [IntKind.wrap_u8]; omega
    have q2 : IntKind.u8.wrap (128 + (n : Int) / 4096 % 64) = 128 + (n : Int) / 4096 % 64 := by rw [IntKind.wrap_u8]; omega
    have q3 : IntKind.u8.wrap (128 + (n : Int) / 64 % 64) = 128 + (n : Int) / 64 % 64 := by rw [IntKind.wrap_u8]; omega
    have q4 : IntKind.u8.wrap (128 + (n : Int) % 64) = 128 + (n : Int) % 64 := by rw [IntKind.wrap_u8]; omega
    have hC := convB4 w (UInt8.ofNat (240 + n / 262144)) (UInt8.ofNat (128 + n / 4096 % 64)) (UInt8.ofNat (128 + n / 64 % 64)) (UInt8.ofNat (128 + n % 64)) (240 + (n : Int) / 262144) (128 + (n : Int) / 4096 % 64) (128 + (n : Int) / 64 % 64) (128 + (n : Int) % 64) (by rw [ofNat_toNat (by omega)]; omega) (by rw [ofNat_toNat (by omega)]; omega) (by rw [ofNat_toNat (by omega)]; omega) (by rw [ofNat_toNat (by omega)]; omega)
    clear h1 h2 h3
    go_enter Tryd.func100, Tryd.ntmps100
    go_wp2
    go_ret
    exact ⟨rfl, (Below.refl _ _).alloc (Nat.le_refl _) _⟩
/-- what an escape of one letter says -/
def simpL (c : UInt8) : List UInt8 := if c = 34 then [34] else if c = 92 then [92] else if c = 47 then [47] else if c = 98 then [8] else if c = 102 then [12] else if c = 110 then [10] else if c = 114 then [13] else if c = 116 then [9] else []
set_option maxHeartbeats 4000000 in
theorem dsimple_c (c : UInt8) (w : World) : Calls Tryd.prog 98 #[.int .u8 (c.toNat : Int)] w fun e w' => e = .returned (.string ⟨(simpL c).toArray⟩) ∧ Below w.heap.size w w' := by
  unfold simpL
  by_cases c34 : c = 34
  · rw [if_pos c34]
    have m : ((c.toNat : Int) == 34) = true := byte_eq (d := 34) c34
    have hC := convB1 w 34 (c.toNat : Int) (by rw [c34])
    clear c34
    go_enter Tryd.func98, Tryd.ntmps98
    go_wp2
    go_ret
    exact ⟨rfl, (Below.refl _ _).alloc (Nat.le_refl _) _⟩
  rw [if_neg c34]
  have m34 : ((c.toNat : Int) == 34) = false := byte_ne (d := 34) c34
  by_cases c92 : c = 92
  · rw [if_pos c92]
    have m : ((c.toNat : Int) == 92) = true := byte_eq (d := 92) c92
    have hC := convB1 w 92 (c.toNat : Int) (by rw [c92])
    clear c92
    go_enter Tryd.func98, Tryd.ntmps98
    go_wp2
    go_ret
    exact ⟨rfl, (Below.refl _ _).alloc (Nat.le_refl _) _⟩
  rw [if_neg c92]
  have m92 : ((c.toNat : Int) == 92) = false := byte_ne (d := 92) c92
  by_cases c47 : c = 47
  · rw [if_pos c47]
    have m : ((c.toNat : Int) == 47) = true := byte_eq (d := 47) c47
    have hC := convB1 w 47 (c.toNat : Int) (by rw [c47])
    clear c47
    go_enter Tryd.func98, Tryd.ntmps98
    go_wp2
    go_ret
    exact ⟨rfl, (Below.refl _ _).alloc (Nat.le_refl _) _⟩
  rw [if_neg c47]
  have m47 : ((c.toNat : Int) == 47) = false := byte_ne (d := 47) c47
  by_cases c98 : c = 98
  · rw [if_pos c98]
    have m : ((c.toNat : Int) == 98) = true := byte_eq (d := 98) c98
    clear c98
    go_enter Tryd.func98, Tryd.ntmps98
    go_wp2
    go_ret
    exact ⟨rfl, Below.refl _ _⟩
  rw [if_neg c98]
  have m98 : ((c.toNat : Int) == 98) = false := byte_ne (d := 98) c98
  by_cases c102 : c = 102
  · rw [if_pos c102]
    have m : ((c.toNat : Int) == 102) = true := byte_eq (d := 102) c102
    clear c102
    go_enter Tryd.func98, Tryd.ntmps98
    go_wp2
    go_ret
    exact ⟨rfl, Below.refl _ _⟩
  rw [if_neg c102]
  have m102 : ((c.toNat : Int) == 102) = false := byte_ne (d := 102) c102
  by_cases c110 : c = 110
  · rw [if_pos c110]
    have m : ((c.toNat : Int) == 110) = true := byte_eq (d := 110) c110
    clear c110
    go_enter Tryd.func98, Tryd.ntmps98
    go_wp2
    go_ret
    exact ⟨rfl, Below.refl _ _⟩
  rw [if_neg c110]
  have m110 : ((c.toNat : Int) == 110) = false := byte_ne (d := 110) c110
  by_cases c114 : c = 114
  · rw [if_pos c114]
    have m : ((c.toNat : Int) == 114) = true := byte_eq (d := 114) c114
    clear c114
    go_enter Tryd.func98, Tryd.ntmps98
    go_wp2
    go_ret
    exact ⟨rfl, Below.refl _ _⟩
  rw [if_neg c114]
  have m114 : ((c.toNat : Int) == 114) = false := byte_ne (d := 114) c114
  by_cases c116 : c = 116
  · rw [if_pos c116]
    have m : ((c.toNat : Int) == 116) = true := byte_eq (d := 116) c116
    clear c116
    go_enter Tryd.func98, Tryd.ntmps98
    go_wp2
    go_ret
    exact ⟨rfl, Below.refl _ _⟩
  rw [if_neg c116]
  have m116 : ((c.toNat : Int) == 116) = false := byte_ne (d := 116) c116
  clear c34 c92 c47 c98 c102 c110 c114 c116
  go_enter Tryd.func98, Tryd.ntmps98
  go_wp2
  go_ret
  exact ⟨rfl, Below.refl _ _⟩
end Go.Proofs.YtbkbokfegjodnaaDoor
