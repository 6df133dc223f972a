/- The walk of utf8.FullRuneInString at a text that begins beyond ASCII. Conditions: the tables of package utf8 lie as their texts lay them. -/
import Derived.Test.YtbkbokfegjodnaaDoorChrw
import Derived.Test.YtbkbokfegjodnaaDoorShelf
import Derived.BigQuiet
namespace Go.Proofs.YtbkbokfegjodnaaDoor
open Go.RowKit
theorem tails_ne : ∀ (m : Nat) (n : Int) (lo hi : Nat) (t : List UInt8), 0 < n → m ≤ t.length → tails m n lo hi t ≠ -1
  | 0, n, _, _, _, h, _ => by rw [tails]; omega
  | m + 1, _, _, _, [], _, h => by simp at h
  | m + 1, n, lo, hi, b :: t, h, hl => by
    rw [tails]
    split
    · decide
    · exact tails_ne m n 128 191 t h (by simpa using hl)
set_option maxRecDepth 20000 in
set_option maxHeartbeats 8000000 in
theorem full_c (s : ByteArray) (hs : s.size ≤ 9223372036854775807) (h0 : 0 < s.size) (hc : 128 ≤ s[0].toNat) (w : World) (hT : Lib.Utf8Tabs 0 1 w) :
    Calls Tryd.prog 85 #[.string s] w fun e w' => e = .returned (.bool (decide (chrD s.data.toList ≠ -1))) ∧ Below w.heap.size w w' := by
  have hlt := s[0].toNat_lt
  have HC := chr_cons s h0
  have hft := hT.1 s[0].toNat hlt
  have hl1 : (s.data.toList.drop 1).length = s.size - 1 := by rw [List.length_drop, Array.length_toList]; rfl
  have hj : (s[0].toNat : Int) < 256 := by omega
  have hne : ((s.size : Int) == 0) = false := by rw [beq_eq_false_iff_ne]; omega
  rcases (show (s[0].toNat < 194) ∨ (194 ≤ s[0].toNat ∧ s[0].toNat < 224) ∨ (s[0].toNat = 224) ∨ (225 ≤ s[0].toNat ∧ s[0].toNat < 237) ∨ (s[0].toNat = 237) ∨ (238 ≤ s[0].toNat ∧ s[0].toNat < 240) ∨ (s[0].toNat = 240) ∨ (241 ≤ s[0].toNat ∧ s[0].toNat < 244) ∨ (s[0].toNat = 244) ∨ (245 ≤ s[0].toNat) by omega) with h | h | h | h | h | h | h | h | h | h
  · have hx : Lib.firstT s[0].toNat = 241 := by unfold Lib.firstT; (repeat' split) <;> omega
    replace hft : w.cell? ⟨0, s[0].toNat, none⟩ = some (.int .u8 241) := by rw [hft, hx]; rfl
    have HV := Lib.hid (show decide (chrD s.data.toList ≠ -1) = true from by rw [HC]; (repeat' split) <;> first | (exfalso; omega) | decide)
    have g1 : (1 : Int) ≤ (s.size : Int) := by omega
    clear HC hx h hT hl1 hlt
    go_enter Tryd.func85, Tryd.ntmps85
    go_wp2
    go_ret
    exact ⟨by rw [HV.out]; rfl, Below.refl _ _⟩
  · have hx : Lib.firstT s[0].toNat = 2 := by unfold Lib.firstT; (repeat' split) <;> omega
    replace hft : w.cell? ⟨0, s[0].toNat, none⟩ = some (.int .u8 2) := by rw [hft, hx]; rfl
    have hch : chrD s.data.toList = tails 1 2 128 191 (s.data.toList.drop 1) := by rw [HC]; (repeat' split) <;> first | (exfalso; omega) | rfl
    have ha : w.cell? ⟨1, 0, none⟩ = some (.int .u8 128) := (hT.2 0 (by decide)).1
    have hb : w.cell? ⟨1, 1, none⟩ = some (.int .u8 191) := (hT.2 0 (by decide)).2
    clear HC hx hT
    by_cases k2 : 2 ≤ s.size
    · have HV := Lib.hid (show decide (chrD s.data.toList ≠ -1) = true from decide_eq_true (by rw [hch]; exact tails_ne _ _ _ _ _ (by decide) (by omega)))
      have g1 : (2 : Int) ≤ (s.size : Int) := by omega
      clear hch h k2 hl1 hlt ha hb
      go_enter Tryd.func85, Tryd.ntmps85
      go_wp2
      go_ret
      exact ⟨by rw [HV.out]; rfl, Below.refl _ _⟩
    · have g1 : decide ((2 : Int) ≤ (s.size : Int)) = false := by rw [decide_eq_false_iff_not]; omega
      have g1' : ¬ (2 : Int) ≤ (s.size : Int) := by omega
      have hn : s.size = 1 := by omega
      have HV := Lib.hid (show decide (chrD s.data.toList ≠ -1) = false from by rw [hch]; rw [tails_end s 1 _ _ _ _ (by omega)]; rfl)
      have d1 : decide ((1 : Int) < (s.size : Int)) = false := by rw [decide_eq_false_iff_not]; omega
      have d2 : decide ((2 : Int) < (s.size : Int)) = false := by rw [decide_eq_false_iff_not]; omega
      clear hch h k2 hl1 hlt
      go_enter Tryd.func85, Tryd.ntmps85
      go_wp2
      go_quiet (fail)
      go_wp2
      go_ret
      exact ⟨by rw [HV.out]; rfl, below_drewN ((Below.refl _ _).alloc (Nat.le_refl _) _) _⟩
  · have hx : Lib.firstT s[0].toNat = 19 := by unfold Lib.firstT; (repeat' split) <;> omega
    replace hft : w.cell? ⟨0, s[0].toNat, none⟩ = some (.int .u8 19) := by rw [hft, hx]; rfl
    have hch : chrD s.data.toList = tails 2 3 160 191 (s.data.toList.drop 1) := by rw [HC]; (repeat' split) <;> first | (exfalso; omega) | rfl
    have ha : w.cell? ⟨1, 2, none⟩ = some (.int .u8 160) := (hT.2 1 (by decide)).1
    have hb : w.cell? ⟨1, 3, none⟩ = some (.int .u8 191) := (hT.2 1 (by decide)).2
    clear HC hx hT
    by_cases k3 : 3 ≤ s.size
    · have HV := Lib.hid (show decide (chrD s.data.toList ≠ -1) = true from decide_eq_true (by rw [hch]; exact tails_ne _ _ _ _ _ (by decide) (by omega)))
      have g1 : (3 : Int) ≤ (s.size : Int) := by omega
      clear hch h k3 hl1 hlt ha hb
      go_enter Tryd.func85, Tryd.ntmps85
      go_wp2
      go_ret
      exact ⟨by rw [HV.out]; rfl, Below.refl _ _⟩
    · have g1 : decide ((3 : Int) ≤ (s.size : Int)) = false := by rw [decide_eq_false_iff_not]; omega
      have g1' : ¬ (3 : Int) ≤ (s.size : Int) := by omega
      by_cases z1 : s.size = 1
      · have hn : s.size = 1 := by omega
        have HV := Lib.hid (show decide (chrD s.data.toList ≠ -1) = false from by rw [hch]; rw [tails_end s 1 _ _ _ _ (by omega)]; rfl)
        have d1 : decide ((1 : Int) < (s.size : Int)) = false := by rw [decide_eq_false_iff_not]; omega
        have d2 : decide ((2 : Int) < (s.size : Int)) = false := by rw [decide_eq_false_iff_not]; omega
        clear hch h k3 hl1 hlt
        go_enter Tryd.func85, Tryd.ntmps85
        go_wp2
        go_quiet (fail)
        go_wp2
        go_ret
        exact ⟨by rw [HV.out]; rfl, below_drewN ((Below.refl _ _).alloc (Nat.le_refl _) _) _⟩
      have hn : s.size = 2 := by omega
      have hi1 : 1 < s.size := by omega
      have p1 : (1 : Int) < (s.size : Int) := by omega
      have e1 := tails_step s 1 1 3 160 191 hi1
      rw [e1] at hch
      clear e1
      by_cases q1 : s[1].toNat < 160
      · have HV := Lib.hid (show decide (chrD s.data.toList ≠ -1) = true from by rw [hch]; rw [if_pos (.inl q1)]; decide)
        have f1 : (s[1].toNat : Int) < 160 := by omega
        clear hch h k3 hl1 hlt
        go_enter Tryd.func85, Tryd.ntmps85
        go_wp2
        go_quiet (fail)
        go_wp2
        go_ret
        exact ⟨by rw [HV.out]; rfl, below_drewN ((Below.refl _ _).alloc (Nat.le_refl _) _) _⟩
      by_cases q2 : 191 < s[1].toNat
      · have HV := Lib.hid (show decide (chrD s.data.toList ≠ -1) = true from by rw [hch]; rw [if_pos (.inr q2)]; decide)
        have f1 : decide ((s[1].toNat : Int) < 160) = false := by rw [decide_eq_false_iff_not]; omega
        have f2 : (191 : Int) < (s[1].toNat : Int) := by omega
        clear hch h k3 hl1 hlt
        go_enter Tryd.func85, Tryd.ntmps85
        go_wp2
        go_quiet (fail)
        go_wp2
        go_ret
        exact ⟨by rw [HV.out]; rfl, below_drewN ((Below.refl _ _).alloc (Nat.le_refl _) _) _⟩
      rw [if_neg (by omega)] at hch
      have HV := Lib.hid (show decide (chrD s.data.toList ≠ -1) = false from by rw [hch]; rw [tails_end s 2 _ _ _ _ (by omega)]; rfl)
      have f1 : decide ((s[1].toNat : Int) < 160) = false := by rw [decide_eq_false_iff_not]; omega
      have f2 : decide ((191 : Int) < (s[1].toNat : Int)) = false := by rw [decide_eq_false_iff_not]; omega
      have d2 : decide ((2 : Int) < (s.size : Int)) = false := by rw [decide_eq_false_iff_not]; omega
      clear hch h k3 hl1 hlt
      go_enter Tryd.func85, Tryd.ntmps85
      go_wp2
      go_quiet (fail)
      go_wp2
      go_ret
      exact ⟨by rw [HV.out]; rfl, below_drewN ((Below.refl _ _).alloc (Nat.le_refl _) _) _⟩
  · have hx : Lib.firstT s[0].toNat = 3 := by unfold Lib.firstT; (repeat' split) <;> omega
    replace hft : w.cell? ⟨0, s[0].toNat, none⟩ = some (.int .u8 3) := by rw [hft, hx]; rfl
    have hch : chrD s.data.toList = tails 2 3 128 191 (s.data.toList.drop 1) := by rw [HC]; (repeat' split) <;> first | (exfalso; omega) | rfl
    have ha : w.cell? ⟨1, 0, none⟩ = some (.int .u8 128) := (hT.2 0 (by decide)).1
    have hb : w.cell? ⟨1, 1, none⟩ = some (.int .u8 191) := (hT.2 0 (by decide)).2
    clear HC hx hT
    by_cases k3 : 3 ≤ s.size
    · have HV := Lib.hid (show decide (chrD s.data.toList ≠ -1) = true from decide_eq_true (by rw [hch]; exact tails_ne _ _ _ _ _ (by decide) (by omega)))
      have g1 : (3 : Int) ≤ (s.size : Int) := by omega
      clear hch h k3 hl1 hlt ha hb
      go_enter Tryd.func85, Tryd.ntmps85
      go_wp2
      go_ret
      exact ⟨by rw [HV.out]; rfl, Below.refl _ _⟩
    · have g1 : decide ((3 : Int) ≤ (s.size : Int)) = false := by rw [decide_eq_false_iff_not]; omega
      have g1' : ¬ (3 : Int) ≤ (s.size : Int) := by omega
      by_cases z1 : s.size = 1
      · have hn : s.size = 1 := by omega
        have HV := Lib.hid (show decide (chrD s.data.toList ≠ -1) = false from by rw [hch]; rw [tails_end s 1 _ _ _ _ (by omega)]; rfl)
        have d1 : decide ((1 : Int) < (s.size : Int)) = false := by rw [decide_eq_false_iff_not]; omega
        have d2 : decide ((2 : Int) < (s.size : Int)) = false := by rw [decide_eq_false_iff_not]; omega
        clear hch h k3 hl1 hlt
        go_enter Tryd.func85, Tryd.ntmps85
        go_wp2
        go_quiet (fail)
        go_wp2
        go_ret
        exact ⟨by rw [HV.out]; rfl, below_drewN ((Below.refl _ _).alloc (Nat.le_refl _) _) _⟩
      have hn : s.size = 2 := by omega
      have hi1 : 1 < s.size := by omega
      have p1 : (1 : Int) < (s.size : Int) := by omega
      have e1 := tails_step s 1 1 3 128 191 hi1
      rw [e1] at hch
      clear e1
      by_cases q1 : s[1].toNat < 128
      · have HV := Lib.hid (show decide (chrD s.data.toList ≠ -1) = true from by rw [hch]; rw [if_pos (.inl q1)]; decide)
        have f1 : (s[1].toNat : Int) < 128 := by omega
        clear hch h k3 hl1 hlt
        go_enter Tryd.func85, Tryd.ntmps85
        go_wp2
        go_quiet (fail)
        go_wp2
        go_ret
        exact ⟨by rw [HV.out]; rfl, below_drewN ((Below.refl _ _).alloc (Nat.le_refl _) _) _⟩
      by_cases q2 : 191 < s[1].toNat
      · have HV := Lib.hid (show decide (chrD s.data.toList ≠ -1) = true from by rw [hch]; rw [if_pos (.inr q2)]; decide)
        have f1 : decide ((s[1].toNat : Int) < 128) = false := by rw [decide_eq_false_iff_not]; omega
        have f2 : (191 : Int) < (s[1].toNat : Int) := by omega
        clear hch h k3 hl1 hlt
        go_enter Tryd.func85, Tryd.ntmps85
        go_wp2
        go_quiet (fail)
        go_wp2
        go_ret
        exact ⟨by rw [HV.out]; rfl, below_drewN ((Below.refl _ _).alloc (Nat.le_refl _) _) _⟩
      rw [if_neg (by omega)] at hch
      have HV := Lib.hid (show decide (chrD s.data.toList ≠ -1) = false from by rw [hch]; rw [tails_end s 2 _ _ _ _ (by omega)]; rfl)
      have f1 : decide ((s[1].toNat : Int) < 128) = false := by rw [decide_eq_false_iff_not]; omega
      have f2 : decide ((191 : Int) < (s[1].toNat : Int)) = false := by rw [decide_eq_false_iff_not]; omega
      have d2 : decide ((2 : Int) < (s.size : Int)) = false := by rw [decide_eq_false_iff_not]; omega
      clear hch h k3 hl1 hlt
      go_enter Tryd.func85, Tryd.ntmps85
      go_wp2
      go_quiet (fail)
      go_wp2
      go_ret
      exact ⟨by rw [HV.out]; rfl, below_drewN ((Below.refl _ _).alloc (Nat.le_refl _) _) _⟩
  · have hx : Lib.firstT s[0].toNat = 35 := by unfold Lib.firstT; (repeat' split) <;> omega
    replace hft : w.cell? ⟨0, s[0].toNat, none⟩ = some (.int .u8 35) := by rw [hft, hx]; rfl
    have hch : chrD s.data.toList = tails 2 3 128 159 (s.data.toList.drop 1) := by rw [HC]; (repeat' split) <;> first | (exfalso; omega) | rfl
    have ha : w.cell? ⟨1, 4, none⟩ = some (.int .u8 128) := (hT.2 2 (by decide)).1
    have hb : w.cell? ⟨1, 5, none⟩ = some (.int .u8 159) := (hT.2 2 (by decide)).2
    clear HC hx hT
    by_cases k3 : 3 ≤ s.size
    · have HV := Lib.hid (show decide (chrD s.data.toList ≠ -1) = true from decide_eq_true (by rw [hch]; exact tails_ne _ _ _ _ _ (by decide) (by omega)))
      have g1 : (3 : Int) ≤ (s.size : Int) := by omega
      clear hch h k3 hl1 hlt ha hb
      go_enter Tryd.func85, Tryd.ntmps85
      go_wp2
      go_ret
      exact ⟨by rw [HV.out]; rfl, Below.refl _ _⟩
    · have g1 : decide ((3 : Int) ≤ (s.size : Int)) = false := by rw [decide_eq_false_iff_not]; omega
      have g1' : ¬ (3 : Int) ≤ (s.size : Int) := by omega
      by_cases z1 : s.size = 1
      · have hn : s.size = 1 := by omega
        have HV := Lib.hid (show decide (chrD s.data.toList ≠ -1) = false from by rw [hch]; rw [tails_end s 1 _ _ _ _ (by omega)]; rfl)
        have d1 : decide ((1 : Int) < (s.size : Int)) = false := by rw [decide_eq_false_iff_not]; omega
        have d2 : decide ((2 : Int) < (s.size : Int)) = false := by rw [decide_eq_false_iff_not]; omega
        clear hch h k3 hl1 hlt
        go_enter Tryd.func85, Tryd.ntmps85
        go_wp2
        go_quiet (fail)
        go_wp2
        go_ret
        exact ⟨by rw [HV.out]; rfl, below_drewN ((Below.refl _ _).alloc (Nat.le_refl _) _) _⟩
      have hn : s.size = 2 := by omega
      have hi1 : 1 < s.size := by omega
      have p1 : (1 : Int) < (s.size : Int) := by omega
      have e1 := tails_step s 1 1 3 128 159 hi1
      rw [e1] at hch
      clear e1
      by_cases q1 : s[1].toNat < 128
      · have HV := Lib.hid (show decide (chrD s.data.toList ≠ -1) = true from by rw [hch]; rw [if_pos (.inl q1)]; decide)
        have f1 : (s[1].toNat : Int) < 128 := by omega
        clear hch h k3 hl1 hlt
        go_enter Tryd.func85, Tryd.ntmps85
        go_wp2
        go_quiet (fail)
        go_wp2
        go_ret
        exact ⟨by rw [HV.out]; rfl, below_drewN ((Below.refl _ _).alloc (Nat.le_refl _) _) _⟩
      by_cases q2 : 159 < s[1].toNat
      · have HV := Lib.hid (show decide (chrD s.data.toList ≠ -1) = true from by rw [hch]; rw [if_pos (.inr q2)]; decide)
        have f1 : decide ((s[1].toNat : Int) < 128) = false := by rw [decide_eq_false_iff_not]; omega
        have f2 : (159 : Int) < (s[1].toNat : Int) := by omega
        clear hch h k3 hl1 hlt
        go_enter Tryd.func85, Tryd.ntmps85
        go_wp2
        go_quiet (fail)
        go_wp2
        go_ret
        exact ⟨by rw [HV.out]; rfl, below_drewN ((Below.refl _ _).alloc (Nat.le_refl _) _) _⟩
      rw [if_neg (by omega)] at hch
      have HV := Lib.hid (show decide (chrD s.data.toList ≠ -1) = false from by rw [hch]; rw [tails_end s 2 _ _ _ _ (by omega)]; rfl)
      have f1 : decide ((s[1].toNat : Int) < 128) = false := by rw [decide_eq_false_iff_not]; omega
      have f2 : decide ((159 : Int) < (s[1].toNat : Int)) = false := by rw [decide_eq_false_iff_not]; omega
      have d2 : decide ((2 : Int) < (s.size : Int)) = false := by rw [decide_eq_false_iff_not]; omega
      clear hch h k3 hl1 hlt
      go_enter Tryd.func85, Tryd.ntmps85
      go_wp2
      go_quiet (fail)
      go_wp2
      go_ret
      exact ⟨by rw [HV.out]; rfl, below_drewN ((Below.refl _ _).alloc (Nat.le_refl _) _) _⟩
  · have hx : Lib.firstT s[0].toNat = 3 := by unfold Lib.firstT; (repeat' split) <;> omega
    replace hft : w.cell? ⟨0, s[0].toNat, none⟩ = some (.int .u8 3) := by rw [hft, hx]; rfl
    have hch : chrD s.data.toList = tails 2 3 128 191 (s.data.toList.drop 1) := by rw [HC]; (repeat' split) <;> first | (exfalso; omega) | rfl
    have ha : w.cell? ⟨1, 0, none⟩ = some (.int .u8 128) := (hT.2 0 (by decide)).1
    have hb : w.cell? ⟨1, 1, none⟩ = some (.int .u8 191) := (hT.2 0 (by decide)).2
    clear HC hx hT
    by_cases k3 : 3 ≤ s.size
    · have HV := Lib.hid (show decide (chrD s.data.toList ≠ -1) = true from decide_eq_true (by rw [hch]; exact tails_ne _ _ _ _ _ (by decide) (by omega)))
      have g1 : (3 : Int) ≤ (s.size : Int) := by omega
      clear hch h k3 hl1 hlt ha hb
      go_enter Tryd.func85, Tryd.ntmps85
      go_wp2
      go_ret
      exact ⟨by rw [HV.out]; rfl, Below.refl _ _⟩
    · have g1 : decide ((3 : Int) ≤ (s.size : Int)) = false := by rw [decide_eq_false_iff_not]; omega
      have g1' : ¬ (3 : Int) ≤ (s.size : Int) := by omega
      by_cases z1 : s.size = 1
      · have hn : s.size = 1 := by omega
        have HV := Lib.hid (show decide (chrD s.data.toList ≠ -1) = false from by rw [hch]; rw [tails_end s 1 _ _ _ _ (by omega)]; rfl)
        have d1 : decide ((1 : Int) < (s.size : Int)) = false := by rw [decide_eq_false_iff_not]; omega
        have d2 : decide ((2 : Int) < (s.size : Int)) = false := by rw [decide_eq_false_iff_not]; omega
        clear hch h k3 hl1 hlt
        go_enter Tryd.func85, Tryd.ntmps85
        go_wp2
        go_quiet (fail)
        go_wp2
        go_ret
        exact ⟨by rw [HV.out]; rfl, below_drewN ((Below.refl _ _).alloc (Nat.le_refl _) _) _⟩
      have hn : s.size = 2 := by omega
      have hi1 : 1 < s.size := by omega
      have p1 : (1 : Int) < (s.size : Int) := by omega
      have e1 := tails_step s 1 1 3 128 191 hi1
      rw [e1] at hch
      clear e1
      by_cases q1 : s[1].toNat < 128
      · have HV := Lib.hid (show decide (chrD s.data.toList ≠ -1) = true from by rw [hch]; rw [if_pos (.inl q1)]; decide)
        have f1 : (s[1].toNat : Int) < 128 := by omega
        clear hch h k3 hl1 hlt
        go_enter Tryd.func85, Tryd.ntmps85
        go_wp2
        go_quiet (fail)
        go_wp2
        go_ret
        exact ⟨by rw [HV.out]; rfl, below_drewN ((Below.refl _ _).alloc (Nat.le_refl _) _) _⟩
      by_cases q2 : 191 < s[1].toNat
      · have HV := Lib.hid (show decide (chrD s.data.toList ≠ -1) = true from by rw [hch]; rw [if_pos (.inr q2)]; decide)
        have f1 : decide ((s[1].toNat : Int) < 128) = false := by rw [decide_eq_false_iff_not]; omega
        have f2 : (191 : Int) < (s[1].toNat : Int) := by omega
        clear hch h k3 hl1 hlt
        go_enter Tryd.func85, Tryd.ntmps85
        go_wp2
        go_quiet (fail)
        go_wp2
        go_ret
        exact ⟨by rw [HV.out]; rfl, below_drewN ((Below.refl _ _).alloc (Nat.le_refl _) _) _⟩
      rw [if_neg (by omega)] at hch
      have HV := Lib.hid (show decide (chrD s.data.toList ≠ -1) = false from by rw [hch]; rw [tails_end s 2 _ _ _ _ (by omega)]; rfl)
      have f1 : decide ((s[1].toNat : Int) < 128) = false := by rw [decide_eq_false_iff_not]; omega
      have f2 : decide ((191 : Int) < (s[1].toNat : Int)) = false := by rw [decide_eq_false_iff_not]; omega
      have d2 : decide ((2 : Int) < (s.size : Int)) = false := by rw [decide_eq_false_iff_not]; omega
      clear hch h k3 hl1 hlt
      go_enter Tryd.func85, Tryd.ntmps85
      go_wp2
      go_quiet (fail)
      go_wp2
      go_ret
      exact ⟨by rw [HV.out]; rfl, below_drewN ((Below.refl _ _).alloc (Nat.le_refl _) _) _⟩
  · have hx : Lib.firstT s[0].toNat = 52 := by unfold Lib.firstT; (repeat' split) <;> omega
    replace hft : w.cell? ⟨0, s[0].toNat, none⟩ = some (.int .u8 52) := by rw [hft, hx]; rfl
    have hch : chrD s.data.toList = tails 3 4 144 191 (s.data.toList.drop 1) := by rw [HC]; (repeat' split) <;> first | (exfalso; omega) | rfl
    have ha : w.cell? ⟨1, 6, none⟩ = some (.int .u8 144) := (hT.2 3 (by decide)).1
    have hb : w.cell? ⟨1, 7, none⟩ = some (.int .u8 191) := (hT.2 3 (by decide)).2
    clear HC hx hT
    by_cases k4 : 4 ≤ s.size
    · have HV := Lib.hid (show decide (chrD s.data.toList ≠ -1) = true from decide_eq_true (by rw [hch]; exact tails_ne _ _ _ _ _ (by decide) (by omega)))
      have g1 : (4 : Int) ≤ (s.size : Int) := by omega
      clear hch h k4 hl1 hlt ha hb
      go_enter Tryd.func85, Tryd.ntmps85
      go_wp2
      go_ret
      exact ⟨by rw [HV.out]; rfl, Below.refl _ _⟩
    · have g1 : decide ((4 : Int) ≤ (s.size : Int)) = false := by rw [decide_eq_false_iff_not]; omega
      have g1' : ¬ (4 : Int) ≤ (s.size : Int) := by omega
      by_cases z1 : s.size = 1
      · have hn : s.size = 1 := by omega
        have HV := Lib.hid (show decide (chrD s.data.toList ≠ -1) = false from by rw [hch]; rw [tails_end s 1 _ _ _ _ (by omega)]; rfl)
        have d1 : decide ((1 : Int) < (s.size : Int)) = false := by rw [decide_eq_false_iff_not]; omega
        have d2 : decide ((2 : Int) < (s.size : Int)) = false := by rw [decide_eq_false_iff_not]; omega
        clear hch h k4 hl1 hlt
        go_enter Tryd.func85, Tryd.ntmps85
        go_wp2
        go_quiet (fail)
        go_wp2
        go_ret
        exact ⟨by rw [HV.out]; rfl, below_drewN ((Below.refl _ _).alloc (Nat.le_refl _) _) _⟩
      by_cases z2 : s.size = 2
      · have hn : s.size = 2 := by omega
        have hi1 : 1 < s.size := by omega
        have p1 : (1 : Int) < (s.size : Int) := by omega
        have e1 := tails_step s 1 2 4 144 191 hi1
        rw [e1] at hch
        clear e1
        by_cases q1 : s[1].toNat < 144
        · have HV := Lib.hid (show decide (chrD s.data.toList ≠ -1) = true from by rw [hch]; rw [if_pos (.inl q1)]; decide)
          have f1 : (s[1].toNat : Int) < 144 := by omega
          clear hch h k4 hl1 hlt
          go_enter Tryd.func85, Tryd.ntmps85
          go_wp2
          go_quiet (fail)
          go_wp2
          go_ret
          exact ⟨by rw [HV.out]; rfl, below_drewN ((Below.refl _ _).alloc (Nat.le_refl _) _) _⟩
        by_cases q2 : 191 < s[1].toNat
        · have HV := Lib.hid (show decide (chrD s.data.toList ≠ -1) = true from by rw [hch]; rw [if_pos (.inr q2)]; decide)
          have f1 : decide ((s[1].toNat : Int) < 144) = false := by rw [decide_eq_false_iff_not]; omega
          have f2 : (191 : Int) < (s[1].toNat : Int) := by omega
          clear hch h k4 hl1 hlt
          go_enter Tryd.func85, Tryd.ntmps85
          go_wp2
          go_quiet (fail)
          go_wp2
          go_ret
          exact ⟨by rw [HV.out]; rfl, below_drewN ((Below.refl _ _).alloc (Nat.le_refl _) _) _⟩
        rw [if_neg (by omega)] at hch
        have HV := Lib.hid (show decide (chrD s.data.toList ≠ -1) = false from by rw [hch]; rw [tails_end s 2 _ _ _ _ (by omega)]; rfl)
        have f1 : decide ((s[1].toNat : Int) < 144) = false := by rw [decide_eq_false_iff_not]; omega
        have f2 : decide ((191 : Int) < (s[1].toNat : Int)) = false := by rw [decide_eq_false_iff_not]; omega
        have d2 : decide ((2 : Int) < (s.size : Int)) = false := by rw [decide_eq_false_iff_not]; omega
        clear hch h k4 hl1 hlt
        go_enter Tryd.func85, Tryd.ntmps85
        go_wp2
        go_quiet (fail)
        go_wp2
        go_ret
        exact ⟨by rw [HV.out]; rfl, below_drewN ((Below.refl _ _).alloc (Nat.le_refl _) _) _⟩
      have hn : s.size = 3 := by omega
      have hi1 : 1 < s.size := by omega
      have p1 : (1 : Int) < (s.size : Int) := by omega
      have e1 := tails_step s 1 2 4 144 191 hi1
      rw [e1] at hch
      clear e1
      by_cases q1 : s[1].toNat < 144
      · have HV := Lib.hid (show decide (chrD s.data.toList ≠ -1) = true from by rw [hch]; rw [if_pos (.inl q1)]; decide)
        have f1 : (s[1].toNat : Int) < 144 := by omega
        clear hch h k4 hl1 hlt
        go_enter Tryd.func85, Tryd.ntmps85
        go_wp2
        go_quiet (fail)
        go_wp2
        go_ret
        exact ⟨by rw [HV.out]; rfl, below_drewN ((Below.refl _ _).alloc (Nat.le_refl _) _) _⟩
      by_cases q2 : 191 < s[1].toNat
      · have HV := Lib.hid (show decide (chrD s.data.toList ≠ -1) = true from by rw [hch]; rw [if_pos (.inr q2)]; decide)
        have f1 : decide ((s[1].toNat : Int) < 144) = false := by rw [decide_eq_false_iff_not]; omega
        have f2 : (191 : Int) < (s[1].toNat : Int) := by omega
        clear hch h k4 hl1 hlt
        go_enter Tryd.func85, Tryd.ntmps85
        go_wp2
        go_quiet (fail)
        go_wp2
        go_ret
        exact ⟨by rw [HV.out]; rfl, below_drewN ((Below.refl _ _).alloc (Nat.le_refl _) _) _⟩
      rw [if_neg (by omega)] at hch
      have hi2 : 2 < s.size := by omega
      have p2 : (2 : Int) < (s.size : Int) := by omega
      have e2 := tails_step s 2 1 4 128 191 hi2
      rw [e2] at hch
      clear e2
      by_cases q3 : s[2].toNat < 128
      · have HV := Lib.hid (show decide (chrD s.data.toList ≠ -1) = true from by rw [hch]; rw [if_pos (.inl q3)]; decide)
        have f1 : decide ((s[1].toNat : Int) < 144) = false := by rw [decide_eq_false_iff_not]; omega
        have f2 : decide ((191 : Int) < (s[1].toNat : Int)) = false := by rw [decide_eq_false_iff_not]; omega
        have f3 : (s[2].toNat : Int) < 128 := by omega
        clear hch h k4 hl1 hlt
        go_enter Tryd.func85, Tryd.ntmps85
        go_wp2
        go_quiet (fail)
        go_wp2
        go_ret
        exact ⟨by rw [HV.out]; rfl, below_drewN ((Below.refl _ _).alloc (Nat.le_refl _) _) _⟩
      by_cases q4 : 191 < s[2].toNat
      · have HV := Lib.hid (show decide (chrD s.data.toList ≠ -1) = true from by rw [hch]; rw [if_pos (.inr q4)]; decide)
        have f1 : decide ((s[1].toNat : Int) < 144) = false := by rw [decide_eq_false_iff_not]; omega
        have f2 : decide ((191 : Int) < (s[1].toNat : Int)) = false := by rw [decide_eq_false_iff_not]; omega
        have f3 : decide ((s[2].toNat : Int) < 128) = false := by rw [decide_eq_false_iff_not]; omega
        have f4 : (191 : Int) < (s[2].toNat : Int) := by omega
        clear hch h k4 hl1 hlt
        go_enter Tryd.func85, Tryd.ntmps85
        go_wp2
        go_quiet (fail)
        go_wp2
        go_ret
        exact ⟨by rw [HV.out]; rfl, below_drewN ((Below.refl _ _).alloc (Nat.le_refl _) _) _⟩
      rw [if_neg (by omega)] at hch
      have HV := Lib.hid (show decide (chrD s.data.toList ≠ -1) = false from by rw [hch]; rw [tails_end s 3 _ _ _ _ (by omega)]; rfl)
      have f1 : decide ((s[1].toNat : Int) < 144) = false := by rw [decide_eq_false_iff_not]; omega
      have f2 : decide ((191 : Int) < (s[1].toNat : Int)) = false := by rw [decide_eq_false_iff_not]; omega
      have f3 : decide ((s[2].toNat : Int) < 128) = false := by rw [decide_eq_false_iff_not]; omega
      have f4 : decide ((191 : Int) < (s[2].toNat : Int)) = false := by rw [decide_eq_false_iff_not]; omega
      clear hch h k4 hl1 hlt
      go_enter Tryd.func85, Tryd.ntmps85
      go_wp2
      go_quiet (fail)
      go_wp2
      go_ret
      exact ⟨by rw [HV.out]; rfl, below_drewN ((Below.refl _ _).alloc (Nat.le_refl _) _) _⟩
  · have hx : Lib.firstT s[0].toNat = 4 := by unfold Lib.firstT; (repeat' split) <;> omega
    replace hft : w.cell? ⟨0, s[0].toNat, none⟩ = some (.int .u8 4) := by rw [hft, hx]; rfl
    have hch : chrD s.data.toList = tails 3 4 128 191 (s.data.toList.drop 1) := by rw [HC]; (repeat' split) <;> first | (exfalso; omega) | rfl
    have ha : w.cell? ⟨1, 0, none⟩ = some (.int .u8 128) := (hT.2 0 (by decide)).1
    have hb : w.cell? ⟨1, 1, none⟩ = some (.int .u8 191) := (hT.2 0 (by decide)).2
    clear HC hx hT
    by_cases k4 : 4 ≤ s.size
    · have HV := Lib.hid (show decide (chrD s.data.toList ≠ -1) = true from decide_eq_true (by rw [hch]; exact tails_ne _ _ _ _ _ (by decide) (by omega)))
      have g1 : (4 : Int) ≤ (s.size : Int) := by omega
      clear hch h k4 hl1 hlt ha hb
      go_enter Tryd.func85, Tryd.ntmps85
      go_wp2
      go_ret
      exact ⟨by rw [HV.out]; rfl, Below.refl _ _⟩
    · have g1 : decide ((4 : Int) ≤ (s.size : Int)) = false := by rw [decide_eq_false_iff_not]; omega
      have g1' : ¬ (4 : Int) ≤ (s.size : Int) := by omega
      by_cases z1 : s.size = 1
      · have hn : s.size = 1 := by omega
        have HV := Lib.hid (show decide (chrD s.data.toList ≠ -1) = false from by rw [hch]; rw [tails_end s 1 _ _ _ _ (by omega)]; rfl)
        have d1 : decide ((1 : Int) < (s.size : Int)) = false := by rw [decide_eq_false_iff_not]; omega
        have d2 : decide ((2 : Int) < (s.size : Int)) = false := by rw [decide_eq_false_iff_not]; omega
        clear hch h k4 hl1 hlt
        go_enter Tryd.func85, Tryd.ntmps85
        go_wp2
        go_quiet (fail)
        go_wp2
        go_ret
        exact ⟨by rw [HV.out]; rfl, below_drewN ((Below.refl _ _).alloc (Nat.le_refl _) _) _⟩
      by_cases z2 : s.size = 2
      · have hn : s.size = 2 := by omega
        have hi1 : 1 < s.size := by omega
        have p1 : (1 : Int) < (s.size : Int) := by omega
        have e1 := tails_step s 1 2 4 128 191 hi1
        rw [e1] at hch
        clear e1
        by_cases q1 : s[1].toNat < 128
        · have HV := Lib.hid (show decide (chrD s.data.toList ≠ -1) = true from by rw [hch]; rw [if_pos (.inl q1)]; decide)
          have f1 : (s[1].toNat : Int) < 128 := by omega
          clear hch h k4 hl1 hlt
          go_enter Tryd.func85, Tryd.ntmps85
          go_wp2
          go_quiet (fail)
          go_wp2
          go_ret
          exact ⟨by rw [HV.out]; rfl, below_drewN ((Below.refl _ _).alloc (Nat.le_refl _) _) _⟩
        by_cases q2 : 191 < s[1].toNat
        · have HV := Lib.hid (show decide (chrD s.data.toList ≠ -1) = true from by rw [hch]; rw [if_pos (.inr q2)]; decide)
          have f1 : decide ((s[1].toNat : Int) < 128) = false := by rw [decide_eq_false_iff_not]; omega
          have f2 : (191 : Int) < (s[1].toNat : Int) := by omega
          clear hch h k4 hl1 hlt
          go_enter Tryd.func85, Tryd.ntmps85
          go_wp2
          go_quiet (fail)
          go_wp2
          go_ret
          exact ⟨by rw [HV.out]; rfl, below_drewN ((Below.refl _ _).alloc (Nat.le_refl _) _) _⟩
        rw [if_neg (by omega)] at hch
        have HV := Lib.hid (show decide (chrD s.data.toList ≠ -1) = false from by rw [hch]; rw [tails_end s 2 _ _ _ _ (by omega)]; rfl)
        have f1 : decide ((s[1].toNat : Int) < 128) = false := by rw [decide_eq_false_iff_not]; omega
        have f2 : decide ((191 : Int) < (s[1].toNat : Int)) = false := by rw [decide_eq_false_iff_not]; omega
        have d2 : decide ((2 : Int) < (s.size : Int)) = false := by rw [decide_eq_false_iff_not]; omega
        clear hch h k4 hl1 hlt
        go_enter Tryd.func85, Tryd.ntmps85
        go_wp2
        go_quiet (fail)
        go_wp2
        go_ret
        exact ⟨by rw [HV.out]; rfl, below_drewN ((Below.refl _ _).alloc (Nat.le_refl _) _) _⟩
      have hn : s.size = 3 := by omega
      have hi1 : 1 < s.size := by omega
      have p1 : (1 : Int) < (s.size : Int) := by omega
      have e1 := tails_step s 1 2 4 128 191 hi1
      rw [e1] at hch
      clear e1
      by_cases q1 : s[1].toNat < 128
      · have HV := Lib.hid (show decide (chrD s.data.toList ≠ -1) = true from by rw [hch]; rw [if_pos (.inl q1)]; decide)
        have f1 : (s[1].toNat : Int) < 128 := by omega
        clear hch h k4 hl1 hlt
        go_enter Tryd.func85, Tryd.ntmps85
        go_wp2
        go_quiet (fail)
        go_wp2
        go_ret
        exact ⟨by rw [HV.out]; rfl, below_drewN ((Below.refl _ _).alloc (Nat.le_refl _) _) _⟩
      by_cases q2 : 191 < s[1].toNat
      · have HV := Lib.hid (show decide (chrD s.data.toList ≠ -1) = true from by rw [hch]; rw [if_pos (.inr q2)]; decide)
        have f1 : decide ((s[1].toNat : Int) < 128) = false := by rw [decide_eq_false_iff_not]; omega
        have f2 : (191 : Int) < (s[1].toNat : Int) := by omega
        clear hch h k4 hl1 hlt
        go_enter Tryd.func85, Tryd.ntmps85
        go_wp2
        go_quiet (fail)
        go_wp2
        go_ret
        exact ⟨by rw [HV.out]; rfl, below_drewN ((Below.refl _ _).alloc (Nat.le_refl _) _) _⟩
      rw [if_neg (by omega)] at hch
      have hi2 : 2 < s.size := by omega
      have p2 : (2 : Int) < (s.size : Int) := by omega
      have e2 := tails_step s 2 1 4 128 191 hi2
      rw [e2] at hch
      clear e2
      by_cases q3 : s[2].toNat < 128
      · have HV := Lib.hid (show decide (chrD s.data.toList ≠ -1) = true from by rw [hch]; rw [if_pos (.inl q3)]; decide)
        have f1 : decide ((s[1].toNat : Int) < 128) = false := by rw [decide_eq_false_iff_not]; omega
        have f2 : decide ((191 : Int) < (s[1].toNat : Int)) = false := by rw [decide_eq_false_iff_not]; omega
        have f3 : (s[2].toNat : Int) < 128 := by omega
        clear hch h k4 hl1 hlt
        go_enter Tryd.func85, Tryd.ntmps85
        go_wp2
        go_quiet (fail)
        go_wp2
        go_ret
        exact ⟨by rw [HV.out]; rfl, below_drewN ((Below.refl _ _).alloc (Nat.le_refl _) _) _⟩
      by_cases q4 : 191 < s[2].toNat
      · have HV := Lib.hid (show decide (chrD s.data.toList ≠ -1) = true from by rw [hch]; rw [if_pos (.inr q4)]; decide)
        have f1 : decide ((s[1].toNat : Int) < 128) = false := by rw [decide_eq_false_iff_not]; omega
        have f2 : decide ((191 : Int) < (s[1].toNat : Int)) = false := by rw [decide_eq_false_iff_not]; omega
        have f3 : decide ((s[2].toNat : Int) < 128) = false := by rw [decide_eq_false_iff_not]; omega
        have f4 : (191 : Int) < (s[2].toNat : Int) := by omega
        clear hch h k4 hl1 hlt
        go_enter Tryd.func85, Tryd.ntmps85
        go_wp2
        go_quiet (fail)
        go_wp2
        go_ret
        exact ⟨by rw [HV.out]; rfl, below_drewN ((Below.refl _ _).alloc (Nat.le_refl _) _) _⟩
      rw [if_neg (by omega)] at hch
      have HV := Lib.hid (show decide (chrD s.data.toList ≠ -1) = false from by rw [hch]; rw [tails_end s 3 _ _ _ _ (by omega)]; rfl)
      have f1 : decide ((s[1].toNat : Int) < 128) = false := by rw [decide_eq_false_iff_not]; omega
      have f2 : decide ((191 : Int) < (s[1].toNat : Int)) = false := by rw [decide_eq_false_iff_not]; omega
      have f3 : decide ((s[2].toNat : Int) < 128) = false := by rw [decide_eq_false_iff_not]; omega
      have f4 : decide ((191 : Int) < (s[2].toNat : Int)) = false := by rw [decide_eq_false_iff_not]; omega
      clear hch h k4 hl1 hlt
      go_enter Tryd.func85, Tryd.ntmps85
      go_wp2
      go_quiet (fail)
      go_wp2
      go_ret
      exact ⟨by rw [HV.out]; rfl, below_drewN ((Below.refl _ _).alloc (Nat.le_refl _) _) _⟩
  · have hx : Lib.firstT s[0].toNat = 68 := by unfold Lib.firstT; (repeat' split) <;> omega
    replace hft : w.cell? ⟨0, s[0].toNat, none⟩ = some (.int .u8 68) := by rw [hft, hx]; rfl
    have hch : chrD s.data.toList = tails 3 4 128 143 (s.data.toList.drop 1) := by rw [HC]; (repeat' split) <;> first | (exfalso; omega) | rfl
    have ha : w.cell? ⟨1, 8, none⟩ = some (.int .u8 128) := (hT.2 4 (by decide)).1
    have hb : w.cell? ⟨1, 9, none⟩ = some (.int .u8 143) := (hT.2 4 (by decide)).2
    clear HC hx hT
    by_cases k4 : 4 ≤ s.size
    · have HV := Lib.hid (show decide (chrD s.data.toList ≠ -1) = true from decide_eq_true (by rw [hch]; exact tails_ne _ _ _ _ _ (by decide) (by omega)))
      have g1 : (4 : Int) ≤ (s.size : Int) := by omega
      clear hch h k4 hl1 hlt ha hb
      go_enter Tryd.func85, Tryd.ntmps85
      go_wp2
      go_ret
      exact ⟨by rw [HV.out]; rfl, Below.refl _ _⟩
    · have g1 : decide ((4 : Int) ≤ (s.size : Int)) = false := by rw [decide_eq_false_iff_not]; omega
      have g1' : ¬ (4 : Int) ≤ (s.size : Int) := by omega
      by_cases z1 : s.size = 1
      · have hn : s.size = 1 := by omega
        have HV := Lib.hid (show decide (chrD s.data.toList ≠ -1) = false from by rw [hch]; rw [tails_end s 1 _ _ _ _ (by omega)]; rfl)
        have d1 : decide ((1 : Int) < (s.size : Int)) = false := by rw [decide_eq_false_iff_not]; omega
        have d2 : decide ((2 : Int) < (s.size : Int)) = false := by rw [decide_eq_false_iff_not]; omega
        clear hch h k4 hl1 hlt
        go_enter Tryd.func85, Tryd.ntmps85
        go_wp2
        go_quiet (fail)
        go_wp2
        go_ret
        exact ⟨by rw [HV.out]; rfl, below_drewN ((Below.refl _ _).alloc (Nat.le_refl _) _) _⟩
      by_cases z2 : s.size = 2
      · have hn : s.size = 2 := by omega
        have hi1 : 1 < s.size := by omega
        have p1 : (1 : Int) < (s.size : Int) := by omega
        have e1 := tails_step s 1 2 4 128 143 hi1
        rw [e1] at hch
        clear e1
        by_cases q1 : s[1].toNat < 128
        · have HV := Lib.hid (show decide (chrD s.data.toList ≠ -1) = true from by rw [hch]; rw [if_pos (.inl q1)]; decide)
          have f1 : (s[1].toNat : Int) < 128 := by omega
          clear hch h k4 hl1 hlt
          go_enter Tryd.func85, Tryd.ntmps85
          go_wp2
          go_quiet (fail)
          go_wp2
          go_ret
          exact ⟨by rw [HV.out]; rfl, below_drewN ((Below.refl _ _).alloc (Nat.le_refl _) _) _⟩
        by_cases q2 : 143 < s[1].toNat
        · have HV := Lib.hid (show decide (chrD s.data.toList ≠ -1) = true from by rw [hch]; rw [if_pos (.inr q2)]; decide)
          have f1 : decide ((s[1].toNat : Int) < 128) = false := by rw [decide_eq_false_iff_not]; omega
          have f2 : (143 : Int) < (s[1].toNat : Int) := by omega
          clear hch h k4 hl1 hlt
          go_enter Tryd.func85, Tryd.ntmps85
          go_wp2
          go_quiet (fail)
          go_wp2
          go_ret
          exact ⟨by rw [HV.out]; rfl, below_drewN ((Below.refl _ _).alloc (Nat.le_refl _) _) _⟩
        rw [if_neg (by omega)] at hch
        have HV := Lib.hid (show decide (chrD s.data.toList ≠ -1) = false from by rw [hch]; rw [tails_end s 2 _ _ _ _ (by omega)]; rfl)
        have f1 : decide ((s[1].toNat : Int) < 128) = false := by rw [decide_eq_false_iff_not]; omega
        have f2 : decide ((143 : Int) < (s[1].toNat : Int)) = false := by rw [decide_eq_false_iff_not]; omega
        have d2 : decide ((2 : Int) < (s.size : Int)) = false := by rw [decide_eq_false_iff_not]; omega
        clear hch h k4 hl1 hlt
        go_enter Tryd.func85, Tryd.ntmps85
        go_wp2
        go_quiet (fail)
        go_wp2
        go_ret
        exact ⟨by rw [HV.out]; rfl, below_drewN ((Below.refl _ _).alloc (Nat.le_refl _) _) _⟩
      have hn : s.size = 3 := by omega
      have hi1 : 1 < s.size := by omega
      have p1 : (1 : Int) < (s.size : Int) := by omega
      have e1 := tails_step s 1 2 4 128 143 hi1
      rw [e1] at hch
      clear e1
      by_cases q1 : s[1].toNat < 128
      · have HV := Lib.hid (show decide (chrD s.data.toList ≠ -1) = true from by rw [hch]; rw [if_pos (.inl q1)]; decide)
        have f1 : (s[1].toNat : Int) < 128 := by omega
        clear hch h k4 hl1 hlt
        go_enter Tryd.func85, Tryd.ntmps85
        go_wp2
        go_quiet (fail)
        go_wp2
        go_ret
        exact ⟨by rw [HV.out]; rfl, below_drewN ((Below.refl _ _).alloc (Nat.le_refl _) _) _⟩
      by_cases q2 : 143 < s[1].toNat
      · have HV := Lib.hid (show decide (chrD s.data.toList ≠ -1) = true from by rw [hch]; rw [if_pos (.inr q2)]; decide)
        have f1 : decide ((s[1].toNat : Int) < 128) = false := by rw [decide_eq_false_iff_not]; omega
        have f2 : (143 : Int) < (s[1].toNat : Int) := by omega
        clear hch h k4 hl1 hlt
        go_enter Tryd.func85, Tryd.ntmps85
        go_wp2
        go_quiet (fail)
        go_wp2
        go_ret
        exact ⟨by rw [HV.out]; rfl, below_drewN ((Below.refl _ _).alloc (Nat.le_refl _) _) _⟩
      rw [if_neg (by omega)] at hch
      have hi2 : 2 < s.size := by omega
      have p2 : (2 : Int) < (s.size : Int) := by omega
      have e2 := tails_step s 2 1 4 128 191 hi2
      rw [e2] at hch
      clear e2
      by_cases q3 : s[2].toNat < 128
      · have HV := Lib.hid (show decide (chrD s.data.toList ≠ -1) = true from by rw [hch]; rw [if_pos (.inl q3)]; decide)
        have f1 : decide ((s[1].toNat : Int) < 128) = false := by rw [decide_eq_false_iff_not]; omega
        have f2 : decide ((143 : Int) < (s[1].toNat : Int)) = false := by rw [decide_eq_false_iff_not]; omega
        have f3 : (s[2].toNat : Int) < 128 := by omega
        clear hch h k4 hl1 hlt
        go_enter Tryd.func85, Tryd.ntmps85
        go_wp2
        go_quiet (fail)
        go_wp2
        go_ret
        exact ⟨by rw [HV.out]; rfl, below_drewN ((Below.refl _ _).alloc (Nat.le_refl _) _) _⟩
      by_cases q4 : 191 < s[2].toNat
      · have HV := Lib.hid (show decide (chrD s.data.toList ≠ -1) = true from by rw [hch]; rw [if_pos (.inr q4)]; decide)
        have f1 : decide ((s[1].toNat : Int) < 128) = false := by rw [decide_eq_false_iff_not]; omega
        have f2 : decide ((143 : Int) < (s[1].toNat : Int)) = false := by rw [decide_eq_false_iff_not]; omega
        have f3 : decide ((s[2].toNat : Int) < 128) = false := by rw [decide_eq_false_iff_not]; omega
        have f4 : (191 : Int) < (s[2].toNat : Int) := by omega
        clear hch h k4 hl1 hlt
        go_enter Tryd.func85, Tryd.ntmps85
        go_wp2
        go_quiet (fail)
        go_wp2
        go_ret
        exact ⟨by rw [HV.out]; rfl, below_drewN ((Below.refl _ _).alloc (Nat.le_refl _) _) _⟩
      rw [if_neg (by omega)] at hch
      have HV := Lib.hid (show decide (chrD s.data.toList ≠ -1) = false from by rw [hch]; rw [tails_end s 3 _ _ _ _ (by omega)]; rfl)
      have f1 : decide ((s[1].toNat : Int) < 128) = false := by rw [decide_eq_false_iff_not]; omega
      have f2 : decide ((143 : Int) < (s[1].toNat : Int)) = false := by rw [decide_eq_false_iff_not]; omega
      have f3 : decide ((s[2].toNat : Int) < 128) = false := by rw [decide_eq_false_iff_not]; omega
      have f4 : decide ((191 : Int) < (s[2].toNat : Int)) = false := by rw [decide_eq_false_iff_not]; omega
      clear hch h k4 hl1 hlt
      go_enter Tryd.func85, Tryd.ntmps85
      go_wp2
      go_quiet (fail)
      go_wp2
      go_ret
      exact ⟨by rw [HV.out]; rfl, below_drewN ((Below.refl _ _).alloc (Nat.le_refl _) _) _⟩
  · have hx : Lib.firstT s[0].toNat = 241 := by unfold Lib.firstT; (repeat' split) <;> omega
    replace hft : w.cell? ⟨0, s[0].toNat, none⟩ = some (.int .u8 241) := by rw [hft, hx]; rfl
    have HV := Lib.hid (show decide (chrD s.data.toList ≠ -1) = true from by rw [HC]; (repeat' split) <;> first | (exfalso; omega) | decide)
    have g1 : (1 : Int) ≤ (s.size : Int) := by omega
    clear HC hx h hT hl1 hlt
    go_enter Tryd.func85, Tryd.ntmps85
    go_wp2
    go_ret
    exact ⟨by rw [HV.out]; rfl, Below.refl _ _⟩
end Go.Proofs.YtbkbokfegjodnaaDoor
