/- The walks of the document's hex and four. Conditions: a text's length is within what a string may have. -/
import Derived.Test.YtbkbokfegjodnaaDoorDrd
import Derived.Test.YtbkbokfegjodnaaDoorRda
namespace Go.Proofs.YtbkbokfegjodnaaDoor
open Go.RowKit
/-- what the document's hex answers -/
def hexV (c : UInt8) : Int := match jhex c with | some d => (d : Int) | none => -1
set_option maxHeartbeats 2000000 in
theorem dhex_c (c : UInt8) (w : World) : Calls Tryd.prog 110 #[.int .u8 (c.toNat : Int)] w fun r w' => r = .returned (.int .i64 (hexV c)) ∧ w' = w := by
  have hc := c.toNat_lt
  unfold hexV
  rcases hex_cases c with ⟨l1, l2, _, hj⟩ | ⟨l1, l2, _, hj⟩ | ⟨l1, l2, _, hj⟩ | ⟨hd, hj, hr⟩
  · rw [hj]
    have k0 : (48 : Int) ≤ (c.toNat : Int) := by omega
    have k1 : (c.toNat : Int) ≤ 57 := by omega
    simp only
    clear hj l1 l2
    go_enter Tryd.func110, Tryd.ntmps110
    go_wp2
    go_ret
    exact ⟨ret_int (show (c.toNat : Int) - 48 = ((c.toNat - 48 : Nat) : Int) by omega), rfl⟩
  · rw [hj]
    have k0 : (48 : Int) ≤ (c.toNat : Int) := by omega
    have k1 : ¬ ((c.toNat : Int) ≤ 57) := by omega
    have k2 : (97 : Int) ≤ (c.toNat : Int) := by omega
    have k3 : (c.toNat : Int) ≤ 102 := by omega
    simp only
    clear hj l1 l2
    go_enter Tryd.func110, Tryd.ntmps110
    go_wp2
    go_ret
    exact ⟨ret_int (show (c.toNat : Int) - 97 + 10 = ((c.toNat - 87 : Nat) : Int) by omega), rfl⟩
  · rw [hj]
    have k0 : (48 : Int) ≤ (c.toNat : Int) := by omega
    have k1 : ¬ ((c.toNat : Int) ≤ 57) := by omega
    have k2 : ¬ ((97 : Int) ≤ (c.toNat : Int)) := by omega
    have k3 : (65 : Int) ≤ (c.toNat : Int) := by omega
    have k4 : (c.toNat : Int) ≤ 70 := by omega
    simp only
    clear hj l1 l2
    go_enter Tryd.func110, Tryd.ntmps110
    go_wp2
    go_ret
    exact ⟨ret_int (show (c.toNat : Int) - 65 + 10 = ((c.toNat - 55 : Nat) : Int) by omega), rfl⟩
  · rw [hj]
    have hr' : ¬ (48 ≤ c.toNat ∧ c.toNat ≤ 57) := fun e => by simp [isDg, e] at hd
    clear hj hd
    simp only
    rcases (show c.toNat < 48 ∨ (48 ≤ c.toNat ∧ c.toNat ≤ 57) ∨ (57 < c.toNat ∧ c.toNat < 65) ∨ (70 < c.toNat ∧ c.toNat < 97) ∨ 102 < c.toNat by omega) with k | k | k | k | k
    · have k0 : ¬ ((48 : Int) ≤ (c.toNat : Int)) := by omega
      have k1 : ¬ ((97 : Int) ≤ (c.toNat : Int)) := by omega
      have k2 : ¬ ((65 : Int) ≤ (c.toNat : Int)) := by omega
      clear k hr
      go_enter Tryd.func110, Tryd.ntmps110
      go_wp2
      go_ret
      exact ⟨rfl, rfl⟩
    · exfalso; exact hr' k
    · have k0 : (48 : Int) ≤ (c.toNat : Int) := by omega
      have k1 : ¬ ((c.toNat : Int) ≤ 57) := by omega
      have k2 : ¬ ((97 : Int) ≤ (c.toNat : Int)) := by omega
      have k3 : ¬ ((65 : Int) ≤ (c.toNat : Int)) := by omega
      clear k hr
      go_enter Tryd.func110, Tryd.ntmps110
      go_wp2
      go_ret
      exact ⟨rfl, rfl⟩
    · have k0 : (48 : Int) ≤ (c.toNat : Int) := by omega
      have k1 : ¬ ((c.toNat : Int) ≤ 57) := by omega
      have k2 : ¬ ((97 : Int) ≤ (c.toNat : Int)) := by omega
      have k3 : (65 : Int) ≤ (c.toNat : Int) := by omega
      have k4 : ¬ ((c.toNat : Int) ≤ 70) := by omega
      clear k hr
      go_enter Tryd.func110, Tryd.ntmps110
      go_wp2
      go_ret
      exact ⟨rfl, rfl⟩
    · have k0 : (48 : Int) ≤ (c.toNat : Int) := by omega
      have k1 : ¬ ((c.toNat : Int) ≤ 57) := by omega
      have k2 : (97 : Int) ≤ (c.toNat : Int) := by omega
      have k3 : ¬ ((c.toNat : Int) ≤ 102) := by omega
      have k4 : (65 : Int) ≤ (c.toNat : Int) := by omega
      have k5 : ¬ ((c.toNat : Int) ≤ 70) := by omega
      clear k hr
      go_enter Tryd.func110, Tryd.ntmps110
      go_wp2
      go_ret
      exact ⟨rfl, rfl⟩
set_option maxHeartbeats 4000000 in
theorem dfour_c (R : Nat) (s : ByteArray) (p : Nat) (hs : s.size < 9223372036854775807) (w : World) (h : SrAt w R s ⟨p, 0, 0⟩) :
    Calls Tryd.prog 99 #[.pointer (some ⟨R, 0, none⟩)] w (DJ R s w p (fun (n : Nat) v _ => v = .int .i64 (n : Int) ∧ n < 65536) (fun v _ => v = .int .i64 0) (jfour s.size 4 0 (s.data.toList.drop p))) := by
  have hp := h.pos
  simp only at hp
  have H := Lib.hid h
  clear h
  obtain ⟨res, hres⟩ : ∃ res, jfour s.size 4 0 (s.data.toList.drop p) = res := ⟨_, rfl⟩
  rw [hres]
  have HRES := Lib.hid hres
  clear hres
  go_enter Tryd.func99, Tryd.ntmps99
  go_wp2
  go_loopg [3, 4, 5, 6, 7] 5 (fun gk nv iv _ _ _ wr => ∃ (i q n : Nat), iv = .int .i64 i ∧ nv = .int .i64 n ∧ i + gk = 5 ∧ i ≤ 4 ∧ n < 16 ^ i ∧ p ≤ q ∧ q ≤ s.size ∧ Hid (jfour s.size (4 - i) n (s.data.toList.drop q) = res) ∧ Hid (SrAt wr R s ⟨q, 0, 0⟩) ∧ Hid (Upd w wr (some R) (some R)))
  case atStart => exact ⟨0, p, 0, rfl, rfl, by omega, by omega, by decide, Nat.le_refl _, hp, HRES, H, Lib.hid (Upd.refl _ _)⟩
  case round =>
    obtain ⟨i, q, n, rfl, rfl, hg, hi, hn, hpq, hq, HJ, HS, HU⟩ := hrel
    clear HRES
    have hpw : 16 ^ i * 16 ≤ 65536 ∨ i = 4 := by
      rcases (show i = 0 ∨ i = 1 ∨ i = 2 ∨ i = 3 ∨ i = 4 by omega) with h | h | h | h | h <;> subst h <;> decide
    by_cases hi4 : i < 4
    · have hn2 : n < 4096 := by omega
      have hi5 : (i : Int) < 4 := by omega
      have e4 : 4 - i = (4 - (i + 1)) + 1 := by omega
      have HN := Lib.hid hn
      clear hpw hn
      obtain ⟨l, hl⟩ : ∃ l, s.data.toList.drop q = l := ⟨_, rfl⟩
      cases l with
      | cons c r =>
        have HDP := Lib.hid (drop_parts hl)
        have hJ := HJ.out
        rw [hl, e4, jfour, HDP.out.2.2] at hJ
        have hpk := dnext_l R s q c r hl wr HS.out
        clear HJ e4 hl
        go_wp2_with fail
        refine hpk.mono ?_; rintro e w1 ⟨rfl, m, rfl⟩
        clear hpk
        have hdg := dhex_c c (wr.drewN m)
        have h1 := HS.out.c1
        have f1 := HS.out.f1
        simp only at h1
        cases hj : jhex c with
        | some d =>
          have hd : d < 16 := by
            rcases hex_cases c with ⟨l1, l2, _, h⟩ | ⟨l1, l2, _, h⟩ | ⟨l1, l2, _, h⟩ | ⟨_, h, _⟩ <;> rw [hj] at h <;> first | (injection h with h; omega) | cases h
          rw [hj] at hJ
          have HJ3 := Lib.hid (show jfour s.size (4 - (i + 1)) (16 * n + d) r = res from hJ)
          rw [show hexV c = (d : Int) by unfold hexV; rw [hj]] at hdg
          have hnn : decide ((d : Int) < 0) = false := by rw [decide_eq_false_iff_not]; omega
          clear hj hJ
          go_wp2_with fail
          refine hdg.mono ?_; rintro e w2 ⟨rfl, rfl⟩
          clear hdg
          go_wp2
          go_roundg (gk - 1)
          case measure => omega
          case rel => exact ⟨i + 1, q + 1, 16 * n + d, by go_num, by show Value.int .i64 _ = Value.int .i64 _; congr 1, by omega, by omega, by have h1 := HN.out; rw [Nat.pow_succ]; omega, by omega, HDP.out.1, by rw [HDP.out.2.1]; exact HJ3, Lib.hid (HS.out.one rfl HDP.out.1), Lib.hid ((HU.out.trans (Upd.of_below (below_drewN' _ _) _)).trans (Upd.of_setCell _ ⟨R, 1, none⟩ _))⟩
        | none =>
          have HJ3 := Lib.hid (show JR.bad 12 q = res from by rw [hj] at hJ; exact hJ)
          rw [show hexV c = -1 by unfold hexV; rw [hj]] at hdg
          clear hj hJ
          go_wp2_with fail
          refine hdg.mono ?_; rintro e w2 ⟨rfl, rfl⟩
          clear hdg
          go_wp2_with fail
          refine (dfail_c R s q 12 q (by decide) (wr.drewN m) (HS.out.same rfl)).mono ?_; rintro e w3 ⟨rfl, hr, hu⟩
          have HR := Lib.hid (And.intro hr hu)
          clear hr hu
          go_wp2
          go_ret
          exact dj_bad HJ3.out rfl HR.out.1 ((HU.out.trans (Upd.of_below (below_drewN' _ _) _)).trans HR.out.2)
      | nil =>
        have HJ2 := Lib.hid (show JR.bad 3 s.size = res from by rw [← HJ.out, e4, hl, jfour])
        have hpk := dnext_e R s q hl wr HS.out
        clear HJ e4 hl
        go_wp2_with fail
        refine hpk.mono ?_; rintro e w1 ⟨rfl, hr, hu⟩
        have HR := Lib.hid (And.intro hr hu)
        clear hr hu hpk
        go_wp2
        go_ret
        exact dj_bad HJ2.out rfl HR.out.1 (HU.out.trans HR.out.2)
    · obtain rfl : i = 4 := by omega
      have HJ2 := Lib.hid (show JR.ok n (s.data.toList.drop q) = res from by rw [← HJ.out]; rfl)
      have HN := Lib.hid (show n < 65536 from hn)
      clear HJ hn hpw
      go_wp2
      go_ret
      exact dj_ok HJ2.out ⟨rfl, HN.out⟩ hpq HS.out HU.out
end Go.Proofs.YtbkbokfegjodnaaDoor
