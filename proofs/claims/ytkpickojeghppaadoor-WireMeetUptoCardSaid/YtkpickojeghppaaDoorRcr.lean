/- The walk of reason: the number that a fault tells. Conditions: none. -/
import Derived.Test.YtkpickojeghppaaDoorRdig
namespace Go.Proofs.YtkpickojeghppaaDoor
open Go.RowKit
/-- the number that a fault tells -/
def faultN (l : List UInt8) : Nat := match Lib.atoiAll l with
  | .ok n => if 1 ≤ n ∧ n ≤ 999 ∧ Lib.itoa n = l then n.toNat else 284
  | _ => 284
def rfold : Nat → Nat → List UInt8 → Option Nat
  | n, 0, _ => some n
  | n, _ + 1, [] => some n
  | n, k + 1, c :: r => if c.toNat < 48 ∨ 57 < c.toNat then none else rfold (10 * n + (c.toNat - 48)) k r
def reasonR (l : List UInt8) : Nat := match rfold 0 4 l with
  | none => 284
  | some n => if n < 1 ∨ 999 < n ∨ Lib.itoa (n : Int) ≠ l then 284 else n
theorem itoa_dec (n : Nat) : Lib.itoa (n : Int) = Lib.decDigits n := by
  unfold Lib.itoa
  rw [if_neg (by omega)]
  rfl
theorem dec_three (n : Nat) (h1 : 1 ≤ n) (h2 : n ≤ 999) : Lib.decDigits n = [digB n] ∧ n < 10 ∨ Lib.decDigits n = [digB (n / 10), digB (n % 10)] ∧ 10 ≤ n ∧ n < 100 ∨ Lib.decDigits n = [digB (n / 100), digB (n / 10 % 10), digB (n % 10)] ∧ 100 ≤ n := by
  by_cases h : n < 10
  · exact .inl ⟨dec_one2 h, h⟩
  · right
    by_cases h100 : n < 100
    · left
      refine ⟨?_, by omega, h100⟩
      rw [dec_app2 n h, dec_one2 (by omega : n / 10 < 10)]
      rfl
    · right
      refine ⟨?_, by omega⟩
      rw [dec_app2 n h, dec_app2 (n / 10) (by omega), dec_one2 (by omega : n / 10 / 10 < 10), Nat.div_div_eq_div_mul]
      rfl
theorem rfold_step (n k d : Nat) (r : List UInt8) (hd : d < 10) : rfold n (k + 1) (digB d :: r) = rfold (10 * n + d) k r := by
  have := digB_nat hd
  rw [rfold, if_neg (by omega)]
  congr 1
  omega
theorem rfold_nil (n k : Nat) : rfold n k [] = some n := by cases k <;> rfl
theorem rfold_dec (n : Nat) (h1 : 1 ≤ n) (h2 : n ≤ 999) : rfold 0 4 (Lib.decDigits n) = some n := by
  rcases dec_three n h1 h2 with ⟨h, a⟩ | ⟨h, a, b⟩ | ⟨h, a⟩
  · rw [h, rfold_step _ _ _ _ a, rfold_nil]; congr 1; omega
  · rw [h, rfold_step _ _ _ _ (by omega), rfold_step _ _ _ _ (by omega), rfold_nil]; congr 1; omega
  · rw [h, rfold_step _ _ _ _ (by omega), rfold_step _ _ _ _ (by omega), rfold_step _ _ _ _ (by omega), rfold_nil]; congr 1; omega
theorem parse_step (n d : Nat) (r : List UInt8) (hd : d < 10) (hn : n ≤ 1000) : Lib.parseUint10 n (digB d :: r) = Lib.parseUint10 (n * 10 + d) r := by
  have := digB_nat hd
  rw [Lib.parseUint10, if_pos (by omega), if_neg (by omega), if_neg (by omega)]
  congr 1
  omega
theorem parse_dec (n : Nat) (h1 : 1 ≤ n) (h2 : n ≤ 999) : Lib.parseUint10 0 (Lib.decDigits n) = .ok n := by
  rcases dec_three n h1 h2 with ⟨h, a⟩ | ⟨h, a, b⟩ | ⟨h, a⟩
  · rw [h, parse_step _ _ _ a (by omega), Lib.parseUint10]; congr 1; omega
  · rw [h, parse_step _ _ _ (by omega) (by omega), parse_step _ _ _ (by omega) (by omega), Lib.parseUint10]; congr 1; omega
  · rw [h, parse_step _ _ _ (by omega) (by omega), parse_step _ _ _ (by omega) (by omega), parse_step _ _ _ (by omega) (by omega), Lib.parseUint10]; congr 1; omega
theorem atoi_dec (n : Nat) (h1 : 1 ≤ n) (h2 : n ≤ 999) : Lib.atoiAll (Lib.decDigits n) = .ok (n : Int) := by
  have hp := parse_dec n h1 h2
  obtain ⟨d, r, hd, hl⟩ : ∃ d r, d < 10 ∧ Lib.decDigits n = digB d :: r := by
    rcases dec_three n h1 h2 with ⟨h, a⟩ | ⟨h, a, b⟩ | ⟨h, a⟩
    · exact ⟨_, _, a, h⟩
    · exact ⟨_, _, by omega, h⟩
    · exact ⟨_, _, by omega, h⟩
  have := digB_nat hd
  rw [hl] at hp ⊢
  unfold Lib.atoiAll Lib.parseMag
  simp only
  rw [if_neg (show ¬ ((digB d).toNat = 43 ∨ (digB d).toNat = 45) by omega), if_neg (by simp), hp]
  simp only
  rw [if_neg (by omega), if_neg (by omega), if_neg (by omega)]
theorem reason_eq (l : List UInt8) : reasonR l = faultN l := by
  by_cases h : ∃ n : Nat, 1 ≤ n ∧ n ≤ 999 ∧ Lib.decDigits n = l
  · obtain ⟨n, h1, h2, rfl⟩ := h
    unfold reasonR faultN
    rw [rfold_dec n h1 h2, atoi_dec n h1 h2]
    simp only
    rw [itoa_dec, if_neg (by simp; omega), if_pos ⟨by omega, by omega, rfl⟩]
    rfl
  · have a : reasonR l = 284 := by
      unfold reasonR
      split
      · rfl
      · rename_i n _
        rw [itoa_dec]
        by_cases hc : n < 1 ∨ 999 < n ∨ Lib.decDigits n ≠ l
        · rw [if_pos hc]
        · exact absurd ⟨n, by omega, by omega, by
            by_cases e : Lib.decDigits n = l
            · exact e
            · exact absurd (.inr (.inr e)) hc⟩ h
    have b : faultN l = 284 := by
      unfold faultN
      split
      · rename_i n _
        by_cases hc : 1 ≤ n ∧ n ≤ 999 ∧ Lib.itoa n = l
        · obtain ⟨k, rfl⟩ := Int.eq_ofNat_of_zero_le (show 0 ≤ n by omega)
          rw [itoa_dec] at hc
          exact absurd ⟨k, by omega, by omega, hc.2.2⟩ h
        · rw [if_neg hc]
      · rfl
    rw [a, b]
theorem rfold_get (l : List UInt8) (n k : Nat) (hk : k < 4) (h : k < l.length) : rfold n (4 - k) (l.drop k) = if (l[k]).toNat < 48 ∨ 57 < (l[k]).toNat then none else rfold (10 * n + ((l[k]).toNat - 48)) (4 - (k + 1)) (l.drop (k + 1)) := by
  rw [List.drop_eq_getElem_cons h, show 4 - k = (4 - (k + 1)) + 1 by omega, rfold]
theorem rfold_end (l : List UInt8) (n k : Nat) (h : ¬ (k < 4 ∧ k < l.length)) : rfold n (4 - k) (l.drop k) = some n := by
  by_cases hk : k < 4
  · rw [List.drop_eq_nil_of_le (by omega), rfold_nil]
  · rw [show 4 - k = 0 by omega, rfold]
theorem digits_str (n : Nat) : digitsB n = ⟨(Lib.itoa (n : Int)).toArray⟩ := rfl
theorem str_eq_list {a : List UInt8} {b : ByteArray} : ((⟨a.toArray⟩ : ByteArray).toList == b.toList) = (a == b.data.toList) := by
  rw [ByteArray.toList_eq, ByteArray.toList_eq]
set_option maxRecDepth 20000 in
set_option maxHeartbeats 4000000 in
theorem reason_c (s : ByteArray) (hs : s.size ≤ 9223372036854770000) (w : World) : Calls Tryd.prog 77 #[.string s] w fun e w' => e = .returned (.int .i64 (faultN s.data.toList : Int)) ∧ Below w.heap.size w w' := by
  rw [← reason_eq]
  have HD := Lib.hid (fun (n : Nat) (hn : n ≤ 99999) (w2 : World) => rdigits_c n (by omega) w2)
  have hsz : s.data.toList.length = s.size := by simp
  have HZ := Lib.hid hsz
  clear hsz
  go_enter Tryd.func77, Tryd.ntmps77
  go_wp2
  go_loop [3, 4] (fun n i => ∃ k m : Nat, k ≤ 4 ∧ k ≤ s.size ∧ i = .int .i64 k ∧ n = .int .i64 m ∧ m < 10 ^ k ∧ Hid (rfold 0 4 s.data.toList = rfold m (4 - k) (s.data.toList.drop k))) (fun _ i => 4 - (intOf i).toNat)
  case atStart => exact ⟨0, 0, by omega, by omega, rfl, rfl, by omega, Lib.hid rfl⟩
  case round =>
    obtain ⟨k, m, hk4, hks, rfl, rfl, hm, HR⟩ := hrel
    have hm4 : m < 10000 := Nat.lt_of_lt_of_le hm (Nat.pow_le_pow_right (by omega) hk4 : 10 ^ k ≤ 10 ^ 4)
    by_cases hgo : k < 4 ∧ k < s.size
    · obtain ⟨hlt4, hlts⟩ := hgo
      have HM := Lib.hid hm
      have hg := rfold_get s.data.toList m k hlt4 (by rw [HZ.out]; exact hlts)
      have hge : (s.data.toList[k]'(by rw [HZ.out]; exact hlts)) = s[k] := rfl
      rw [hge] at hg
      have HG := Lib.hid (HR.out.trans hg)
      have hc := UInt8.toNat_lt s[k]
      clear hm hg hge HR
      by_cases hlo : (s[k]).toNat < 48
      · have HE := Lib.hid (show reasonR s.data.toList = 284 by unfold reasonR; rw [HG.out, if_pos (.inl hlo)])
        go_wp2
        go_ret
        rw [HE.out]
        exact ⟨rfl, Below.refl _ _⟩
      · by_cases hhi : 57 < (s[k]).toNat
        · have HE := Lib.hid (show reasonR s.data.toList = 284 by unfold reasonR; rw [HG.out, if_pos (.inr hhi)])
          go_wp2
          go_ret
          rw [HE.out]
          exact ⟨rfl, Below.refl _ _⟩
        · have HN := Lib.hid (HG.out.trans (if_neg (by omega)))
          have hlo2 : 48 ≤ (s[k]).toNat := by omega
          have hhi2 : (s[k]).toNat ≤ 57 := by omega
          have HP := Lib.hid (show 10 * m + ((s[k]).toNat - 48) < 10 ^ (k + 1) by have := HM.out; rw [Nat.pow_succ]; omega)
          clear hlo hhi
          go_wp2
          go_round
          case rel => exact ⟨k + 1, 10 * m + ((s[k]).toNat - 48), by omega, by omega, by go_num, by go_num, HP.out, HN⟩
          case measure => simp [intOf]; omega
    · have hend := rfold_end s.data.toList m k (by rw [HZ.out]; exact hgo)
      have HE := Lib.hid (show reasonR s.data.toList = if m < 1 ∨ 999 < m ∨ Lib.itoa (m : Int) ≠ s.data.toList then 284 else m by unfold reasonR; rw [HR.out, hend])
      clear hend HR hm
      have hkk : k < s.size ∧ ¬ k < 4 ∨ ¬ k < s.size := by omega
      clear hgo
      rcases hkk with ⟨hk1, hk2⟩ | hk1
      all_goals (
        by_cases h1 : m < 1
        · have HV := Lib.hid (HE.out.trans (if_pos (.inl h1)))
          go_wp2
          go_ret
          rw [HV.out]
          exact ⟨rfl, Below.refl _ _⟩
        · by_cases h2 : 999 < m
          · have HV := Lib.hid (HE.out.trans (if_pos (.inr (.inl h2))))
            go_wp2
            go_ret
            rw [HV.out]
            exact ⟨rfl, Below.refl _ _⟩
          · have HDM := Lib.hid (HD.out m (by omega) w)
            by_cases hd : Lib.itoa (m : Int) = s.data.toList
            · have HV := Lib.hid (HE.out.trans (if_neg (by intro h; rcases h with h | h | h; exact h1 h; exact h2 h; exact h hd)))
              have hdn : ((digitsB m).toList == s.toList) = true := by
                rw [digits_str, str_eq_list, hd]; simp
              clear hd
              go_wp2_with fail
              refine HDM.out.mono ?_; rintro e w1 ⟨rfl, hb⟩
              have HB := Lib.hid hb
              clear hb
              go_wp2
              go_ret
              rw [HV.out]
              exact ⟨rfl, HB.out⟩
            · have HV := Lib.hid (HE.out.trans (if_pos (.inr (.inr hd))))
              have hdn : ((digitsB m).toList == s.toList) = false := by
                rw [digits_str, str_eq_list]; simp [hd]
              clear hd
              go_wp2_with fail
              refine HDM.out.mono ?_; rintro e w1 ⟨rfl, hb⟩
              have HB := Lib.hid hb
              clear hb
              go_wp2
              go_ret
              rw [HV.out]
              exact ⟨rfl, HB.out⟩)
end Go.Proofs.YtkpickojeghppaaDoor
