/- The walks of the order of texts; program and document. Conditions: lengths within what a string may have. -/
import Derived.Test.YtjmhoccikbgigaaDoorOrdnums
namespace Go.Proofs.YtjmhoccikbgigaaDoor
open Go.RowKit
theorem less_self (a : List UInt8) : Op.bytesLess a a = false := by
  induction a with
  | nil => rfl
  | cons x a ih => simp [Op.bytesLess, ih]
theorem txt_self (a : List UInt8) : txt a a = 0 := by
  induction a with
  | nil => rfl
  | cons x a ih => simp [txt, ih]
theorem txt_spec : ∀ a b : List UInt8, (Op.bytesLess a b = true ∧ txt a b = -1) ∨ (Op.bytesLess a b = false ∧ Op.bytesLess b a = true ∧ txt a b = 1) ∨ (a = b ∧ Op.bytesLess a b = false ∧ Op.bytesLess b a = false ∧ txt a b = 0)
  | [], [] => .inr (.inr ⟨rfl, rfl, rfl, rfl⟩)
  | [], _ :: _ => .inl ⟨rfl, rfl⟩
  | _ :: _, [] => .inr (.inl ⟨rfl, rfl, rfl⟩)
  | x :: a, y :: b => by
    rcases Nat.lt_trichotomy x.toNat y.toNat with h | h | h
    · left
      have h' : x < y := UInt8.lt_iff_toNat_lt.2 h
      exact ⟨by simp [Op.bytesLess, h'], by simp [txt, h]⟩
    · obtain rfl : x = y := UInt8.toNat_inj.1 h
      rcases txt_spec a b with ⟨h1, h2⟩ | ⟨h1, h2, h3⟩ | ⟨rfl, h1, h2, h3⟩
      · exact .inl ⟨by simp [Op.bytesLess, h1], by simp [txt, h2]⟩
      · exact .inr (.inl ⟨by simp [Op.bytesLess, h1], by simp [Op.bytesLess, h2], by simp [txt, h3]⟩)
      · exact .inr (.inr ⟨rfl, by simp [Op.bytesLess, h1], by simp [Op.bytesLess, h1], by simp [txt, h3]⟩)
    · right; left
      have h' : y < x := UInt8.lt_iff_toNat_lt.2 h
      have h2 : ¬ x < y := by rw [UInt8.lt_iff_toNat_lt]; omega
      have h3 : x ≠ y := by rintro rfl; omega
      exact ⟨by simp [Op.bytesLess, h2, h3], by simp [Op.bytesLess, h'], by simp [txt, h]; omega⟩
set_option maxHeartbeats 400000 in
theorem nan_str (a : ByteArray) (w : World) : Calls Tryd.prog 58 #[.string a] w fun e w' => e = .returned (.bool false) ∧ w' = w := by
  go_enter Tryd.func58, Tryd.ntmps58
  go_wp2
  go_ret
  exact ⟨rfl, rfl⟩
set_option maxHeartbeats 1000000 in
theorem cmpStr_c (a b : ByteArray) (w : World) : Calls Tryd.prog 37 #[.string a, .string b] w fun e w' => e = .returned (.int .i64 (txt a.data.toList b.data.toList)) ∧ w' = w := by
  have hs := txt_spec a.data.toList b.data.toList
  rw [← ByteArray.toList_eq, ← ByteArray.toList_eq] at *
  rcases hs with ⟨h1, h2⟩ | ⟨h1, h2, h3⟩ | ⟨he, h1, h2, h3⟩
  · rw [h2]
    clear h2
    go_enter Tryd.func37, Tryd.ntmps37
    go_wp2_with fail
    refine (nan_str _ _).mono ?_; rintro e w1 ⟨rfl, rfl⟩
    go_wp2_with fail
    refine (nan_str _ _).mono ?_; rintro e w1 ⟨rfl, rfl⟩
    go_wp2
    go_ret
    exact ⟨rfl, rfl⟩
  · rw [h3]
    have hne : (a.toList == b.toList) = false := by
      rw [beq_eq_false_iff_ne]; intro e; rw [e, less_self] at h2; exact absurd h2 (by decide)
    clear h3
    go_enter Tryd.func37, Tryd.ntmps37
    go_wp2_with fail
    refine (nan_str _ _).mono ?_; rintro e w1 ⟨rfl, rfl⟩
    go_wp2_with fail
    refine (nan_str _ _).mono ?_; rintro e w1 ⟨rfl, rfl⟩
    go_wp2
    go_ret
    exact ⟨rfl, rfl⟩
  · rw [h3]
    have hne : (a.toList == b.toList) = true := by rw [he]; exact BEq.rfl
    clear h3 he
    go_enter Tryd.func37, Tryd.ntmps37
    go_wp2_with fail
    refine (nan_str _ _).mono ?_; rintro e w1 ⟨rfl, rfl⟩
    go_wp2_with fail
    refine (nan_str _ _).mono ?_; rintro e w1 ⟨rfl, rfl⟩
    go_wp2
    go_ret
    exact ⟨rfl, rfl⟩
theorem txt_step (a b : ByteArray) (k : Nat) (ha : k < a.size) (hb : k < b.size) :
    txt (a.data.toList.drop k) (b.data.toList.drop k) = if a[k].toNat < b[k].toNat then -1 else if b[k].toNat < a[k].toNat then 1 else txt (a.data.toList.drop (k + 1)) (b.data.toList.drop (k + 1)) := by
  rw [List.drop_eq_getElem_cons (show k < a.data.toList.length by simpa using ha), List.drop_eq_getElem_cons (show k < b.data.toList.length by simpa using hb), txt]
  rfl
theorem txt_end (a b : ByteArray) (k : Nat) (h : k = a.size ∨ k = b.size) (ha : k ≤ a.size) (hb : k ≤ b.size) : txt (a.data.toList.drop k) (b.data.toList.drop k) = sgn a.size b.size := by
  have la : a.data.toList.length = a.size := by simp
  have lb : b.data.toList.length = b.size := by simp
  rcases Nat.lt_trichotomy a.size b.size with e | e | e
  · obtain rfl : k = a.size := by omega
    rw [List.drop_of_length_le (by omega), List.drop_eq_getElem_cons (by omega), txt, sgn_lt (by omega)]
  · obtain rfl : k = a.size := by omega
    rw [List.drop_of_length_le (by omega), List.drop_of_length_le (by omega), txt, e, sgn_eq]
  · obtain rfl : k = b.size := by omega
    rw [List.drop_of_length_le (l := b.data.toList) (by omega), List.drop_eq_getElem_cons (by omega), txt, sgn_gt (by omega)]
theorem drewn1 {w : World} {a : Nat} : ∃ n, w.drewN a = w.drewN n := ⟨_, rfl⟩
theorem drewn2 {w : World} {a b : Nat} : ∃ n, (w.drewN a).drewN b = w.drewN n := ⟨_, World.drewN_drewN _ _ _⟩
theorem drewn3 {w : World} {a b c : Nat} : ∃ n, ((w.drewN a).drewN b).drewN c = w.drewN n := by rw [World.drewN_drewN, World.drewN_drewN]; exact ⟨_, rfl⟩
set_option maxHeartbeats 1000000 in
theorem refTexts_c (a b : ByteArray) (ha : a.size ≤ maxLen) (hb : b.size ≤ maxLen) (w : World) : Calls Tryd.prog 24 #[.string a, .string b] w fun e w' => e = .returned (.int .i64 (txt a.data.toList b.data.toList)) ∧ ∃ n, w' = w.drewN n := by
  unfold maxLen at ha hb
  go_enter Tryd.func24, Tryd.ntmps24
  go_wp2
  go_loopw [5] (fun i wr => ∃ k : Nat, k ≤ a.size ∧ k ≤ b.size ∧ i = .int .i64 k ∧ Hid (txt a.data.toList b.data.toList = txt (a.data.toList.drop k) (b.data.toList.drop k)) ∧ ∃ q, wr = w.drewN q) (fun i _ => a.size - (intOf i).toNat)
  case atStart => exact ⟨0, by omega, by omega, rfl, rfl, 0, rfl⟩
  case round =>
    obtain ⟨k, hk, hk', rfl, HT, q, rfl⟩ := hrel
    by_cases hlt : k < a.size ∧ k < b.size
    · obtain ⟨h1, h2⟩ := hlt
      have HS := Lib.hid (txt_step a b k h1 h2)
      rcases (show a[k].toNat < b[k].toNat ∨ b[k].toNat < a[k].toNat ∨ a[k].toNat = b[k].toNat by omega) with hc | hc | hc
      · have HV := Lib.hid (HT.out.trans (HS.out.trans (if_pos hc)))
        clear HS
        go_wp2
        go_quiet (fail)
        go_wp2
        go_ret
        exact ⟨by rw [HV.out]; rfl, by first | exact drewn1 | exact drewn2 | exact drewn3⟩
      · have HV := Lib.hid (HT.out.trans (HS.out.trans ((if_neg (by omega)).trans (if_pos hc))))
        clear HS
        go_wp2
        go_quiet (fail)
        go_wp2
        go_quiet (fail)
        go_wp2
        go_ret
        exact ⟨by rw [HV.out]; rfl, by first | exact drewn1 | exact drewn2 | exact drewn3⟩
      · have HV := Lib.hid (HT.out.trans (HS.out.trans ((if_neg (by omega)).trans (if_neg (by omega)))))
        have hc1 : ¬ a[k].toNat < b[k].toNat := by omega
        have hc2 : ¬ b[k].toNat < a[k].toNat := by omega
        clear HS hc
        go_wp2
        go_quiet (fail)
        go_wp2
        go_quiet (fail)
        go_wp2
        go_roundw
        case rel => exact ⟨k + 1, by omega, by omega, by go_num, HV, by first | exact drewn1 | exact drewn2 | exact drewn3⟩
        case measure => simp [intOf]; omega
    · have HV := Lib.hid (HT.out.trans (txt_end a b k (by omega) hk hk'))
      clear HT
      rcases (show k = a.size ∨ (k < a.size ∧ k = b.size) by omega) with h | ⟨h1, h⟩
      · have d1 : decide (k < a.size) = false := by simp; omega
        have HK := Lib.hid h
        clear h hlt
        go_wp2_with fail
        refine (refInts_c _ _ _).mono ?_; rintro e w1 ⟨rfl, rfl⟩
        go_wp2
        go_ret
        exact ⟨by rw [HV.out]; rfl, by first | exact drewn1 | exact drewn2 | exact drewn3⟩
      · have d1 : decide (k < a.size) = true := by simp; omega
        have d2 : decide (k < b.size) = false := by simp; omega
        have HK := Lib.hid h
        clear h hlt
        go_wp2_with fail
        refine (refInts_c _ _ _).mono ?_; rintro e w1 ⟨rfl, rfl⟩
        go_wp2
        go_ret
        exact ⟨by rw [HV.out]; rfl, by first | exact drewn1 | exact drewn2 | exact drewn3⟩
end Go.Proofs.YtjmhoccikbgigaaDoor
