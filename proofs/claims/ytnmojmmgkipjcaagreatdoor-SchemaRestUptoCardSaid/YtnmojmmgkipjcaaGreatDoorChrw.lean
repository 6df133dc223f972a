/- The walks of the document's Character, Clean, has. Conditions: lengths within what a string or a slice may have. -/
import Derived.Test.YtnmojmmgkipjcaaGreatDoorJkit
import Derived.Test.YtnmojmmgkipjcaaGreatDoorUtfl
import Derived.Test.YtnmojmmgkipjcaaGreatDoorBasea
namespace Go.Proofs.YtnmojmmgkipjcaaGreatDoor
open Go.RowKit
theorem tails_end (s : ByteArray) (k m : Nat) (n : Int) (lo hi : Nat) (h : k = s.size) : tails (m + 1) n lo hi (s.data.toList.drop k) = -1 := by
  have la : s.data.toList.length = s.size := by simp
  rw [List.drop_of_length_le (by omega)]; rfl
theorem tails_step (s : ByteArray) (k m : Nat) (n : Int) (lo hi : Nat) (h : k < s.size) : tails (m + 1) n lo hi (s.data.toList.drop k) = if s[k].toNat < lo ∨ hi < s[k].toNat then 0 else tails m n 128 191 (s.data.toList.drop (k + 1)) := by
  rw [List.drop_eq_getElem_cons (show k < s.data.toList.length by simpa using h), tails]
  rfl
theorem chr_cons (s : ByteArray) (h : 0 < s.size) : chrD s.data.toList =
    if s[0].toNat < 128 then 1
    else if s[0].toNat < 194 then 0
    else if s[0].toNat < 224 then tails 1 2 128 191 (s.data.toList.drop 1)
    else if s[0].toNat = 224 then tails 2 3 160 191 (s.data.toList.drop 1)
    else if s[0].toNat = 237 then tails 2 3 128 159 (s.data.toList.drop 1)
    else if s[0].toNat < 240 then tails 2 3 128 191 (s.data.toList.drop 1)
    else if s[0].toNat = 240 then tails 3 4 144 191 (s.data.toList.drop 1)
    else if s[0].toNat < 244 then tails 3 4 128 191 (s.data.toList.drop 1)
    else if s[0].toNat = 244 then tails 3 4 128 143 (s.data.toList.drop 1)
    else 0 := by
  have e : s.data.toList = s[0] :: s.data.toList.drop 1 := by
    have := List.drop_eq_getElem_cons (l := s.data.toList) (i := 0) (by simpa using h)
    rw [List.drop_zero] at this
    exact this
  rw [e, chrD]
  rfl
set_option maxRecDepth 20000 in
set_option maxHeartbeats 8000000 in
theorem refChr_c (s : ByteArray) (hs : s.size ≤ maxLen) (w : World) : Calls Tryz.prog 59 #[.string s] w fun e w' => e = .returned (.int .i64 (chrD s.data.toList)) ∧ Below w.heap.size w w' := by
  unfold maxLen at hs
  by_cases h0 : s.size = 0
  · have hv : s = ⟨#[]⟩ := ByteArray.ext (Array.eq_empty_of_size_eq_zero h0)
    subst hv
    clear h0 hs
    go_enter Tryz.func59, Tryz.ntmps59
    go_wp2
    go_ret
    exact ⟨rfl, (by first | exact below_drewN' _ _ | exact Below.refl _ _ | (rw [World.drewN_drewN]; exact below_drewN' _ _))⟩
  have hpos : 0 < s.size := by omega
  have hne : (s.toList == []) = false := by
    rw [ByteArray.toList_eq, beq_eq_false_iff_ne]
    intro e
    have h := congrArg List.length e
    rw [Array.length_toList] at h
    exact h0 h
  have HC := Lib.hid (chr_cons s hpos)
  have hlt := s[0].toNat_lt
  rcases (Classical.em (s[0].toNat < 128)) with c0 | c0
  · have HV := Lib.hid (HC.out.trans (if_pos c0))
    clear HC
    have f1 :  (s[0].toNat : Int) < 128 := by omega
    clear hlt c0
    go_enter Tryz.func59, Tryz.ntmps59
    all_goals (go_wp2)
    go_ret
    exact ⟨by rw [HV.out]; rfl, (by first | exact below_drewN' _ _ | exact Below.refl _ _ | (rw [World.drewN_drewN]; exact below_drewN' _ _))⟩
  rcases (Classical.em (s[0].toNat < 194)) with c1 | c1
  · have HV := Lib.hid (HC.out.trans ((if_neg c0).trans <| if_pos c1))
    clear HC
    have f1 : ¬ (s[0].toNat : Int) < 128 := by omega
    have f2 : ¬ 194 ≤ (s[0].toNat : Int) := by omega
    have f4 : ¬ 224 ≤ (s[0].toNat : Int) := by omega
    have f8 : ¬ 240 ≤ (s[0].toNat : Int) := by omega
    clear hlt c0 c1
    go_enter Tryz.func59, Tryz.ntmps59
    all_goals (go_wp2)
    go_ret
    exact ⟨by rw [HV.out]; rfl, (by first | exact below_drewN' _ _ | exact Below.refl _ _ | (rw [World.drewN_drewN]; exact below_drewN' _ _))⟩
  rcases (Classical.em (s[0].toNat < 224)) with c2 | c2
  · have HV := Lib.hid (HC.out.trans ((if_neg c0).trans <| (if_neg c1).trans <| if_pos c2))
    clear HC
    have f1 : ¬ (s[0].toNat : Int) < 128 := by omega
    have f2 :  194 ≤ (s[0].toNat : Int) := by omega
    have f3 :  (s[0].toNat : Int) ≤ 223 := by omega
    clear hlt c0 c1 c2
    go_enter Tryz.func59, Tryz.ntmps59
    all_goals (go_wp2)
    go_loopw [5, 6, 7] (fun l h i wr => ∃ (k lo hi : Nat), 1 ≤ k ∧ k ≤ 2 ∧ k ≤ s.size ∧ l = .int .u8 lo ∧ h = .int .u8 hi ∧ i = .int .i64 k ∧ Hid (chrD s.data.toList = tails (2 - k) 2 lo hi (s.data.toList.drop k)) ∧ Hid (Below w.heap.size w wr)) (fun _ _ i _ => 2 - (intOf i).toNat)
    case atStart => exact ⟨1, 128, 191, by omega, by omega, by omega, rfl, rfl, rfl, HV, Lib.hid (by first | exact below_drewN' _ _ | exact Below.refl _ _ | (rw [World.drewN_drewN]; exact below_drewN' _ _))⟩
    case round =>
      clear HV
      obtain ⟨k, lo, hi, hk1, hkn, hks, rfl, rfl, rfl, HT, HB⟩ := hrel
      by_cases hkn2 : k < 2
      · obtain ⟨m, hm⟩ : ∃ m, 2 - k = m + 1 := ⟨2 - k - 1, by omega⟩
        have HT2 := HT.out
        rw [hm] at HT2
        have HT3 := Lib.hid HT2
        clear HT2 HT
        by_cases hend : k = s.size
        · have HV := Lib.hid (HT3.out.trans (tails_end s k m _ lo hi hend))
          have d1 : ((k : Int) == (s.size : Int)) = true := by simp [hend]
          have HK := Lib.hid hend
          clear hend hm HT3
          go_wp2
          go_ret
          exact ⟨by rw [HV.out]; rfl, HB.out⟩
        · have hlt : k < s.size := by omega
          have d1 : ((k : Int) == (s.size : Int)) = false := by simp; omega
          have HS := Lib.hid (HT3.out.trans (tails_step s k m _ lo hi hlt))
          by_cases hbad : s[k].toNat < lo ∨ hi < s[k].toNat
          · have HV := Lib.hid (HS.out.trans (if_pos hbad))
            clear HS HT3 hm
            by_cases hb1 : s[k].toNat < lo
            · clear hbad
              go_wp2
              go_ret
              exact ⟨by rw [HV.out]; rfl, HB.out⟩
            · have hb2 : hi < s[k].toNat := by omega
              clear hbad
              go_wp2
              go_ret
              exact ⟨by rw [HV.out]; rfl, HB.out⟩
          · have HV := Lib.hid (HS.out.trans (if_neg hbad))
            have hb1 : ¬ s[k].toNat < lo := by omega
            have hb2 : ¬ hi < s[k].toNat := by omega
            have HM := Lib.hid (show m = 2 - (k + 1) by omega)
            clear HS HT3 hm hbad
            go_wp2
            go_roundw
            case rel => exact ⟨k + 1, 128, 191, by omega, by omega, by omega, rfl, rfl, by go_num, by rw [HM.out] at HV; exact HV, Lib.hid (HB.out)⟩
            case measure => simp [intOf]; omega
      · have hkk : k = 2 := by omega
        subst hkk
        go_wp2
        go_ret
        exact ⟨by rw [HT.out]; rfl, HB.out⟩
  rcases (Classical.em (s[0].toNat = 224)) with c3 | c3
  · have HV := Lib.hid (HC.out.trans ((if_neg c0).trans <| (if_neg c1).trans <| (if_neg c2).trans <| if_pos c3))
    clear HC
    have f1 : ¬ (s[0].toNat : Int) < 128 := by omega
    have f2 :  194 ≤ (s[0].toNat : Int) := by omega
    have f3 : ¬ (s[0].toNat : Int) ≤ 223 := by omega
    have f4 :  224 ≤ (s[0].toNat : Int) := by omega
    have f5 :  (s[0].toNat : Int) ≤ 239 := by omega
    have f6 : ((s[0].toNat : Int) == 224) = true := by rw [beq_iff_eq]; omega
    have f7 : ((s[0].toNat : Int) == 237) = false := by rw [beq_eq_false_iff_ne]; omega
    clear hlt c0 c1 c2 c3
    go_enter Tryz.func59, Tryz.ntmps59
    all_goals (go_wp2)
    go_loopw [5, 6, 7] (fun l h i wr => ∃ (k lo hi : Nat), 1 ≤ k ∧ k ≤ 3 ∧ k ≤ s.size ∧ l = .int .u8 lo ∧ h = .int .u8 hi ∧ i = .int .i64 k ∧ Hid (chrD s.data.toList = tails (3 - k) 3 lo hi (s.data.toList.drop k)) ∧ Hid (Below w.heap.size w wr)) (fun _ _ i _ => 3 - (intOf i).toNat)
    case atStart => exact ⟨1, 160, 191, by omega, by omega, by omega, rfl, rfl, rfl, HV, Lib.hid (by first | exact below_drewN' _ _ | exact Below.refl _ _ | (rw [World.drewN_drewN]; exact below_drewN' _ _))⟩
    case round =>
      clear HV
      obtain ⟨k, lo, hi, hk1, hkn, hks, rfl, rfl, rfl, HT, HB⟩ := hrel
      by_cases hkn2 : k < 3
      · obtain ⟨m, hm⟩ : ∃ m, 3 - k = m + 1 := ⟨3 - k - 1, by omega⟩
        have HT2 := HT.out
        rw [hm] at HT2
        have HT3 := Lib.hid HT2
        clear HT2 HT
        by_cases hend : k = s.size
        · have HV := Lib.hid (HT3.out.trans (tails_end s k m _ lo hi hend))
          have d1 : ((k : Int) == (s.size : Int)) = true := by simp [hend]
          have HK := Lib.hid hend
          clear hend hm HT3
          go_wp2
          go_ret
          exact ⟨by rw [HV.out]; rfl, HB.out⟩
        · have hlt : k < s.size := by omega
          have d1 : ((k : Int) == (s.size : Int)) = false := by simp; omega
          have HS := Lib.hid (HT3.out.trans (tails_step s k m _ lo hi hlt))
          by_cases hbad : s[k].toNat < lo ∨ hi < s[k].toNat
          · have HV := Lib.hid (HS.out.trans (if_pos hbad))
            clear HS HT3 hm
            by_cases hb1 : s[k].toNat < lo
            · clear hbad
              go_wp2
              go_ret
              exact ⟨by rw [HV.out]; rfl, HB.out⟩
            · have hb2 : hi < s[k].toNat := by omega
              clear hbad
              go_wp2
              go_ret
              exact ⟨by rw [HV.out]; rfl, HB.out⟩
          · have HV := Lib.hid (HS.out.trans (if_neg hbad))
            have hb1 : ¬ s[k].toNat < lo := by omega
            have hb2 : ¬ hi < s[k].toNat := by omega
            have HM := Lib.hid (show m = 3 - (k + 1) by omega)
            clear HS HT3 hm hbad
            go_wp2
            go_roundw
            case rel => exact ⟨k + 1, 128, 191, by omega, by omega, by omega, rfl, rfl, by go_num, by rw [HM.out] at HV; exact HV, Lib.hid (HB.out)⟩
            case measure => simp [intOf]; omega
      · have hkk : k = 3 := by omega
        subst hkk
        go_wp2
        go_ret
        exact ⟨by rw [HT.out]; rfl, HB.out⟩
  rcases (Classical.em (s[0].toNat = 237)) with c4 | c4
  · have HV := Lib.hid (HC.out.trans ((if_neg c0).trans <| (if_neg c1).trans <| (if_neg c2).trans <| (if_neg c3).trans <| if_pos c4))
    clear HC
    have f1 : ¬ (s[0].toNat : Int) < 128 := by omega
    have f2 :  194 ≤ (s[0].toNat : Int) := by omega
    have f3 : ¬ (s[0].toNat : Int) ≤ 223 := by omega
    have f4 :  224 ≤ (s[0].toNat : Int) := by omega
    have f5 :  (s[0].toNat : Int) ≤ 239 := by omega
    have f6 : ((s[0].toNat : Int) == 224) = false := by rw [beq_eq_false_iff_ne]; omega
    have f7 : ((s[0].toNat : Int) == 237) = true := by rw [beq_iff_eq]; omega
    clear hlt c0 c1 c2 c3 c4
    go_enter Tryz.func59, Tryz.ntmps59
    all_goals (go_wp2)
    go_loopw [5, 6, 7] (fun l h i wr => ∃ (k lo hi : Nat), 1 ≤ k ∧ k ≤ 3 ∧ k ≤ s.size ∧ l = .int .u8 lo ∧ h = .int .u8 hi ∧ i = .int .i64 k ∧ Hid (chrD s.data.toList = tails (3 - k) 3 lo hi (s.data.toList.drop k)) ∧ Hid (Below w.heap.size w wr)) (fun _ _ i _ => 3 - (intOf i).toNat)
    case atStart => exact ⟨1, 128, 159, by omega, by omega, by omega, rfl, rfl, rfl, HV, Lib.hid (by first | exact below_drewN' _ _ | exact Below.refl _ _ | (rw [World.drewN_drewN]; exact below_drewN' _ _))⟩
    case round =>
      clear HV
      obtain ⟨k, lo, hi, hk1, hkn, hks, rfl, rfl, rfl, HT, HB⟩ := hrel
      by_cases hkn2 : k < 3
      · obtain ⟨m, hm⟩ : ∃ m, 3 - k = m + 1 := ⟨3 - k - 1, by omega⟩
        have HT2 := HT.out
        rw [hm] at HT2
        have HT3 := Lib.hid HT2
        clear HT2 HT
        by_cases hend : k = s.size
        · have HV := Lib.hid (HT3.out.trans (tails_end s k m _ lo hi hend))
          have d1 : ((k : Int) == (s.size : Int)) = true := by simp [hend]
          have HK := Lib.hid hend
          clear hend hm HT3
          go_wp2
          go_ret
          exact ⟨by rw [HV.out]; rfl, HB.out⟩
        · have hlt : k < s.size := by omega
          have d1 : ((k : Int) == (s.size : Int)) = false := by simp; omega
          have HS := Lib.hid (HT3.out.trans (tails_step s k m _ lo hi hlt))
          by_cases hbad : s[k].toNat < lo ∨ hi < s[k].toNat
          · have HV := Lib.hid (HS.out.trans (if_pos hbad))
            clear HS HT3 hm
            by_cases hb1 : s[k].toNat < lo
            · clear hbad
              go_wp2
              go_ret
              exact ⟨by rw [HV.out]; rfl, HB.out⟩
            · have hb2 : hi < s[k].toNat := by omega
              clear hbad
              go_wp2
              go_ret
              exact ⟨by rw [HV.out]; rfl, HB.out⟩
          · have HV := Lib.hid (HS.out.trans (if_neg hbad))
            have hb1 : ¬ s[k].toNat < lo := by omega
            have hb2 : ¬ hi < s[k].toNat := by omega
            have HM := Lib.hid (show m = 3 - (k + 1) by omega)
            clear HS HT3 hm hbad
            go_wp2
            go_roundw
            case rel => exact ⟨k + 1, 128, 191, by omega, by omega, by omega, rfl, rfl, by go_num, by rw [HM.out] at HV; exact HV, Lib.hid (HB.out)⟩
            case measure => simp [intOf]; omega
      · have hkk : k = 3 := by omega
        subst hkk
        go_wp2
        go_ret
        exact ⟨by rw [HT.out]; rfl, HB.out⟩
  rcases (Classical.em (s[0].toNat < 240)) with c5 | c5
  · have HV := Lib.hid (HC.out.trans ((if_neg c0).trans <| (if_neg c1).trans <| (if_neg c2).trans <| (if_neg c3).trans <| (if_neg c4).trans <| if_pos c5))
    clear HC
    have f1 : ¬ (s[0].toNat : Int) < 128 := by omega
    have f2 :  194 ≤ (s[0].toNat : Int) := by omega
    have f3 : ¬ (s[0].toNat : Int) ≤ 223 := by omega
    have f4 :  224 ≤ (s[0].toNat : Int) := by omega
    have f5 :  (s[0].toNat : Int) ≤ 239 := by omega
    have f6 : ((s[0].toNat : Int) == 224) = false := by rw [beq_eq_false_iff_ne]; omega
    have f7 : ((s[0].toNat : Int) == 237) = false := by rw [beq_eq_false_iff_ne]; omega
    clear hlt c0 c1 c2 c3 c4 c5
    go_enter Tryz.func59, Tryz.ntmps59
    all_goals (go_wp2)
    go_loopw [5, 6, 7] (fun l h i wr => ∃ (k lo hi : Nat), 1 ≤ k ∧ k ≤ 3 ∧ k ≤ s.size ∧ l = .int .u8 lo ∧ h = .int .u8 hi ∧ i = .int .i64 k ∧ Hid (chrD s.data.toList = tails (3 - k) 3 lo hi (s.data.toList.drop k)) ∧ Hid (Below w.heap.size w wr)) (fun _ _ i _ => 3 - (intOf i).toNat)
    case atStart => exact ⟨1, 128, 191, by omega, by omega, by omega, rfl, rfl, rfl, HV, Lib.hid (by first | exact below_drewN' _ _ | exact Below.refl _ _ | (rw [World.drewN_drewN]; exact below_drewN' _ _))⟩
    case round =>
      clear HV
      obtain ⟨k, lo, hi, hk1, hkn, hks, rfl, rfl, rfl, HT, HB⟩ := hrel
      by_cases hkn2 : k < 3
      · obtain ⟨m, hm⟩ : ∃ m, 3 - k = m + 1 := ⟨3 - k - 1, by omega⟩
        have HT2 := HT.out
        rw [hm] at HT2
        have HT3 := Lib.hid HT2
        clear HT2 HT
        by_cases hend : k = s.size
        · have HV := Lib.hid (HT3.out.trans (tails_end s k m _ lo hi hend))
          have d1 : ((k : Int) == (s.size : Int)) = true := by simp [hend]
          have HK := Lib.hid hend
          clear hend hm HT3
          go_wp2
          go_ret
          exact ⟨by rw [HV.out]; rfl, HB.out⟩
        · have hlt : k < s.size := by omega
          have d1 : ((k : Int) == (s.size : Int)) = false := by simp; omega
          have HS := Lib.hid (HT3.out.trans (tails_step s k m _ lo hi hlt))
          by_cases hbad : s[k].toNat < lo ∨ hi < s[k].toNat
          · have HV := Lib.hid (HS.out.trans (if_pos hbad))
            clear HS HT3 hm
            by_cases hb1 : s[k].toNat < lo
            · clear hbad
              go_wp2
              go_ret
              exact ⟨by rw [HV.out]; rfl, HB.out⟩
            · have hb2 : hi < s[k].toNat := by omega
              clear hbad
              go_wp2
              go_ret
              exact ⟨by rw [HV.out]; rfl, HB.out⟩
          · have HV := Lib.hid (HS.out.trans (if_neg hbad))
            have hb1 : ¬ s[k].toNat < lo := by omega
            have hb2 : ¬ hi < s[k].toNat := by omega
            have HM := Lib.hid (show m = 3 - (k + 1) by omega)
            clear HS HT3 hm hbad
            go_wp2
            go_roundw
            case rel => exact ⟨k + 1, 128, 191, by omega, by omega, by omega, rfl, rfl, by go_num, by rw [HM.out] at HV; exact HV, Lib.hid (HB.out)⟩
            case measure => simp [intOf]; omega
      · have hkk : k = 3 := by omega
        subst hkk
        go_wp2
        go_ret
        exact ⟨by rw [HT.out]; rfl, HB.out⟩
  rcases (Classical.em (s[0].toNat = 240)) with c6 | c6
  · have HV := Lib.hid (HC.out.trans ((if_neg c0).trans <| (if_neg c1).trans <| (if_neg c2).trans <| (if_neg c3).trans <| (if_neg c4).trans <| (if_neg c5).trans <| if_pos c6))
    clear HC
    have f1 : ¬ (s[0].toNat : Int) < 128 := by omega
    have f2 :  194 ≤ (s[0].toNat : Int) := by omega
    have f3 : ¬ (s[0].toNat : Int) ≤ 223 := by omega
    have f4 :  224 ≤ (s[0].toNat : Int) := by omega
    have f5 : ¬ (s[0].toNat : Int) ≤ 239 := by omega
    have f8 :  240 ≤ (s[0].toNat : Int) := by omega
    have f9 :  (s[0].toNat : Int) ≤ 244 := by omega
    have g1 : ((s[0].toNat : Int) == 240) = true := by rw [beq_iff_eq]; omega
    have g2 : ((s[0].toNat : Int) == 244) = false := by rw [beq_eq_false_iff_ne]; omega
    clear hlt c0 c1 c2 c3 c4 c5 c6
    go_enter Tryz.func59, Tryz.ntmps59
    all_goals (go_wp2)
    go_loopw [5, 6, 7] (fun l h i wr => ∃ (k lo hi : Nat), 1 ≤ k ∧ k ≤ 4 ∧ k ≤ s.size ∧ l = .int .u8 lo ∧ h = .int .u8 hi ∧ i = .int .i64 k ∧ Hid (chrD s.data.toList = tails (4 - k) 4 lo hi (s.data.toList.drop k)) ∧ Hid (Below w.heap.size w wr)) (fun _ _ i _ => 4 - (intOf i).toNat)
    case atStart => exact ⟨1, 144, 191, by omega, by omega, by omega, rfl, rfl, rfl, HV, Lib.hid (by first | exact below_drewN' _ _ | exact Below.refl _ _ | (rw [World.drewN_drewN]; exact below_drewN' _ _))⟩
    case round =>
      clear HV
      obtain ⟨k, lo, hi, hk1, hkn, hks, rfl, rfl, rfl, HT, HB⟩ := hrel
      by_cases hkn2 : k < 4
      · obtain ⟨m, hm⟩ : ∃ m, 4 - k = m + 1 := ⟨4 - k - 1, by omega⟩
        have HT2 := HT.out
        rw [hm] at HT2
        have HT3 := Lib.hid HT2
        clear HT2 HT
        by_cases hend : k = s.size
        · have HV := Lib.hid (HT3.out.trans (tails_end s k m _ lo hi hend))
          have d1 : ((k : Int) == (s.size : Int)) = true := by simp [hend]
          have HK := Lib.hid hend
          clear hend hm HT3
          go_wp2
          go_ret
          exact ⟨by rw [HV.out]; rfl, HB.out⟩
        · have hlt : k < s.size := by omega
          have d1 : ((k : Int) == (s.size : Int)) = false := by simp; omega
          have HS := Lib.hid (HT3.out.trans (tails_step s k m _ lo hi hlt))
          by_cases hbad : s[k].toNat < lo ∨ hi < s[k].toNat
          · have HV := Lib.hid (HS.out.trans (if_pos hbad))
            clear HS HT3 hm
            by_cases hb1 : s[k].toNat < lo
            · clear hbad
              go_wp2
              go_ret
              exact ⟨by rw [HV.out]; rfl, HB.out⟩
            · have hb2 : hi < s[k].toNat := by omega
              clear hbad
              go_wp2
              go_ret
              exact ⟨by rw [HV.out]; rfl, HB.out⟩
          · have HV := Lib.hid (HS.out.trans (if_neg hbad))
            have hb1 : ¬ s[k].toNat < lo := by omega
            have hb2 : ¬ hi < s[k].toNat := by omega
            have HM := Lib.hid (show m = 4 - (k + 1) by omega)
            clear HS HT3 hm hbad
            go_wp2
            go_roundw
            case rel => exact ⟨k + 1, 128, 191, by omega, by omega, by omega, rfl, rfl, by go_num, by rw [HM.out] at HV; exact HV, Lib.hid (HB.out)⟩
            case measure => simp [intOf]; omega
      · have hkk : k = 4 := by omega
        subst hkk
        go_wp2
        go_ret
        exact ⟨by rw [HT.out]; rfl, HB.out⟩
  rcases (Classical.em (s[0].toNat < 244)) with c7 | c7
  · have HV := Lib.hid (HC.out.trans ((if_neg c0).trans <| (if_neg c1).trans <| (if_neg c2).trans <| (if_neg c3).trans <| (if_neg c4).trans <| (if_neg c5).trans <| (if_neg c6).trans <| if_pos c7))
    clear HC
    have f1 : ¬ (s[0].toNat : Int) < 128 := by omega
    have f2 :  194 ≤ (s[0].toNat : Int) := by omega
    have f3 : ¬ (s[0].toNat : Int) ≤ 223 := by omega
    have f4 :  224 ≤ (s[0].toNat : Int) := by omega
    have f5 : ¬ (s[0].toNat : Int) ≤ 239 := by omega
    have f8 :  240 ≤ (s[0].toNat : Int) := by omega
    have f9 :  (s[0].toNat : Int) ≤ 244 := by omega
    have g1 : ((s[0].toNat : Int) == 240) = false := by rw [beq_eq_false_iff_ne]; omega
    have g2 : ((s[0].toNat : Int) == 244) = false := by rw [beq_eq_false_iff_ne]; omega
    clear hlt c0 c1 c2 c3 c4 c5 c6 c7
    go_enter Tryz.func59, Tryz.ntmps59
    all_goals (go_wp2)
    go_loopw [5, 6, 7] (fun l h i wr => ∃ (k lo hi : Nat), 1 ≤ k ∧ k ≤ 4 ∧ k ≤ s.size ∧ l = .int .u8 lo ∧ h = .int .u8 hi ∧ i = .int .i64 k ∧ Hid (chrD s.data.toList = tails (4 - k) 4 lo hi (s.data.toList.drop k)) ∧ Hid (Below w.heap.size w wr)) (fun _ _ i _ => 4 - (intOf i).toNat)
    case atStart => exact ⟨1, 128, 191, by omega, by omega, by omega, rfl, rfl, rfl, HV, Lib.hid (by first | exact below_drewN' _ _ | exact Below.refl _ _ | (rw [World.drewN_drewN]; exact below_drewN' _ _))⟩
    case round =>
      clear HV
      obtain ⟨k, lo, hi, hk1, hkn, hks, rfl, rfl, rfl, HT, HB⟩ := hrel
      by_cases hkn2 : k < 4
      · obtain ⟨m, hm⟩ : ∃ m, 4 - k = m + 1 := ⟨4 - k - 1, by omega⟩
        have HT2 := HT.out
        rw [hm] at HT2
        have HT3 := Lib.hid HT2
        clear HT2 HT
        by_cases hend : k = s.size
        · have HV := Lib.hid (HT3.out.trans (tails_end s k m _ lo hi hend))
          have d1 : ((k : Int) == (s.size : Int)) = true := by simp [hend]
          have HK := Lib.hid hend
          clear hend hm HT3
          go_wp2
          go_ret
          exact ⟨by rw [HV.out]; rfl, HB.out⟩
        · have hlt : k < s.size := by omega
          have d1 : ((k : Int) == (s.size : Int)) = false := by simp; omega
          have HS := Lib.hid (HT3.out.trans (tails_step s k m _ lo hi hlt))
          by_cases hbad : s[k].toNat < lo ∨ hi < s[k].toNat
          · have HV := Lib.hid (HS.out.trans (if_pos hbad))
            clear HS HT3 hm
            by_cases hb1 : s[k].toNat < lo
            · clear hbad
              go_wp2
              go_ret
              exact ⟨by rw [HV.out]; rfl, HB.out⟩
            · have hb2 : hi < s[k].toNat := by omega
              clear hbad
              go_wp2
              go_ret
              exact ⟨by rw [HV.out]; rfl, HB.out⟩
          · have HV := Lib.hid (HS.out.trans (if_neg hbad))
            have hb1 : ¬ s[k].toNat < lo := by omega
            have hb2 : ¬ hi < s[k].toNat := by omega
            have HM := Lib.hid (show m = 4 - (k + 1) by omega)
            clear HS HT3 hm hbad
            go_wp2
            go_roundw
            case rel => exact ⟨k + 1, 128, 191, by omega, by omega, by omega, rfl, rfl, by go_num, by rw [HM.out] at HV; exact HV, Lib.hid (HB.out)⟩
            case measure => simp [intOf]; omega
      · have hkk : k = 4 := by omega
        subst hkk
        go_wp2
        go_ret
        exact ⟨by rw [HT.out]; rfl, HB.out⟩
  rcases (Classical.em (s[0].toNat = 244)) with c8 | c8
  · have HV := Lib.hid (HC.out.trans ((if_neg c0).trans <| (if_neg c1).trans <| (if_neg c2).trans <| (if_neg c3).trans <| (if_neg c4).trans <| (if_neg c5).trans <| (if_neg c6).trans <| (if_neg c7).trans <| if_pos c8))
    clear HC
    have f1 : ¬ (s[0].toNat : Int) < 128 := by omega
    have f2 :  194 ≤ (s[0].toNat : Int) := by omega
    have f3 : ¬ (s[0].toNat : Int) ≤ 223 := by omega
    have f4 :  224 ≤ (s[0].toNat : Int) := by omega
    have f5 : ¬ (s[0].toNat : Int) ≤ 239 := by omega
    have f8 :  240 ≤ (s[0].toNat : Int) := by omega
    have f9 :  (s[0].toNat : Int) ≤ 244 := by omega
    have g1 : ((s[0].toNat : Int) == 240) = false := by rw [beq_eq_false_iff_ne]; omega
    have g2 : ((s[0].toNat : Int) == 244) = true := by rw [beq_iff_eq]; omega
    clear hlt c0 c1 c2 c3 c4 c5 c6 c7 c8
    go_enter Tryz.func59, Tryz.ntmps59
    all_goals (go_wp2)
    go_loopw [5, 6, 7] (fun l h i wr => ∃ (k lo hi : Nat), 1 ≤ k ∧ k ≤ 4 ∧ k ≤ s.size ∧ l = .int .u8 lo ∧ h = .int .u8 hi ∧ i = .int .i64 k ∧ Hid (chrD s.data.toList = tails (4 - k) 4 lo hi (s.data.toList.drop k)) ∧ Hid (Below w.heap.size w wr)) (fun _ _ i _ => 4 - (intOf i).toNat)
    case atStart => exact ⟨1, 128, 143, by omega, by omega, by omega, rfl, rfl, rfl, HV, Lib.hid (by first | exact below_drewN' _ _ | exact Below.refl _ _ | (rw [World.drewN_drewN]; exact below_drewN' _ _))⟩
    case round =>
      clear HV
      obtain ⟨k, lo, hi, hk1, hkn, hks, rfl, rfl, rfl, HT, HB⟩ := hrel
      by_cases hkn2 : k < 4
      · obtain ⟨m, hm⟩ : ∃ m, 4 - k = m + 1 := ⟨4 - k - 1, by omega⟩
        have HT2 := HT.out
        rw [hm] at HT2
        have HT3 := Lib.hid HT2
        clear HT2 HT
        by_cases hend : k = s.size
        · have HV := Lib.hid (HT3.out.trans (tails_end s k m _ lo hi hend))
          have d1 : ((k : Int) == (s.size : Int)) = true := by simp [hend]
          have HK := Lib.hid hend
          clear hend hm HT3
          go_wp2
          go_ret
          exact ⟨by rw [HV.out]; rfl, HB.out⟩
        · have hlt : k < s.size := by omega
          have d1 : ((k : Int) == (s.size : Int)) = false := by simp; omega
          have HS := Lib.hid (HT3.out.trans (tails_step s k m _ lo hi hlt))
          by_cases hbad : s[k].toNat < lo ∨ hi < s[k].toNat
          · have HV := Lib.hid (HS.out.trans (if_pos hbad))
            clear HS HT3 hm
            by_cases hb1 : s[k].toNat < lo
            · clear hbad
              go_wp2
              go_ret
              exact ⟨by rw [HV.out]; rfl, HB.out⟩
            · have hb2 : hi < s[k].toNat := by omega
              clear hbad
              go_wp2
              go_ret
              exact ⟨by rw [HV.out]; rfl, HB.out⟩
          · have HV := Lib.hid (HS.out.trans (if_neg hbad))
            have hb1 : ¬ s[k].toNat < lo := by omega
            have hb2 : ¬ hi < s[k].toNat := by omega
            have HM := Lib.hid (show m = 4 - (k + 1) by omega)
            clear HS HT3 hm hbad
            go_wp2
            go_roundw
            case rel => exact ⟨k + 1, 128, 191, by omega, by omega, by omega, rfl, rfl, by go_num, by rw [HM.out] at HV; exact HV, Lib.hid (HB.out)⟩
            case measure => simp [intOf]; omega
      · have hkk : k = 4 := by omega
        subst hkk
        go_wp2
        go_ret
        exact ⟨by rw [HT.out]; rfl, HB.out⟩
  · have HV := Lib.hid (HC.out.trans ((if_neg c0).trans <| (if_neg c1).trans <| (if_neg c2).trans <| (if_neg c3).trans <| (if_neg c4).trans <| (if_neg c5).trans <| (if_neg c6).trans <| (if_neg c7).trans <| (if_neg c8).trans <| rfl))
    clear HC
    have f1 : ¬ (s[0].toNat : Int) < 128 := by omega
    have f2 :  194 ≤ (s[0].toNat : Int) := by omega
    have f3 : ¬ (s[0].toNat : Int) ≤ 223 := by omega
    have f4 :  224 ≤ (s[0].toNat : Int) := by omega
    have f5 : ¬ (s[0].toNat : Int) ≤ 239 := by omega
    have f8 :  240 ≤ (s[0].toNat : Int) := by omega
    have f9 : ¬ (s[0].toNat : Int) ≤ 244 := by omega
    clear hlt c0 c1 c2 c3 c4 c5 c6 c7 c8
    go_enter Tryz.func59, Tryz.ntmps59
    all_goals (go_wp2)
    go_ret
    exact ⟨by rw [HV.out]; rfl, (by first | exact below_drewN' _ _ | exact Below.refl _ _ | (rw [World.drewN_drewN]; exact below_drewN' _ _))⟩
theorem drop_extract (t : ByteArray) (k : Nat) : (t.extract k t.size).data.toList = t.data.toList.drop k := by
  rw [ByteArray.data_extract, Array.toList_extract]
  simp [List.extract]
  exact List.take_of_length_le (by simp)
set_option maxHeartbeats 2000000 in
theorem refClean_c (s : ByteArray) (hs : s.size ≤ maxLen) (w : World) : Calls Tryz.prog 34 #[.string s] w fun e w' => e = .returned (.bool (Lib.validD s.data.toList)) ∧ Below w.heap.size w w' := by
  go_enter Tryz.func34, Tryz.ntmps34
  go_wp2
  go_loopw [0] (fun v wr => ∃ t : ByteArray, v = .string t ∧ t.size ≤ s.size ∧ Hid (Lib.validD s.data.toList = Lib.validD t.data.toList) ∧ Hid (Below w.heap.size w wr)) (fun v _ => match v with | .string t => t.size | _ => 0)
  case atStart => exact ⟨s, rfl, Nat.le_refl _, rfl, Lib.hid (Below.refl _ _)⟩
  case round =>
    obtain ⟨t, rfl, hle, HT, HB⟩ := hrel
    by_cases h0 : t.size = 0
    · have hv : t = ⟨#[]⟩ := ByteArray.ext (Array.eq_empty_of_size_eq_zero h0)
      subst hv
      clear h0
      go_wp2
      go_ret
      exact ⟨by rw [HT.out]; rfl, HB.out⟩
    · have hne : (t.toList == []) = false := by
        rw [ByteArray.toList_eq, beq_eq_false_iff_ne]
        intro e
        have h := congrArg List.length e
        rw [Array.length_toList] at h
        exact h0 h
      have hne2 : t.data.toList ≠ [] := by
        rw [ByteArray.toList_eq] at hne
        exact beq_eq_false_iff_ne.1 hne
      have HV := Lib.hid (HT.out.trans (valid_chr _ hne2))
      have hcl := chr_le t.data.toList
      have hcc := refChr_c t (by omega) 
      have hlen : t.data.toList.length = t.size := by simp
      rw [hlen] at hcl
      have HCL := Lib.hid hcl
      have HX := Lib.hid (drop_extract t (chrD t.data.toList).toNat)
      clear hne2 hcl hlen h0 HT
      generalize chrD t.data.toList = c at *
      have h1 := hcc wr
      go_wp2_with fail
      refine h1.mono ?_; rintro e w1 ⟨rfl, hb1⟩
      have HB1 := Lib.hid (HB.out.trans (hb1.mono HB.out.size))
      clear h1 hcc hb1 HB
      by_cases hc : c ≤ 0
      · have HE := Lib.hid (HV.out.trans (if_pos hc))
        clear HV
        go_wp2
        go_ret
        exact ⟨by rw [HE.out]; rfl, HB1.out⟩
      · have HE := Lib.hid (HV.out.trans (if_neg hc))
        obtain ⟨m, rfl⟩ : ∃ m : Nat, c = (m : Int) := ⟨c.toNat, by omega⟩
        have hm1 : m ≤ t.size := by have := HCL.out; omega
        have HM := Lib.hid (show 0 < m by omega)
        clear HV
        go_wp2
        go_roundw
        case rel => exact ⟨_, rfl, by simp [ByteArray.size_extract]; omega, by have h9 := HE.out; rw [← HX.out] at h9; exact h9, HB1⟩
        case measure => have := HM.out; simp [ByteArray.size_extract]; omega
set_option maxHeartbeats 2000000 in
theorem refHas_c (l : List ByteArray) (s : ByteArray) (a : Option Addr) (c : Nat) (hl : l.length ≤ 9223372036854775807) (w : World) (h : StrsAt w (fun _ => True) a l) : Calls Tryz.prog 35 #[.slice a l.length c, .string s] w fun e w' => e = .returned (.bool (hasB l s)) ∧ Below w.heap.size w w' := by
  go_enter Tryz.func35, Tryz.ntmps35
  go_wp2
  go_loopw [5] (fun i wr => ∃ k : Nat, k ≤ l.length ∧ i = .int .i64 k ∧ Hid (hasB l s = hasB (l.drop k) s) ∧ Hid (Below w.heap.size w wr)) (fun i _ => l.length - (intOf i).toNat)
  case atStart => exact ⟨0, by omega, rfl, rfl, Lib.hid (Below.refl _ _)⟩
  case round =>
    obtain ⟨k, hk, rfl, HT, HB⟩ := hrel
    by_cases hlt : k < l.length
    · obtain ⟨b, o, rfl, hcell⟩ : ∃ b o, a = some ⟨b, o, none⟩ ∧ wr.cell? ⟨b, o + k, none⟩ = some (.string l[k]) := by
        rcases h.below HB.out with rfl | ⟨b, o, h1, h2, h3⟩
        · exact absurd hlt (by simp)
        · exact ⟨b, o, h1, h3 k _ (by simp [hlt])⟩
      have HS := Lib.hid (show hasB (l.drop k) s = ((l[k].data.toList == s.data.toList) || hasB (l.drop (k + 1)) s) by rw [List.drop_eq_getElem_cons hlt]; rfl)
      have HLT := Lib.hid hlt
      have hkk : k < l.length := hlt
      generalize l[k] = x at *
      by_cases he : x.data.toList = s.data.toList
      · have HV := Lib.hid (HT.out.trans (HS.out.trans (by rw [beq_iff_eq.2 he, Bool.true_or])))
        obtain rfl : x = s := ByteArray.ext (Array.ext' he)
        clear HS HT
        go_wp2
        go_ret
        exact ⟨by rw [HV.out]; rfl, HB.out⟩
      · have hne : (x.toList == s.toList) = false := by
          rw [ByteArray.toList_eq, ByteArray.toList_eq, beq_eq_false_iff_ne]; exact he
        have HV := Lib.hid (HT.out.trans (HS.out.trans (by rw [beq_eq_false_iff_ne.2 he, Bool.false_or])))
        clear HS HT he
        go_wp2
        go_roundw
        case rel => exact ⟨k + 1, HLT.out, by go_num, HV, HB⟩
        case measure => have := HLT.out; simp [intOf]; all_goals omega
    · obtain rfl : k = l.length := by omega
      have HV := Lib.hid (HT.out.trans (by rw [List.drop_length]))
      clear HT hlt
      go_wp2
      go_ret
      exact ⟨by rw [HV.out]; rfl, HB.out⟩
end Go.Proofs.YtnmojmmgkipjcaaGreatDoor
