/- The walks of ids and names; program and document. Conditions: lengths within what a string may have. -/
import Derived.Test.YtbhnlodfpepbpaaDoorSums
import Derived.WalkSpells
import Derived.WalkLawsBesides
import Derived.Handy
namespace Go.Proofs.YtbhnlodfpepbpaaDoor
open Go.RowKit
theorem getE (s : ByteArray) (k : Nat) (h : k < s.size) : s.data.toList[k]'(by simpa using h) = s[k] := rfl
theorem id_bad (s : ByteArray) (k : Nat) (h : k < s.size) (hb : idc s[k] = false) : idB s.data.toList = false := by
  unfold idB
  rw [Bool.and_eq_false_iff]; left
  rw [List.all_eq_false]
  exact ⟨s[k], by rw [← getE s k h]; exact List.getElem_mem _, by rw [hb]; decide⟩
theorem id_good (s : ByteArray) (H : Hid (∀ j (h : j < s.size), j < s.size → idc s[j] = true)) : idB s.data.toList = (decide (1 ≤ s.size) && decide (s.size ≤ 64)) := by
  unfold idB
  rw [List.all_eq_true.2 (by
    intro x hx
    obtain ⟨j, hj, rfl⟩ := List.mem_iff_getElem.1 hx
    have hj' : j < s.size := by simpa using hj
    exact H.out j hj' hj'), Bool.true_and]
  simp
theorem hid_snoc {s : ByteArray} {k : Nat} {p : Nat → UInt8 → Bool} (h : k < s.size) (H : Hid (∀ j (h : j < s.size), j < k → p j s[j] = true)) (hk : p k s[k] = true) : Hid (∀ j (h : j < s.size), j < k + 1 → p j s[j] = true) := by
  intro j hj hlt
  by_cases e : j = k
  · subst e; exact hk
  · exact H.out j hj (by omega)
theorem name_nil : nameB [] = false := rfl
theorem name_all (l : List UInt8) : nameB l = ((decide (∀ j (h : j < l.length), namec (j == 0) l[j] = true)) && (decide (1 ≤ l.length) && decide (l.length ≤ 32))) := by
  unfold nameB
  congr 1
  rw [Bool.eq_iff_iff, decide_eq_true_iff]
  cases l with
  | nil => simp
  | cons c r =>
    simp only [Bool.and_eq_true, List.all_eq_true]
    constructor
    · rintro ⟨h1, h2⟩ j hj
      cases j with
      | zero => exact h1
      | succ j => exact h2 _ (List.getElem_mem _)
    · intro h
      refine ⟨h 0 (by simp), fun x hx => ?_⟩
      obtain ⟨j, hj, rfl⟩ := List.mem_iff_getElem.1 hx
      exact h (j + 1) (by simpa using hj)
theorem name_bad (s : ByteArray) (k : Nat) (h : k < s.size) (hb : namec (k == 0) s[k] = false) : nameB s.data.toList = false := by
  rw [name_all, Bool.and_eq_false_iff]; left
  rw [decide_eq_false_iff_not]
  intro hh
  have := hh k (by simpa using h)
  rw [getE s k h, hb] at this
  exact absurd this (by decide)
theorem name_good (s : ByteArray) (H : Hid (∀ j (h : j < s.size), j < s.size → namec (j == 0) s[j] = true)) : nameB s.data.toList = (decide (1 ≤ s.size) && decide (s.size ≤ 32)) := by
  rw [name_all, decide_eq_true (by intro j hj; have hj' : j < s.size := by simpa using hj
                                   exact H.out j hj' hj'), Bool.true_and]
  simp
set_option maxHeartbeats 1000000 in
theorem id_c (s : ByteArray) (hs : s.size ≤ maxLen) (w : World) :
    Calls Tryd.prog 19 #[.string s] w fun e w' => e = .returned (.bool (idB s.data.toList)) ∧ w' = w := by
  unfold maxLen at hs
  go_enter Tryd.func19, Tryd.ntmps19
  go_wp2
  go_loop [6] (fun i => ∃ k : Nat, k ≤ s.size ∧ i = .int .i64 k ∧ Hid (∀ j (h : j < s.size), j < k → idc s[j] = true)) (fun i => s.size - (intOf i).toNat)
  case atStart => exact ⟨0, by omega, rfl, fun j _ h => absurd h (by omega)⟩
  case round =>
    obtain ⟨k, hk, rfl, HH⟩ := hrel
    by_cases hlt : k < s.size
    · have HB := Lib.hid (id_bad s k hlt)
      have HG := Lib.hid (hid_snoc (p := fun _ c => idc c) hlt HH)
      rcases (show s[k].toNat < 33 ∨ 126 < s[k].toNat ∨ (33 ≤ s[k].toNat ∧ s[k].toNat ≤ 126) by omega) with hc | hc | hc
      · have hb : Hid (idc s[k] = false) := Lib.hid (by simp [idc]; omega)
        go_wp2
        all_goals
          go_ret
          exact ⟨by rw [HB.out hb.out]; rfl, rfl⟩
      · have hb : Hid (idc s[k] = false) := Lib.hid (by simp [idc]; omega)
        go_wp2
        all_goals
          go_ret
          exact ⟨by rw [HB.out hb.out]; rfl, rfl⟩
      · have hb : Hid (idc s[k] = true) := Lib.hid (by simp [idc]; omega)
        obtain ⟨hc1, hc2⟩ := hc
        go_wp2
        all_goals
          go_round
          case rel => exact ⟨k + 1, by omega, by go_num, HG.out hb.out⟩
          case measure => simp [intOf]; omega
    · obtain rfl : k = s.size := by omega
      have HB := id_good s HH
      clear HH
      rcases (show s.size < 1 ∨ 64 < s.size ∨ (1 ≤ s.size ∧ s.size ≤ 64) by omega) with hc | hc | ⟨hc, hc'⟩
      · have HE := Lib.hid (HB.trans (show _ = false by simp; omega))
        clear HB
        go_wp2
        go_ret
        exact ⟨by rw [HE.out]; rfl, rfl⟩
      · have HE := Lib.hid (HB.trans (show _ = false by simp; omega))
        clear HB
        have hd : decide ((s.size : Int) ≤ 64) = false := by simp; omega
        go_wp2
        go_ret
        exact ⟨by rw [HE.out]; rfl, rfl⟩
      · have HE := Lib.hid (HB.trans (show _ = true by simp; omega))
        clear HB
        have hd : decide ((s.size : Int) ≤ 64) = true := by simp; omega
        go_wp2
        go_ret
        exact ⟨by rw [HE.out]; rfl, rfl⟩
set_option maxHeartbeats 1000000 in
theorem refId_c (s : ByteArray) (hs : s.size ≤ maxLen) (w : World) :
    Calls Tryd.prog 33 #[.string s] w fun e w' => e = .returned (.bool (idB s.data.toList)) ∧ w' = w := by
  unfold maxLen at hs
  go_enter Tryd.func33, Tryd.ntmps33
  go_wp2
  go_loop [3] (fun i => ∃ k : Nat, k ≤ s.size ∧ i = .int .i64 k ∧ Hid (∀ j (h : j < s.size), j < k → idc s[j] = true)) (fun i => s.size - (intOf i).toNat)
  case atStart => exact ⟨0, by omega, rfl, fun j _ h => absurd h (by omega)⟩
  case round =>
    obtain ⟨k, hk, rfl, HH⟩ := hrel
    by_cases hlt : k < s.size
    · have HB := Lib.hid (id_bad s k hlt)
      have HG := Lib.hid (hid_snoc (p := fun _ c => idc c) hlt HH)
      rcases (show s[k].toNat < 33 ∨ 126 < s[k].toNat ∨ (33 ≤ s[k].toNat ∧ s[k].toNat ≤ 126) by omega) with hc | hc | hc
      · have hb : Hid (idc s[k] = false) := Lib.hid (by simp [idc]; omega)
        go_wp2
        all_goals
          go_ret
          exact ⟨by rw [HB.out hb.out]; rfl, rfl⟩
      · have hb : Hid (idc s[k] = false) := Lib.hid (by simp [idc]; omega)
        go_wp2
        all_goals
          go_ret
          exact ⟨by rw [HB.out hb.out]; rfl, rfl⟩
      · have hb : Hid (idc s[k] = true) := Lib.hid (by simp [idc]; omega)
        obtain ⟨hc1, hc2⟩ := hc
        go_wp2
        all_goals
          go_round
          case rel => exact ⟨k + 1, by omega, by go_num, HG.out hb.out⟩
          case measure => simp [intOf]; omega
    · obtain rfl : k = s.size := by omega
      have HB := id_good s HH
      clear HH
      rcases (show s.size < 1 ∨ 64 < s.size ∨ (1 ≤ s.size ∧ s.size ≤ 64) by omega) with hc | hc | ⟨hc, hc'⟩
      · have HE := Lib.hid (HB.trans (show _ = false by simp; omega))
        clear HB
        go_wp2
        go_ret
        exact ⟨by rw [HE.out]; rfl, rfl⟩
      · have HE := Lib.hid (HB.trans (show _ = false by simp; omega))
        clear HB
        have hd : decide ((s.size : Int) ≤ 64) = false := by simp; omega
        go_wp2
        go_ret
        exact ⟨by rw [HE.out]; rfl, rfl⟩
      · have HE := Lib.hid (HB.trans (show _ = true by simp; omega))
        clear HB
        have hd : decide ((s.size : Int) ≤ 64) = true := by simp; omega
        go_wp2
        go_ret
        exact ⟨by rw [HE.out]; rfl, rfl⟩
set_option maxHeartbeats 4000000 in
theorem name_c (s : ByteArray) (hs : s.size ≤ maxLen) (w : World) :
    Calls Tryd.prog 34 #[.string s] w fun e w' => e = .returned (.bool (nameB s.data.toList)) ∧ w' = w := by
  unfold maxLen at hs
  go_enter Tryd.func34, Tryd.ntmps34
  go_wp2
  go_loop [8] (fun i => ∃ k : Nat, k ≤ s.size ∧ i = .int .i64 k ∧ Hid (∀ j (h : j < s.size), j < k → namec (j == 0) s[j] = true)) (fun i => s.size - (intOf i).toNat)
  case atStart => exact ⟨0, by omega, rfl, fun j _ h => absurd h (by omega)⟩
  case round =>
    obtain ⟨k, hk, rfl, HH⟩ := hrel
    by_cases hlt : k < s.size
    · have HB := Lib.hid (name_bad s k hlt)
      have HG := Lib.hid (hid_snoc (p := fun j c => namec (j == 0) c) hlt HH)
      clear HH
      rcases (show (97 ≤ s[k].toNat ∧ s[k].toNat ≤ 122) ∨ k = 0 ∨ ¬ k = 0 by omega) with ⟨hc, hc'⟩ | hk0 | hk0
      · have hb : Hid (namec (k == 0) s[k] = true) := Lib.hid (by simp [namec, letc, hc, hc'])
        have h122 : decide ((s[k].toNat : Int) ≤ 122) = true := by simp; omega
        go_wp2
        all_goals
          go_round
          case rel => exact ⟨k + 1, by omega, by go_num, HG.out hb.out⟩
          case measure => simp [intOf]; omega
      · by_cases hl : 97 ≤ s[k].toNat ∧ s[k].toNat ≤ 122
        · have hb : Hid (namec (k == 0) s[k] = true) := Lib.hid (by simp [namec, letc, hl.1, hl.2])
          obtain ⟨hc, hc'⟩ := hl
          have hk0' : ((k : Int) == 0) = true := by simp [hk0]
          have HK := Lib.hid hk0; clear hk0
          have h122 : decide ((s[k].toNat : Int) ≤ 122) = true := by simp; omega
          go_wp2
          all_goals
            go_round
            case rel => exact ⟨k + 1, by omega, by go_num, HG.out hb.out⟩
            case measure => simp [intOf]; omega
        · have hb : Hid (namec (k == 0) s[k] = false) := Lib.hid (by simp [namec, letc, hk0] at hl ⊢; omega)
          have hk0' : ((k : Int) == 0) = true := by simp [hk0]
          have HK := Lib.hid hk0; clear hk0
          rcases (show s[k].toNat < 97 ∨ 122 < s[k].toNat by omega) with hc | hc
          · clear hl
            go_wp2
            all_goals
              go_ret
              exact ⟨by rw [HB.out hb.out]; rfl, rfl⟩
          · clear hl
            have h122 : decide ((s[k].toNat : Int) ≤ 122) = false := by simp; omega
            go_wp2
            all_goals
              go_ret
              exact ⟨by rw [HB.out hb.out]; rfl, rfl⟩
      · have hkb : (k == 0) = false := by simpa using hk0
        have hk0' : ((k : Int) == 0) = false := by simp [hk0]
        rcases (show (97 ≤ s[k].toNat ∧ s[k].toNat ≤ 122) ∨ s[k].toNat < 45 ∨ s[k].toNat = 47 ∨ (57 < s[k].toNat ∧ s[k].toNat < 95) ∨ s[k].toNat = 96 ∨ 122 < s[k].toNat ∨ (48 ≤ s[k].toNat ∧ s[k].toNat ≤ 57) ∨ s[k].toNat = 45 ∨ s[k].toNat = 46 ∨ s[k].toNat = 95 by omega) with ⟨hc, hc'⟩ | hc | hc | ⟨hc, hc'⟩ | hc | hc | ⟨hc, hc'⟩ | hc | hc | hc
        · have hb : Hid (namec (k == 0) s[k] = true) := Lib.hid (by simp [namec, letc, othc, hkb]; omega)
          clear hkb hk0
          have h122 : decide ((s[k].toNat : Int) ≤ 122) = true := by simp; omega
          have h57 : decide ((57 : Int) < (s[k].toNat : Int)) = true := by simp; omega
          have g57 : decide ((s[k].toNat : Int) ≤ 57) = false := by simp; omega
          have n45 : ((s[k].toNat : Int) != 45) = true := by simp; omega
          have e45 : ((s[k].toNat : Int) == 45) = false := by simp; omega
          have n95 : ((s[k].toNat : Int) != 95) = true := by simp; omega
          have e95 : ((s[k].toNat : Int) == 95) = false := by simp; omega
          have n46 : ((s[k].toNat : Int) != 46) = true := by simp; omega
          have e46 : ((s[k].toNat : Int) == 46) = false := by simp; omega
          go_wp2
          all_goals
            go_round
            case rel => exact ⟨k + 1, by omega, by go_num, HG.out hb.out⟩
            case measure => simp [intOf]; omega
        · have hb : Hid (namec (k == 0) s[k] = false) := Lib.hid (by simp [namec, letc, othc, hkb]; omega)
          clear hkb hk0
          have h122 : decide ((s[k].toNat : Int) ≤ 122) = true := by simp; omega
          have h57 : decide ((57 : Int) < (s[k].toNat : Int)) = false := by simp; omega
          have g57 : decide ((s[k].toNat : Int) ≤ 57) = true := by simp; omega
          have n45 : ((s[k].toNat : Int) != 45) = true := by simp; omega
          have e45 : ((s[k].toNat : Int) == 45) = false := by simp; omega
          have n95 : ((s[k].toNat : Int) != 95) = true := by simp; omega
          have e95 : ((s[k].toNat : Int) == 95) = false := by simp; omega
          have n46 : ((s[k].toNat : Int) != 46) = true := by simp; omega
          have e46 : ((s[k].toNat : Int) == 46) = false := by simp; omega
          go_wp2
          all_goals
            go_ret
            exact ⟨by rw [HB.out hb.out]; rfl, rfl⟩
        · have hb : Hid (namec (k == 0) s[k] = false) := Lib.hid (by simp [namec, letc, othc, hkb, hc])
          clear hkb hk0
          go_wp2
          all_goals
            go_ret
            exact ⟨by rw [HB.out hb.out]; rfl, rfl⟩
        · have hb : Hid (namec (k == 0) s[k] = false) := Lib.hid (by simp [namec, letc, othc, hkb, hc]; omega)
          clear hkb hk0
          have h122 : decide ((s[k].toNat : Int) ≤ 122) = true := by simp; omega
          have h57 : decide ((57 : Int) < (s[k].toNat : Int)) = true := by simp; omega
          have g57 : decide ((s[k].toNat : Int) ≤ 57) = false := by simp; omega
          have n45 : ((s[k].toNat : Int) != 45) = true := by simp; omega
          have e45 : ((s[k].toNat : Int) == 45) = false := by simp; omega
          have n95 : ((s[k].toNat : Int) != 95) = true := by simp; omega
          have e95 : ((s[k].toNat : Int) == 95) = false := by simp; omega
          have n46 : ((s[k].toNat : Int) != 46) = true := by simp; omega
          have e46 : ((s[k].toNat : Int) == 46) = false := by simp; omega
          go_wp2
          all_goals
            go_ret
            exact ⟨by rw [HB.out hb.out]; rfl, rfl⟩
        · have hb : Hid (namec (k == 0) s[k] = false) := Lib.hid (by simp [namec, letc, othc, hkb, hc])
          clear hkb hk0
          go_wp2
          all_goals
            go_ret
            exact ⟨by rw [HB.out hb.out]; rfl, rfl⟩
        · have hb : Hid (namec (k == 0) s[k] = false) := Lib.hid (by simp [namec, letc, othc, hkb, hc]; omega)
          clear hkb hk0
          have h122 : decide ((s[k].toNat : Int) ≤ 122) = false := by simp; omega
          have h57 : decide ((57 : Int) < (s[k].toNat : Int)) = true := by simp; omega
          have g57 : decide ((s[k].toNat : Int) ≤ 57) = false := by simp; omega
          have n45 : ((s[k].toNat : Int) != 45) = true := by simp; omega
          have e45 : ((s[k].toNat : Int) == 45) = false := by simp; omega
          have n95 : ((s[k].toNat : Int) != 95) = true := by simp; omega
          have e95 : ((s[k].toNat : Int) == 95) = false := by simp; omega
          have n46 : ((s[k].toNat : Int) != 46) = true := by simp; omega
          have e46 : ((s[k].toNat : Int) == 46) = false := by simp; omega
          go_wp2
          all_goals
            go_ret
            exact ⟨by rw [HB.out hb.out]; rfl, rfl⟩
        · have hb : Hid (namec (k == 0) s[k] = true) := Lib.hid (by simp [namec, letc, othc, hkb, hc]; omega)
          clear hkb hk0
          have h122 : decide ((s[k].toNat : Int) ≤ 122) = true := by simp; omega
          have h57 : decide ((57 : Int) < (s[k].toNat : Int)) = false := by simp; omega
          have g57 : decide ((s[k].toNat : Int) ≤ 57) = true := by simp; omega
          have n45 : ((s[k].toNat : Int) != 45) = true := by simp; omega
          have e45 : ((s[k].toNat : Int) == 45) = false := by simp; omega
          have n95 : ((s[k].toNat : Int) != 95) = true := by simp; omega
          have e95 : ((s[k].toNat : Int) == 95) = false := by simp; omega
          have n46 : ((s[k].toNat : Int) != 46) = true := by simp; omega
          have e46 : ((s[k].toNat : Int) == 46) = false := by simp; omega
          go_wp2
          all_goals
            go_round
            case rel => exact ⟨k + 1, by omega, by go_num, HG.out hb.out⟩
            case measure => simp [intOf]; omega
        · have hb : Hid (namec (k == 0) s[k] = true) := Lib.hid (by simp [namec, letc, othc, hkb, hc])
          clear hkb hk0
          go_wp2
          all_goals
            go_round
            case rel => exact ⟨k + 1, by omega, by go_num, HG.out hb.out⟩
            case measure => simp [intOf]; omega
        · have hb : Hid (namec (k == 0) s[k] = true) := Lib.hid (by simp [namec, letc, othc, hkb, hc])
          clear hkb hk0
          go_wp2
          all_goals
            go_round
            case rel => exact ⟨k + 1, by omega, by go_num, HG.out hb.out⟩
            case measure => simp [intOf]; omega
        · have hb : Hid (namec (k == 0) s[k] = true) := Lib.hid (by simp [namec, letc, othc, hkb, hc])
          clear hkb hk0
          go_wp2
          all_goals
            go_round
            case rel => exact ⟨k + 1, by omega, by go_num, HG.out hb.out⟩
            case measure => simp [intOf]; omega
    · obtain rfl : k = s.size := by omega
      have HB := name_good s HH
      clear HH
      rcases (show s.size < 1 ∨ 32 < s.size ∨ (1 ≤ s.size ∧ s.size ≤ 32) by omega) with hc | hc | ⟨hc, hc'⟩
      · have HE := Lib.hid (HB.trans (show _ = false by simp; omega))
        clear HB
        go_wp2
        go_ret
        exact ⟨by rw [HE.out]; rfl, rfl⟩
      · have HE := Lib.hid (HB.trans (show _ = false by simp; omega))
        clear HB
        have hd : decide ((s.size : Int) ≤ 32) = false := by simp; omega
        go_wp2
        go_ret
        exact ⟨by rw [HE.out]; rfl, rfl⟩
      · have HE := Lib.hid (HB.trans (show _ = true by simp; omega))
        clear HB
        have hd : decide ((s.size : Int) ≤ 32) = true := by simp; omega
        go_wp2
        go_ret
        exact ⟨by rw [HE.out]; rfl, rfl⟩
set_option maxHeartbeats 4000000 in
theorem refName_c (s : ByteArray) (hs : s.size ≤ maxLen) (w : World) :
    Calls Tryd.prog 35 #[.string s] w fun e w' => e = .returned (.bool (nameB s.data.toList)) ∧ w' = w := by
  unfold maxLen at hs
  go_enter Tryd.func35, Tryd.ntmps35
  go_wp2
  go_loop [3] (fun i => ∃ k : Nat, k ≤ s.size ∧ i = .int .i64 k ∧ Hid (∀ j (h : j < s.size), j < k → namec (j == 0) s[j] = true)) (fun i => s.size - (intOf i).toNat)
  case atStart => exact ⟨0, by omega, rfl, fun j _ h => absurd h (by omega)⟩
  case round =>
    obtain ⟨k, hk, rfl, HH⟩ := hrel
    by_cases hlt : k < s.size
    · have HB := Lib.hid (name_bad s k hlt)
      have HG := Lib.hid (hid_snoc (p := fun j c => namec (j == 0) c) hlt HH)
      clear HH
      rcases (show (97 ≤ s[k].toNat ∧ s[k].toNat ≤ 122) ∨ k = 0 ∨ ¬ k = 0 by omega) with ⟨hc, hc'⟩ | hk0 | hk0
      · have hb : Hid (namec (k == 0) s[k] = true) := Lib.hid (by simp [namec, letc, hc, hc'])
        have h122 : decide ((s[k].toNat : Int) ≤ 122) = true := by simp; omega
        go_wp2
        all_goals
          go_round
          case rel => exact ⟨k + 1, by omega, by go_num, HG.out hb.out⟩
          case measure => simp [intOf]; omega
      · by_cases hl : 97 ≤ s[k].toNat ∧ s[k].toNat ≤ 122
        · have hb : Hid (namec (k == 0) s[k] = true) := Lib.hid (by simp [namec, letc, hl.1, hl.2])
          obtain ⟨hc, hc'⟩ := hl
          have hk0' : ((k : Int) == 0) = true := by simp [hk0]
          have HK := Lib.hid hk0; clear hk0
          have h122 : decide ((s[k].toNat : Int) ≤ 122) = true := by simp; omega
          go_wp2
          all_goals
            go_round
            case rel => exact ⟨k + 1, by omega, by go_num, HG.out hb.out⟩
            case measure => simp [intOf]; omega
        · have hb : Hid (namec (k == 0) s[k] = false) := Lib.hid (by simp [namec, letc, hk0] at hl ⊢; omega)
          have hk0' : ((k : Int) == 0) = true := by simp [hk0]
          have HK := Lib.hid hk0; clear hk0
          rcases (show s[k].toNat < 97 ∨ 122 < s[k].toNat by omega) with hc | hc
          · clear hl
            go_wp2
            all_goals
              go_ret
              exact ⟨by rw [HB.out hb.out]; rfl, rfl⟩
          · clear hl
            have h122 : decide ((s[k].toNat : Int) ≤ 122) = false := by simp; omega
            go_wp2
            all_goals
              go_ret
              exact ⟨by rw [HB.out hb.out]; rfl, rfl⟩
      · have hkb : (k == 0) = false := by simpa using hk0
        have hk0' : ((k : Int) == 0) = false := by simp [hk0]
        rcases (show (97 ≤ s[k].toNat ∧ s[k].toNat ≤ 122) ∨ s[k].toNat < 45 ∨ s[k].toNat = 47 ∨ (57 < s[k].toNat ∧ s[k].toNat < 95) ∨ s[k].toNat = 96 ∨ 122 < s[k].toNat ∨ (48 ≤ s[k].toNat ∧ s[k].toNat ≤ 57) ∨ s[k].toNat = 45 ∨ s[k].toNat = 46 ∨ s[k].toNat = 95 by omega) with ⟨hc, hc'⟩ | hc | hc | ⟨hc, hc'⟩ | hc | hc | ⟨hc, hc'⟩ | hc | hc | hc
        · have hb : Hid (namec (k == 0) s[k] = true) := Lib.hid (by simp [namec, letc, othc, hkb]; omega)
          clear hkb hk0
          have h122 : decide ((s[k].toNat : Int) ≤ 122) = true := by simp; omega
          have h57 : decide ((57 : Int) < (s[k].toNat : Int)) = true := by simp; omega
          have g57 : decide ((s[k].toNat : Int) ≤ 57) = false := by simp; omega
          have n45 : ((s[k].toNat : Int) != 45) = true := by simp; omega
          have e45 : ((s[k].toNat : Int) == 45) = false := by simp; omega
          have n95 : ((s[k].toNat : Int) != 95) = true := by simp; omega
          have e95 : ((s[k].toNat : Int) == 95) = false := by simp; omega
          have n46 : ((s[k].toNat : Int) != 46) = true := by simp; omega
          have e46 : ((s[k].toNat : Int) == 46) = false := by simp; omega
          go_wp2
          all_goals
            go_round
            case rel => exact ⟨k + 1, by omega, by go_num, HG.out hb.out⟩
            case measure => simp [intOf]; omega
        · have hb : Hid (namec (k == 0) s[k] = false) := Lib.hid (by simp [namec, letc, othc, hkb]; omega)
          clear hkb hk0
          have h122 : decide ((s[k].toNat : Int) ≤ 122) = true := by simp; omega
          have h57 : decide ((57 : Int) < (s[k].toNat : Int)) = false := by simp; omega
          have g57 : decide ((s[k].toNat : Int) ≤ 57) = true := by simp; omega
          have n45 : ((s[k].toNat : Int) != 45) = true := by simp; omega
          have e45 : ((s[k].toNat : Int) == 45) = false := by simp; omega
          have n95 : ((s[k].toNat : Int) != 95) = true := by simp; omega
          have e95 : ((s[k].toNat : Int) == 95) = false := by simp; omega
          have n46 : ((s[k].toNat : Int) != 46) = true := by simp; omega
          have e46 : ((s[k].toNat : Int) == 46) = false := by simp; omega
          go_wp2
          all_goals
            go_ret
            exact ⟨by rw [HB.out hb.out]; rfl, rfl⟩
        · have hb : Hid (namec (k == 0) s[k] = false) := Lib.hid (by simp [namec, letc, othc, hkb, hc])
          clear hkb hk0
          go_wp2
          all_goals
            go_ret
            exact ⟨by rw [HB.out hb.out]; rfl, rfl⟩
        · have hb : Hid (namec (k == 0) s[k] = false) := Lib.hid (by simp [namec, letc, othc, hkb, hc]; omega)
          clear hkb hk0
          have h122 : decide ((s[k].toNat : Int) ≤ 122) = true := by simp; omega
          have h57 : decide ((57 : Int) < (s[k].toNat : Int)) = true := by simp; omega
          have g57 : decide ((s[k].toNat : Int) ≤ 57) = false := by simp; omega
          have n45 : ((s[k].toNat : Int) != 45) = true := by simp; omega
          have e45 : ((s[k].toNat : Int) == 45) = false := by simp; omega
          have n95 : ((s[k].toNat : Int) != 95) = true := by simp; omega
          have e95 : ((s[k].toNat : Int) == 95) = false := by simp; omega
          have n46 : ((s[k].toNat : Int) != 46) = true := by simp; omega
          have e46 : ((s[k].toNat : Int) == 46) = false := by simp; omega
          go_wp2
          all_goals
            go_ret
            exact ⟨by rw [HB.out hb.out]; rfl, rfl⟩
        · have hb : Hid (namec (k == 0) s[k] = false) := Lib.hid (by simp [namec, letc, othc, hkb, hc])
          clear hkb hk0
          go_wp2
          all_goals
            go_ret
            exact ⟨by rw [HB.out hb.out]; rfl, rfl⟩
        · have hb : Hid (namec (k == 0) s[k] = false) := Lib.hid (by simp [namec, letc, othc, hkb, hc]; omega)
          clear hkb hk0
          have h122 : decide ((s[k].toNat : Int) ≤ 122) = false := by simp; omega
          have h57 : decide ((57 : Int) < (s[k].toNat : Int)) = true := by simp; omega
          have g57 : decide ((s[k].toNat : Int) ≤ 57) = false := by simp; omega
          have n45 : ((s[k].toNat : Int) != 45) = true := by simp; omega
          have e45 : ((s[k].toNat : Int) == 45) = false := by simp; omega
          have n95 : ((s[k].toNat : Int) != 95) = true := by simp; omega
          have e95 : ((s[k].toNat : Int) == 95) = false := by simp; omega
          have n46 : ((s[k].toNat : Int) != 46) = true := by simp; omega
          have e46 : ((s[k].toNat : Int) == 46) = false := by simp; omega
          go_wp2
          all_goals
            go_ret
            exact ⟨by rw [HB.out hb.out]; rfl, rfl⟩
        · have hb : Hid (namec (k == 0) s[k] = true) := Lib.hid (by simp [namec, letc, othc, hkb, hc]; omega)
          clear hkb hk0
          have h122 : decide ((s[k].toNat : Int) ≤ 122) = true := by simp; omega
          have h57 : decide ((57 : Int) < (s[k].toNat : Int)) = false := by simp; omega
          have g57 : decide ((s[k].toNat : Int) ≤ 57) = true := by simp; omega
          have n45 : ((s[k].toNat : Int) != 45) = true := by simp; omega
          have e45 : ((s[k].toNat : Int) == 45) = false := by simp; omega
          have n95 : ((s[k].toNat : Int) != 95) = true := by simp; omega
          have e95 : ((s[k].toNat : Int) == 95) = false := by simp; omega
          have n46 : ((s[k].toNat : Int) != 46) = true := by simp; omega
          have e46 : ((s[k].toNat : Int) == 46) = false := by simp; omega
          go_wp2
          all_goals
            go_round
            case rel => exact ⟨k + 1, by omega, by go_num, HG.out hb.out⟩
            case measure => simp [intOf]; omega
        · have hb : Hid (namec (k == 0) s[k] = true) := Lib.hid (by simp [namec, letc, othc, hkb, hc])
          clear hkb hk0
          go_wp2
          all_goals
            go_round
            case rel => exact ⟨k + 1, by omega, by go_num, HG.out hb.out⟩
            case measure => simp [intOf]; omega
        · have hb : Hid (namec (k == 0) s[k] = true) := Lib.hid (by simp [namec, letc, othc, hkb, hc])
          clear hkb hk0
          go_wp2
          all_goals
            go_round
            case rel => exact ⟨k + 1, by omega, by go_num, HG.out hb.out⟩
            case measure => simp [intOf]; omega
        · have hb : Hid (namec (k == 0) s[k] = true) := Lib.hid (by simp [namec, letc, othc, hkb, hc])
          clear hkb hk0
          go_wp2
          all_goals
            go_round
            case rel => exact ⟨k + 1, by omega, by go_num, HG.out hb.out⟩
            case measure => simp [intOf]; omega
    · obtain rfl : k = s.size := by omega
      have HB := name_good s HH
      clear HH
      rcases (show s.size < 1 ∨ 32 < s.size ∨ (1 ≤ s.size ∧ s.size ≤ 32) by omega) with hc | hc | ⟨hc, hc'⟩
      · have HE := Lib.hid (HB.trans (show _ = false by simp; omega))
        clear HB
        go_wp2
        go_ret
        exact ⟨by rw [HE.out]; rfl, rfl⟩
      · have HE := Lib.hid (HB.trans (show _ = false by simp; omega))
        clear HB
        have hd : decide ((s.size : Int) ≤ 32) = false := by simp; omega
        go_wp2
        go_ret
        exact ⟨by rw [HE.out]; rfl, rfl⟩
      · have HE := Lib.hid (HB.trans (show _ = true by simp; omega))
        clear HB
        have hd : decide ((s.size : Int) ≤ 32) = true := by simp; omega
        go_wp2
        go_ret
        exact ⟨by rw [HE.out]; rfl, rfl⟩
end Go.Proofs.YtbhnlodfpepbpaaDoor
