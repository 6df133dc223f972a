/- The walks of Part; program and document. Conditions: lengths within what a string may have. -/
import Derived.Test.YtbhnlodfpepbpaaDoorParts
import Derived.WalkSpells
import Derived.WalkLawsBesides
import Derived.Handy
import Derived.BigQuiet
namespace Go.Proofs.YtbhnlodfpepbpaaDoor
open Go.RowKit
def partR (s : ByteArray) : ByteArray × ByteArray × Bool :=
  if slash s = -1 then (⟨#[]⟩, ⟨#[]⟩, false)
  else if nameB (headS s (slash s).toNat).data.toList = true ∧ idB (tailS s (slash s).toNat).data.toList = true then (headS s (slash s).toNat, tailS s (slash s).toNat, true) else (⟨#[]⟩, ⟨#[]⟩, false)
theorem slash_cases (s : ByteArray) : slash s = -1 ∨ ∃ i : Nat, slash s = (i : Int) ∧ i < s.size := by
  have h := Lib.indexByte_ge s.data.toList 47
  by_cases e : slash s = -1
  · exact .inl e
  · right
    unfold slash at *
    obtain ⟨i, hi⟩ := Int.eq_ofNat_of_zero_le (show 0 ≤ Lib.indexByte s.data.toList 47 by omega)
    have h2 := (Lib.indexByte_some hi).1
    refine ⟨i, hi, ?_⟩
    have := (List.getElem?_eq_some_iff.1 h2).1
    simpa using this
theorem head_size (s : ByteArray) (i : Nat) : (headS s i).size ≤ s.size := by unfold headS; rw [ByteArray.size_extract]; omega
theorem tail_size (s : ByteArray) (i : Nat) : (tailS s i).size ≤ s.size := by unfold tailS; rw [ByteArray.size_extract]; omega
theorem part_none {s : ByteArray} (h : slash s = -1) : partR s = (⟨#[]⟩, ⟨#[]⟩, false) := by unfold partR; rw [if_pos h]
theorem part_ok {s : ByteArray} {i : Nat} (h : slash s = (i : Int)) (hn : nameB (headS s i).data.toList = true) (hi : idB (tailS s i).data.toList = true) : partR s = (headS s i, tailS s i, true) := by
  unfold partR; rw [if_neg (by omega), h, Int.toNat_natCast, if_pos ⟨hn, hi⟩]
theorem part_bad {s : ByteArray} {i : Nat} (h : slash s = (i : Int)) (hn : ¬ (nameB (headS s i).data.toList = true ∧ idB (tailS s i).data.toList = true)) : partR s = (⟨#[]⟩, ⟨#[]⟩, false) := by
  unfold partR; rw [if_neg (by omega), h, Int.toNat_natCast, if_neg hn]
set_option maxHeartbeats 1000000 in
theorem part_c (s : ByteArray) (hs : s.size ≤ maxLen) (w : World) :
    Calls Tryd.prog 31 #[.string s] w fun e w' => e = .returned (.tuple #[.string (partR s).1, .string (partR s).2.1, .bool (partR s).2.2]) ∧ ∃ n, w' = w.drewN n := by
  rcases slash_cases s with h | ⟨i, h, hlt⟩
  · rw [part_none h]
    have hc := scut_c s _ _ _ w (cutNone_c s h w)
    clear h
    go_enter Tryd.func31, Tryd.ntmps31
    go_wp2_with fail
    refine hc.mono ?_; rintro e w1 ⟨rfl, n, rfl⟩
    clear hc
    go_wp2
    go_ret3
    exact ⟨rfl, _, rfl⟩
  · have hc := scut_c s _ _ _ w (cutAt_c s hs i h hlt w)
    have hn := name_c (headS s i) (Nat.le_trans (head_size s i) hs)
    have hi := id_c (tailS s i) (Nat.le_trans (tail_size s i) hs)
    by_cases h1 : nameB (headS s i).data.toList = true
    · by_cases h2 : idB (tailS s i).data.toList = true
      · rw [part_ok h h1 h2]
        rw [h1] at hn
        rw [h2] at hi
        clear h h1 h2
        generalize headS s i = a at *
        generalize tailS s i = b at *
        go_enter Tryd.func31, Tryd.ntmps31
        go_wp2_with fail
        refine hc.mono ?_; rintro e w1 ⟨rfl, n, rfl⟩
        clear hc
        go_wp2_with fail
        refine (hn _).mono ?_; rintro e w1 ⟨rfl, rfl⟩
        go_wp2_with fail
        refine (hi _).mono ?_; rintro e w1 ⟨rfl, rfl⟩
        go_wp2
        go_ret3
        exact ⟨rfl, _, rfl⟩
      · rw [part_bad h (fun hh => h2 hh.2)]
        rw [h1] at hn
        rw [show idB (tailS s i).data.toList = false by simpa using h2] at hi
        clear h h1 h2
        generalize headS s i = a at *
        generalize tailS s i = b at *
        go_enter Tryd.func31, Tryd.ntmps31
        go_wp2_with fail
        refine hc.mono ?_; rintro e w1 ⟨rfl, n, rfl⟩
        clear hc
        go_wp2_with fail
        refine (hn _).mono ?_; rintro e w1 ⟨rfl, rfl⟩
        go_wp2_with fail
        refine (hi _).mono ?_; rintro e w1 ⟨rfl, rfl⟩
        go_wp2
        go_ret3
        exact ⟨rfl, _, rfl⟩
    · rw [part_bad h (fun hh => h1 hh.1)]
      rw [show nameB (headS s i).data.toList = false by simpa using h1] at hn
      clear h h1 hi
      generalize headS s i = a at *
      generalize tailS s i = b at *
      go_enter Tryd.func31, Tryd.ntmps31
      go_wp2_with fail
      refine hc.mono ?_; rintro e w1 ⟨rfl, n, rfl⟩
      clear hc
      go_wp2_with fail
      refine (hn _).mono ?_; rintro e w1 ⟨rfl, rfl⟩
      go_wp2
      go_ret3
      exact ⟨rfl, _, rfl⟩
theorem slash_at (s : ByteArray) (i : Nat) (h : slash s = (i : Int)) (k : Nat) (hk : k < s.size) : (k < i → s[k].toNat ≠ 47) ∧ (k = i → s[k].toNat = 47) := by
  obtain ⟨h1, h2⟩ := Lib.indexByte_some h
  have e : s.data.toList[k]? = some s[k] := by rw [List.getElem?_eq_getElem (by simpa using hk), getE s k hk]
  refine ⟨fun hlt he => h2 k hlt ?_, fun hki => ?_⟩
  · rw [e]; exact congrArg some (UInt8.toNat_inj.1 he)
  · subst hki
    rw [h1] at e
    rw [← Option.some.inj e]; rfl
theorem slash_no (s : ByteArray) (h : slash s = -1) (k : Nat) (hk : k < s.size) : s[k].toNat ≠ 47 := by
  intro he
  refine Lib.indexByte_none h k ?_
  rw [List.getElem?_eq_getElem (by simpa using hk), getE s k hk]
  exact congrArg some (UInt8.toNat_inj.1 he)
set_option maxHeartbeats 2000000 in
theorem refPart_c (s : ByteArray) (hs : s.size ≤ maxLen) (w : World) :
    Calls Tryd.prog 32 #[.string s] w fun e w' => e = .returned (.tuple #[.string (partR s).1, .string (partR s).2.1, .bool (partR s).2.2]) ∧ ∃ n, w' = w.drewN n := by
  have hs' := hs
  unfold maxLen at hs
  rcases slash_cases s with h | ⟨i, h, hlt⟩
  · rw [part_none h]
    have HN := Lib.hid (slash_no s h)
    clear h hs'
    go_enter Tryd.func32, Tryd.ntmps32
    go_wp2
    go_loop [5] (fun i => ∃ k : Nat, k ≤ s.size ∧ i = .int .i64 k) (fun i => s.size - (intOf i).toNat)
    case atStart => exact ⟨0, by omega, rfl⟩
    case round =>
      obtain ⟨k, hk, rfl⟩ := hrel
      by_cases hks : k < s.size
      · have hb : ((s[k].toNat : Int) == 47) = false := by have := HN.out k hks; simp; omega
        go_wp2
        go_round
        case rel => exact ⟨k + 1, by omega, by go_num⟩
        case measure => simp [intOf]; omega
      · obtain rfl : k = s.size := by omega
        go_wp2
        go_ret3
        exact ⟨rfl, 0, rfl⟩
  · have HN := Lib.hid (slash_at s i h)
    have hn := refName_c (headS s i) (Nat.le_trans (head_size s i) hs')
    have hi := refId_c (tailS s i) (Nat.le_trans (tail_size s i) hs')
    clear hs'
    have HP := Lib.hid (show (nameB (headS s i).data.toList = true → idB (tailS s i).data.toList = true → partR s = (headS s i, tailS s i, true)) ∧ (¬ (nameB (headS s i).data.toList = true ∧ idB (tailS s i).data.toList = true) → partR s = (⟨#[]⟩, ⟨#[]⟩, false)) from ⟨part_ok h, part_bad h⟩)
    clear h
    go_enter Tryd.func32, Tryd.ntmps32
    go_wp2
    go_loop [5] (fun v => ∃ k : Nat, k ≤ i ∧ v = .int .i64 k) (fun v => s.size - (intOf v).toNat)
    case atStart => exact ⟨0, by omega, rfl⟩
    case round =>
      obtain ⟨k, hk, rfl⟩ := hrel
      have hks : k < s.size := by omega
      by_cases hki : k < i
      · have hb : ((s[k].toNat : Int) == 47) = false := by have := (HN.out k hks).1 hki; simp; omega
        go_wp2
        go_round
        case rel => exact ⟨k + 1, by omega, by go_num⟩
        case measure => simp [intOf]; omega
      · obtain rfl : k = i := by omega
        have hb : ((s[k].toNat : Int) == 47) = true := by have := (HN.out k hks).2 rfl; simp; omega
        by_cases h1 : nameB (headS s k).data.toList = true
        · by_cases h2 : idB (tailS s k).data.toList = true
          · have HR := Lib.hid (HP.out.1 h1 h2)
            rw [h1] at hn
            rw [h2] at hi
            clear h1 h2 HP HN
            unfold headS tailS at *
            go_wp2_with fail
            refine (hn _).mono ?_; rintro e w1 ⟨rfl, rfl⟩
            go_wp2_with fail
            refine (hi _).mono ?_; rintro e w1 ⟨rfl, rfl⟩
            clear hn hi
            go_wp2
            go_quiet (fail)
            go_wp2
            go_ret3
            exact ⟨by rw [HR.out]; rfl, _, rfl⟩
          · have HR := Lib.hid (HP.out.2 (fun hh => h2 hh.2))
            rw [h1] at hn
            rw [show idB (tailS s k).data.toList = false by simpa using h2] at hi
            clear h1 h2 HP HN
            unfold headS tailS at *
            go_wp2_with fail
            refine (hn _).mono ?_; rintro e w1 ⟨rfl, rfl⟩
            go_wp2_with fail
            refine (hi _).mono ?_; rintro e w1 ⟨rfl, rfl⟩
            clear hn hi
            go_wp2
            go_ret3
            exact ⟨by rw [HR.out]; rfl, 0, rfl⟩
        · have HR := Lib.hid (HP.out.2 (fun hh => h1 hh.1))
          rw [show nameB (headS s k).data.toList = false by simpa using h1] at hn
          clear h1 HP HN hi
          unfold headS at *
          go_wp2_with fail
          refine (hn _).mono ?_; rintro e w1 ⟨rfl, rfl⟩
          clear hn
          go_wp2
          go_ret3
          exact ⟨by rw [HR.out]; rfl, 0, rfl⟩
end Go.Proofs.YtbhnlodfpepbpaaDoor
