/- The walk of the document's Made. Conditions: none but a string's length. -/
import Derived.Test.YtbhnlodfpepbpaaDoorMade
import Derived.Test.YtbhnlodfpepbpaaDoorMakers
import Derived.Test.YtbhnlodfpepbpaaDoorPlaintwo
import Derived.Test.YtbhnlodfpepbpaaDoorShelf
import Derived.WalkSpells
import Derived.WalkLawsBesides
import Derived.Handy
namespace Go.Proofs.YtbhnlodfpepbpaaDoor
open Go.RowKit
attribute [local go_sem] bv_add bv_mul bv_sub bv_subc bv_xor bv_xor_byte bv_wrap_byte bv_ofInt u_beq u_bne c_1

theorem bv_mul16 (N : BitVec 64) : IntKind.u64.wrap (16 * u N) = u (16#64 * N) := by
  rw [Int.mul_comm, bv_mul, BitVec.mul_comm]; rfl
attribute [local go_sem] bv_mul16
theorem hexTest : ∀ (e : Fin 256) (j : Fin 16), ((hexd j.1).toNat == (UInt8.ofNat e.1).toNat) = (hexI (UInt8.ofNat e.1) == (j.1 : Int)) := by decide +kernel
theorem hexTest' (b : UInt8) (j : Nat) (h : j < 16) : (((hexd j).toNat : Int) == (b.toNat : Int)) = (hexI b == (j : Int)) := by
  have e := hexTest ⟨b.toNat, b.toNat_lt⟩ ⟨j, h⟩
  simp only [UInt8.ofNat_toNat] at e
  rw [← e]
  rw [Bool.eq_iff_iff]
  simp
  omega
/-- what the inner loop has found after j letters -/
def dAt (d : Int) (j : Nat) : Int := if 0 ≤ d ∧ d < j then d else -1
theorem dAt_zero (d : Int) : dAt d 0 = -1 := by unfold dAt; rw [if_neg (by omega)]
theorem dAt_hit (d : Int) (j : Nat) (h : d = j) : dAt d (j + 1) = j := by unfold dAt; rw [if_pos (by omega)]; exact h
theorem dAt_miss (d : Int) (j : Nat) (h : d ≠ j) : dAt d (j + 1) = dAt d j := by unfold dAt; split <;> split <;> omega
theorem dAt_all (c : UInt8) : dAt (hexI c) 16 = hexI c := by
  have := hexI_lt c
  have hge : -1 ≤ hexI c := by unfold hexI; split <;> (try split) <;> omega
  unfold dAt; split <;> omega
set_option maxHeartbeats 1000000 in
theorem refMade_c (s : ByteArray) (S : BitVec 64) (w : World) (hs : s.size ≤ maxLen) :
    Calls Tryd.prog 30 #[.string s, .int .u64 (u S)] w fun e w' => e = .returned (.tuple #[.int .u64 (u (madeB s.data.toList S).1), .bool (madeB s.data.toList S).2]) ∧ ∃ n, w' = w.drewN n := by
  unfold maxLen at hs
  by_cases hl : s.size = 17
  · have hb0 : ((s.size : Int) != 17) = false := by simp [hl]
    have h0 : 0 < s.size := by omega
    by_cases hg : s[0].toNat = 103
    · have HT := Lib.hid (tail_all s hl)
      have HG := Lib.hid (head_g s h0 hg)
      have hg' : ((s[0].toNat : Int) != 103) = false := by simp [hg]
      have HL := Lib.hid hl
      have hl1 : 17 ≤ s.size := by omega
      have hl2 : s.size ≤ 17 := by omega
      clear hl hg
      go_enter Tryd.func30, Tryd.ntmps30
      go_wp2
      go_loopw [6, 7] (fun n i wr => ∃ k : Nat, 1 ≤ k ∧ k ≤ 17 ∧ i = .int .i64 k ∧ ∃ N, n = .int .u64 (u N) ∧ Hid (unhex 0#64 (s.data.toList.tail.take (k - 1)) = some N) ∧ ∃ q, wr = w.drewN q) (fun _ i _ => 17 - (intOf i).toNat)
      case atStart => exact ⟨1, by omega, by omega, rfl, 0#64, rfl, rfl, 0, rfl⟩
      case round =>
        obtain ⟨k, hk1, hk, rfl, N, rfl, HN, q, rfl⟩ := hrel
        by_cases hlt : k < 17
        · have HR := Lib.hid (unhex_round s k (by omega) hk1 N HN.out)
          have hks : k < s.size := by omega
          have hh := hexI_lt s[k]
          have hdz := dAt_zero (hexI s[k])
          have HDZ := Lib.hid hdz; clear hdz
          have HDA := Lib.hid (dAt_all s[k])
          have HTS := Lib.hid (hexTest' s[k])
          go_wp2
          generalize hexI s[k] = d at *
          go_loopw [8, 9] (fun v j wr => ∃ i : Nat, i ≤ 16 ∧ j = .int .i64 i ∧ v = .int .i64 (dAt d i) ∧ ∃ q, wr = w.drewN q) (fun _ j _ => 16 - (intOf j).toNat)
          case atStart => exact ⟨0, by omega, rfl, by rw [HDZ.out], _, rfl⟩
          case round =>
            obtain ⟨i, hi, rfl, rfl, q2, rfl⟩ := hrel
            by_cases hil : i < 16
            · have hx := fun w => hexIx w i hil
              have htst := HTS.out i hil
              by_cases hdi : d = i
              · have htt : ((((hexd i).toNat : Int)) == (s[k].toNat : Int)) = true := by rw [htst, hdi]; simp
                have HI := Lib.hid (dAt_hit d i hdi)
                clear hdi htst
                go_wp2
                go_quiet (fail)
                go_wp2
                go_roundw
                case rel => exact ⟨i + 1, by omega, by go_num, by rw [HI.out], _, rfl⟩
                case measure => simp [intOf]; omega
              · have htt : ((((hexd i).toNat : Int)) == (s[k].toNat : Int)) = false := by rw [htst]; simpa using hdi
                have HI := Lib.hid (dAt_miss d i hdi)
                clear hdi htst
                generalize dAt d i = y at *
                go_wp2
                go_quiet (fail)
                go_wp2
                go_roundw
                case rel => exact ⟨i + 1, by omega, by go_num, by rw [HI.out], _, rfl⟩
                case measure => simp [intOf]; omega
            · obtain rfl : i = 16 := by omega
              have hda := HDA.out
              generalize dAt d 16 = y at *
              obtain rfl := hda
              by_cases hd : y < 0
              · have HM : Hid (madeB s.data.toList S = (0#64, false)) := by
                  refine Lib.hid (madeB_none (by have := HL.out; simpa using this) HG.out ?_)
                  refine unhex_none_take (k := k + 1 - 1) ?_
                  rw [HR.out, if_pos hd]
                go_wp2
                go_ret2
                exact ⟨by rw [HM.out]; rfl, _, rfl⟩
              · have hd0 : 0 ≤ y := by omega
                have HR2 : Hid (unhex 0#64 (s.data.toList.tail.take (k + 1 - 1)) = some (16#64 * N + BitVec.ofInt 64 y)) := Lib.hid (by rw [HR.out, if_neg hd])
                clear HR hd
                go_wp2
                go_roundw
                case rel => exact ⟨k + 1, by omega, by omega, by go_num, _, rfl, HR2, _, rfl⟩
                case measure => simp [intOf]; omega
        · obtain rfl : k = 17 := by omega
          have hN := HN.out
          rw [HT.out] at hN
          have HM := Lib.hid (madeB_some (s := S) (by have := HL.out; simpa using this) HG.out hN)
          clear hN HN
          go_wp2_with fail
          refine (refUnmix_c N _).mono ?_
          rintro e w' ⟨rfl, rfl⟩
          go_wp2_with fail
          refine (refMix_c S _).mono ?_
          rintro e w' ⟨rfl, rfl⟩
          generalize hc : unmixB N ^^^ mixB S = c at HM
          have hcx : bits .xor .u64 (u (unmixB N)) (u (mixB S)) = u c := by rw [bv_xor, hc]
          clear hc
          by_cases hcl : c = last
          · have hb : (u c == 18446744073709551615) = true := by rw [last_beq, hcl]; exact BEq.rfl
            have HM2 := Lib.hid (HM.out.trans (show _ = (0#64, false) by rw [hcl, madeFin_last]))
            clear hcl HM
            go_wp2
            go_ret2
            exact ⟨by rw [HM2.out]; rfl, _, rfl⟩
          · have hb : (u c == 18446744073709551615) = false := by rw [last_beq]; simpa using hcl
            have HM2 := Lib.hid (HM.out.trans (show _ = (c, true) by rw [madeFin_ne hcl]))
            clear hcl HM
            go_wp2
            go_ret2
            exact ⟨by rw [HM2.out]; rfl, _, rfl⟩
    · have hg' : ((s[0].toNat : Int) != 103) = true := by simp; omega
      have HM := Lib.hid (made_not_g s S h0 hg)
      clear hg
      go_enter Tryd.func30, Tryd.ntmps30
      go_wp2
      go_ret2
      exact ⟨by rw [HM.out]; rfl, 0, rfl⟩
  · have hb0 : ((s.size : Int) != 17) = true := by simp; omega
    have HM := Lib.hid (made_not_len s S hl)
    clear hl
    go_enter Tryd.func30, Tryd.ntmps30
    go_wp2
    go_ret2
    exact ⟨by rw [HM.out]; rfl, 0, rfl⟩
end Go.Proofs.YtbhnlodfpepbpaaDoor
