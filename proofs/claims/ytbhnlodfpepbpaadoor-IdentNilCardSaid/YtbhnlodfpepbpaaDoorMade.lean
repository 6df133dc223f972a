/- The walks of Made, Counter, num. Conditions: the tables hold their numbers. -/
import Derived.Test.YtbhnlodfpepbpaaDoorMakers
import Derived.Test.YtbhnlodfpepbpaaDoorPlaintwo
import Derived.Test.YtbhnlodfpepbpaaDoorShelf
import Derived.WalkSpells
import Derived.WalkLawsBesides
import Derived.Handy
namespace Go.Proofs.YtbhnlodfpepbpaaDoor
open Go.RowKit
attribute [local go_sem] bv_add bv_mul bv_sub bv_subc bv_xor bv_xor_byte bv_wrap_byte bv_ofInt u_beq u_bne c_1
theorem hexIdx : ∀ e : Fin 256, Lib.indexByte [48, 49, 50, 51, 52, 53, 54, 55, 56, 57, 97, 98, 99, 100, 101, 102] (UInt8.ofNat e.1) = hexI (UInt8.ofNat e.1) := by decide +kernel
theorem hexIdx_c (b : UInt8) (w : World) :
    Calls Tryd.prog 41 #[.string ⟨#[48, 49, 50, 51, 52, 53, 54, 55, 56, 57, 97, 98, 99, 100, 101, 102]⟩, .int .u8 (b.toNat : Int)] w fun e w' => e = .returned (.int .i64 (hexI b)) ∧ w' = w := by
  have h := Tryd.strings_IndexByte ⟨#[48, 49, 50, 51, 52, 53, 54, 55, 56, 57, 97, 98, 99, 100, 101, 102]⟩ (b.toNat : Int) w
  have e1 : ((b.toNat : Int)).toNat.toUInt8 = b := by simp
  rw [e1] at h
  have e2 := hexIdx ⟨b.toNat, b.toNat_lt⟩
  simp only [UInt8.ofNat_toNat] at e2
  rw [← e2]
  exact h
set_option maxHeartbeats 400000 in
theorem num_c (n : Int) (w : World) :
    Calls Tryd.prog 17 #[.int .i64 n] w fun e w' => e = .returned (.int .i64 n) ∧ w' = w := by
  go_enter Tryd.func17, Tryd.ntmps17
  go_wp2
  go_ret
  exact ⟨rfl, rfl⟩
set_option maxHeartbeats 400000 in
theorem counter_c (C : BitVec 64) (b : Nat) (w : World) (h1 : w.cell? ⟨b, 1, none⟩ = some (.int .u64 (u C))) :
    Calls Tryd.prog 29 #[.pointer (some ⟨b, 0, none⟩)] w fun e w' => e = .returned (.int .u64 (u C)) ∧ w' = w := by
  go_enter Tryd.func29, Tryd.ntmps29
  go_wp2
  go_ret
  exact ⟨rfl, rfl⟩
set_option maxHeartbeats 400000 in
theorem counterNil_c (w : World) :
    Calls Tryd.prog 29 #[.pointer none] w fun e w' => e = .returned (.int .u64 0) ∧ w' = w := by
  go_enter Tryd.func29, Tryd.ntmps29
  go_wp2
  go_ret
  exact ⟨rfl, rfl⟩
theorem made_not_len (s : ByteArray) (S : BitVec 64) (h : s.size ≠ 17) : madeB s.data.toList S = (0#64, false) :=
  madeB_not (by intro hh; exact h (by simpa using hh.1))
theorem head_of (s : ByteArray) (h0 : 0 < s.size) : s.data.toList.head? = some s[0] := by
  rw [List.head?_eq_getElem?]
  rw [List.getElem?_eq_getElem (by simpa using h0)]; rfl
theorem made_not_g (s : ByteArray) (S : BitVec 64) (h0 : 0 < s.size) (h : s[0].toNat ≠ 103) : madeB s.data.toList S = (0#64, false) :=
  madeB_not (by
    intro hh
    rw [head_of s h0] at hh
    exact h (by rw [Option.some.inj hh.2]; rfl))
theorem head_g (s : ByteArray) (h0 : 0 < s.size) (h : s[0].toNat = 103) : s.data.toList.head? = some 103 := by
  rw [head_of s h0]
  exact congrArg some (UInt8.toNat_inj.1 h)
theorem tail_snoc (s : ByteArray) (k : Nat) (h : k < s.size) (h1 : 1 ≤ k) : s.data.toList.tail.take (k + 1 - 1) = s.data.toList.tail.take (k - 1) ++ [s[k]] := by
  have hlen : k - 1 < s.data.toList.tail.length := by simp; have := s.size_data; omega
  rw [show k + 1 - 1 = (k - 1) + 1 by omega, List.take_succ_eq_append_getElem hlen, List.getElem_tail]
  congr 2
  rw [← getE s k h]
  congr 1
  omega
theorem unhex_round (s : ByteArray) (k : Nat) (h : k < s.size) (h1 : 1 ≤ k) (N : BitVec 64) (hN : unhex 0#64 (s.data.toList.tail.take (k - 1)) = some N) :
    unhex 0#64 (s.data.toList.tail.take (k + 1 - 1)) = if hexI s[k] < 0 then none else some (16#64 * N + BitVec.ofInt 64 (hexI s[k])) := by
  rw [tail_snoc s k h h1, unhex_append, hN]
  show unhex N [s[k]] = _
  rw [unhex]
  split <;> rfl
theorem tail_all (s : ByteArray) (h : s.size = 17) : s.data.toList.tail.take (17 - 1) = s.data.toList.tail := by
  rw [List.take_of_length_le]
  simp
  have := s.size_data
  omega
theorem bv_or4 (N : BitVec 64) (d : Int) (h0 : 0 ≤ d) (h1 : d < 16) : bits .or .u64 (u (16#64 * N)) d = u (16#64 * N + BitVec.ofInt 64 d) := by
  obtain ⟨n, rfl⟩ := Int.eq_ofNat_of_zero_le h0
  have e : (16#64 * N).toNat % 2 ^ 4 = 0 := by
    rw [BitVec.toNat_mul]
    have : (16#64).toNat = 16 := rfl
    rw [this]
    omega
  unfold u
  rw [u64_or_nat _ n (16#64 * N).isLt (by omega), nat_join 4 _ n e (by omega), BitVec.toNat_add, BitVec.ofInt_natCast, BitVec.toNat_ofNat]
  have hl := (16#64 * N).isLt
  generalize (16#64 * N).toNat = x at *
  congr 1
  omega
theorem madeFin_last : madeFin last = (0#64, false) := by unfold madeFin; rw [if_pos rfl]
theorem madeFin_ne {c : BitVec 64} (h : c ≠ last) : madeFin c = (c, true) := by unfold madeFin; rw [if_neg h]
theorem last_beq (X : BitVec 64) : (u X == 18446744073709551615) = (X == last) := by
  rw [show (18446744073709551615 : Int) = u last from rfl, u_beq]
set_option maxHeartbeats 1000000 in
theorem made_c (s : ByteArray) (S : BitVec 64) (w : World) (t : Tabs w) (hs : s.size ≤ maxLen) :
    Calls Tryd.prog 18 #[.string s, .int .u64 (u S)] w fun e w' => e = .returned (.tuple #[.int .u64 (u (madeB s.data.toList S).1), .bool (madeB s.data.toList S).2]) ∧ ∃ n, w' = w.drewN n := by
  unfold maxLen at hs
  by_cases hl : s.size = 17
  · have hb0 : ((s.size : Int) != 17) = false := by simp [hl]
    have h0 : 0 < s.size := by omega
    by_cases hg : s[0].toNat = 103
    · have HT := Lib.hid (tail_all s hl)
      have HG := Lib.hid (head_g s h0 hg)
      have hg' : ((s[0].toNat : Int) != 103) = false := by simp [hg]
      have HL := Lib.hid hl
      have hl1 : 17 ≤ s.size := by omega
      have hl2 : s.size ≤ 17 := by omega
      clear hl hg
      go_enter Tryd.func18, Tryd.ntmps18
      go_wp2
      go_loop [6, 7] (fun n i => ∃ k : Nat, 1 ≤ k ∧ k ≤ 17 ∧ i = .int .i64 k ∧ ∃ N, n = .int .u64 (u N) ∧ Hid (unhex 0#64 (s.data.toList.tail.take (k - 1)) = some N)) (fun _ i => 17 - (intOf i).toNat)
      case atStart => exact ⟨1, by omega, by omega, rfl, 0#64, rfl, rfl⟩
      case round =>
        obtain ⟨k, hk1, hk, rfl, N, rfl, HN⟩ := hrel
        by_cases hlt : k < 17
        · have HR := Lib.hid (unhex_round s k (by omega) hk1 N HN.out)
          have hks : k < s.size := by omega
          go_wp2_with fail
          refine (hexIdx_c s[k] _).mono ?_
          rintro e w' ⟨rfl, rfl⟩
          have hh := hexI_lt s[k]
          generalize hexI s[k] = d at *
          by_cases hd : d < 0
          · have HM : Hid (madeB s.data.toList S = (0#64, false)) := by
              refine Lib.hid (madeB_none (by have := HL.out; simpa using this) HG.out ?_)
              refine unhex_none_take (k := k + 1 - 1) ?_
              rw [HR.out, if_pos hd]
            go_wp2
            go_ret2
            exact ⟨by rw [HM.out]; rfl, 0, rfl⟩
          · have hd0 : 0 ≤ d := by omega
            have ho : bits .or .u64 (u (N * 16#64)) d = u (16#64 * N + BitVec.ofInt 64 d) := by rw [BitVec.mul_comm N]; exact bv_or4 N d hd0 hh
            have HR2 : Hid (unhex 0#64 (s.data.toList.tail.take (k + 1 - 1)) = some (16#64 * N + BitVec.ofInt 64 d)) := Lib.hid (by rw [HR.out, if_neg hd])
            clear HR hd
            go_wp2
            go_round
            case rel => exact ⟨k + 1, by omega, by omega, by go_num, _, rfl, HR2⟩
            case measure => simp [intOf]; omega
        · obtain rfl : k = 17 := by omega
          have hN := HN.out
          rw [HT.out] at hN
          have HM := Lib.hid (madeB_some (s := S) (by have := HL.out; simpa using this) HG.out hN)
          clear hN HN
          go_wp2_with fail
          refine (unmix_c N _ t).mono ?_
          rintro e w' ⟨rfl, nq, rfl⟩
          go_wp2_with fail
          refine (mix_c S _ (tabs_drewN t nq)).mono ?_
          rintro e w' ⟨rfl, rfl⟩
          generalize hc : unmixB N ^^^ mixB S = c at HM
          have hcx : bits .xor .u64 (u (unmixB N)) (u (mixB S)) = u c := by rw [bv_xor, hc]
          clear hc
          by_cases hcl : c = last
          · have hb : (u c == 18446744073709551615) = true := by rw [last_beq, hcl]; exact BEq.rfl
            have HM2 := Lib.hid (HM.out.trans (show _ = (0#64, false) by rw [hcl, madeFin_last]))
            clear hcl HM
            go_wp2
            go_ret2
            exact ⟨by rw [HM2.out]; rfl, _, rfl⟩
          · have hb : (u c == 18446744073709551615) = false := by rw [last_beq]; simpa using hcl
            have HM2 := Lib.hid (HM.out.trans (show _ = (c, true) by rw [madeFin_ne hcl]))
            clear hcl HM
            go_wp2
            go_ret2
            exact ⟨by rw [HM2.out]; rfl, _, rfl⟩
    · have hg' : ((s[0].toNat : Int) != 103) = true := by simp; omega
      have HM := Lib.hid (made_not_g s S h0 hg)
      clear hg
      go_enter Tryd.func18, Tryd.ntmps18
      go_wp2
      go_ret2
      exact ⟨by rw [HM.out]; rfl, 0, rfl⟩
  · have hb0 : ((s.size : Int) != 17) = true := by simp; omega
    have HM := Lib.hid (made_not_len s S hl)
    clear hl
    go_enter Tryd.func18, Tryd.ntmps18
    go_wp2
    go_ret2
    exact ⟨by rw [HM.out]; rfl, 0, rfl⟩
end Go.Proofs.YtbhnlodfpepbpaaDoor
