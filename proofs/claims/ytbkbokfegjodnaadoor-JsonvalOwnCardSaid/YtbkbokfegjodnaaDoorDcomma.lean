/- The walks of the document reader's comma and empty. Conditions: a text's length is within what a string may have. -/
import Derived.Test.YtbkbokfegjodnaaDoorDrd
namespace Go.Proofs.YtbkbokfegjodnaaDoor
open Go.RowKit
/-- a place behind a rest, or behind its blanks -/
def RestAt (s : ByteArray) (q : Nat) (r : List UInt8) : Prop := s.data.toList.drop q = r ∨ s.data.toList.drop q = jbl r
theorem RestAt.bl {s : ByteArray} {q : Nat} {r : List UInt8} (h : RestAt s q r) : jbl (s.data.toList.drop q) = jbl r := by
  rcases h with h | h
  · rw [h]
  · rw [h, jbl_jbl]
theorem jmore_bl {N : Nat} {f : Bool} {e : UInt8} {r r' : List UInt8} (h : jbl r = jbl r') : jmore N f e r = jmore N f e r' := by unfold jmore; rw [h]
/-- what comma comes to -/
def ComPost (R : Nat) (s : ByteArray) (p : Nat) (w : World) (res : JR Bool) (e : Ending) (w' : World) : Prop :=
  match res with
  | .ok b r => ∃ q, e = .returned (.bool b) ∧ RestAt s q r ∧ (b = true → s.data.toList.drop q = r) ∧ p < q ∧ q ≤ s.size ∧ SrAt w' R s ⟨q, 0, 0⟩ ∧ Upd w w' (some R) (some R)
  | .bad er pl => e = .returned (.bool false) ∧ FltAt w' R s er pl ∧ Upd w w' (some R) (some R)
set_option maxHeartbeats 4000000 in
theorem dcomma_bad (R : Nat) (s : ByteArray) (er pl : Nat) (en : UInt8) (w : World) (h : FltAt w R s er pl) :
    Calls Tryd.prog 90 #[.pointer (some ⟨R, 0, none⟩), .int .u8 (en.toNat : Int)] w fun r w' => r = .returned (.bool false) ∧ ∃ m, w' = w.drewN m := by
  have hbl := dblanks_bad R s er pl w h
  have HN := Lib.hid (fun (m : Nat) => dnext_bad R s er pl (w.drewN m) (h.same rfl))
  clear h
  go_enter Tryd.func90, Tryd.ntmps90
  go_wp2_with fail
  refine hbl.mono ?_; rintro e w1 ⟨rfl, m, rfl⟩
  go_wp2_with fail
  refine (HN.out m).mono ?_; rintro e w1 ⟨rfl, rfl⟩
  go_wp2
  go_ret
  exact ⟨rfl, m, rfl⟩
set_option maxHeartbeats 4000000 in
theorem dcomma_c (R : Nat) (s : ByteArray) (p : Nat) (en : UInt8) (hen : en ≠ 44) (hs : s.size < 9223372036854775807) (w : World) (h : SrAt w R s ⟨p, 0, 0⟩) :
    Calls Tryd.prog 90 #[.pointer (some ⟨R, 0, none⟩), .int .u8 (en.toNat : Int)] w (ComPost R s p w (jmore s.size false en (s.data.toList.drop p))) := by
  obtain ⟨res, hres⟩ : ∃ res, jmore s.size false en (s.data.toList.drop p) = res := ⟨_, rfl⟩
  rw [hres]
  have hbl := dblanks_c R s p hs w h
  clear h
  go_enter Tryd.func90, Tryd.ntmps90
  go_wp2_with fail
  refine hbl.mono ?_; rintro e w1 ⟨rfl, q, hpq, hqs, hdq, hS, hU⟩
  unfold jmore at hres
  rw [← hdq] at hres
  have HS := Lib.hid hS
  have HU := Lib.hid hU
  clear hbl hS hU hdq
  obtain ⟨l, hl⟩ : ∃ l, s.data.toList.drop q = l := ⟨_, rfl⟩
  rw [hl] at hres
  cases l with
  | nil =>
    have HB := Lib.hid (show JR.bad 3 s.size = res from hres)
    have hpk := dnext_e R s q hl w1 HS.out
    clear hres
    go_wp2_with fail
    refine hpk.mono ?_; rintro e w2 ⟨rfl, hr, hu⟩
    have HQ := Lib.hid (And.intro hr (HU.out.trans hu))
    clear hr hu hpk
    go_wp2
    go_ret
    rw [← HB.out]
    exact ⟨rfl, HQ.out.1, HQ.out.2⟩
  | cons c r =>
    obtain ⟨hlt, hd, hrl⟩ := drop_parts hl
    have hpk := dnext_l R s q c r hl w1 HS.out
    simp only [hrl] at hres
    clear hl
    go_wp2_with fail
    refine hpk.mono ?_; rintro e w2 ⟨rfl, m, rfl⟩
    clear hpk
    have HS2 := Lib.hid (HS.out.same (w' := w1.drewN m) rfl)
    have HU2 := Lib.hid (HU.out.trans (Upd.of_below (below_drewN' w1 m) _))
    generalize w1.drewN m = W at *
    have h1 := HS2.out.c1
    have f1 := HS2.out.f1
    simp only at h1
    by_cases hce : c = en
    · have HB := Lib.hid (show JR.ok false r = res from (if_pos hce).symm.trans hres)
      subst hce
      have m1 : ((c.toNat : Int) != 44) = true := bne_of (byte_ne (d := 44) hen)
      have m2 : ((c.toNat : Int) == 44) = false := byte_ne (d := 44) hen
      have m3 : ((c.toNat : Int) != (c.toNat : Int)) = false := by simp
      have HS3 := Lib.hid (HS2.out.one (w2 := W) rfl hlt)
      have HU3 := Lib.hid (HU2.out.trans (Upd.of_setCell W ⟨R, 1, none⟩ (.int .i64 ((q : Int) + 1))))
      have hbl := dblanks_c R s (q + 1) hs _ HS3.out
      clear hres hen HS HU HS2 HU2
      go_wp2_with fail
      refine hbl.mono ?_; rintro e w3 ⟨rfl, q2, hpq2, hqs2, hdq2, hS2, hU2⟩
      rw [hd] at hdq2
      have HQ := Lib.hid (And.intro hS2 (And.intro (HU3.out.trans hU2) hdq2))
      clear hbl hS2 hU2 hdq2 h1 f1
      go_wp2
      go_ret
      rw [← HB.out]
      exact ⟨q2, rfl, .inr HQ.out.2.2, fun h => (by cases h), by omega, hqs2, HQ.out.1, HQ.out.2.1⟩
    have hres := (if_neg hce).symm.trans hres
    have hres := (if_neg (show ¬ (false = true) by decide)).symm.trans hres
    by_cases h44 : c = 44
    · have HB := Lib.hid (show JR.ok true (jbl r) = res from (if_pos h44).symm.trans hres)
      have m1 : ((c.toNat : Int) != 44) = false := bne_of' (byte_eq (d := 44) h44)
      have m2 : ((c.toNat : Int) == 44) = true := byte_eq (d := 44) h44
      have HS3 := Lib.hid (HS2.out.one (w2 := W) rfl hlt)
      have HU3 := Lib.hid (HU2.out.trans (Upd.of_setCell W ⟨R, 1, none⟩ (.int .i64 ((q : Int) + 1))))
      have hbl := dblanks_c R s (q + 1) hs _ HS3.out
      clear hres hen HS HU HS2 HU2 hce h44
      go_wp2_with fail
      refine hbl.mono ?_; rintro e w3 ⟨rfl, q2, hpq2, hqs2, hdq2, hS2, hU2⟩
      rw [hd] at hdq2
      have HQ := Lib.hid (And.intro hS2 (And.intro (HU3.out.trans hU2) hdq2))
      clear hbl hS2 hU2 hdq2 h1 f1
      go_wp2
      go_ret
      rw [← HB.out]
      exact ⟨q2, rfl, .inl HQ.out.2.2, fun _ => HQ.out.2.2, by omega, hqs2, HQ.out.1, HQ.out.2.1⟩
    · have HB := Lib.hid (show JR.bad 10 q = res from (if_neg h44).symm.trans hres)
      have m1 : ((c.toNat : Int) != 44) = true := bne_of (byte_ne (d := 44) h44)
      have m3 : ((c.toNat : Int) != (en.toNat : Int)) = true := bne_of (byte_ne hce)
      have hfl := dfail_c R s q 10 q (by decide) W HS2.out
      clear hres hen HS HU hce h44
      go_wp2_with fail
      refine hfl.mono ?_; rintro e w3 ⟨rfl, hr, hu⟩
      have HQ := Lib.hid (And.intro hr (HU2.out.trans hu))
      clear hr hu hfl
      go_wp2
      go_ret
      rw [← HB.out]
      exact ⟨rfl, HQ.out.1, HQ.out.2⟩
set_option maxHeartbeats 4000000 in
theorem dempty_c (R : Nat) (s : ByteArray) (p : Nat) (en c0 : UInt8) (l0 : List UInt8) (hl0 : s.data.toList.drop p = c0 :: l0) (hs : s.size < 9223372036854775807) (w : World) (h : SrAt w R s ⟨p, 0, 0⟩) :
    Calls Tryd.prog 89 #[.pointer (some ⟨R, 0, none⟩), .int .u8 (en.toNat : Int)] w (DJ R s w (p + 1) (fun b v _ => v = .bool (!b)) (fun v _ => v = .bool true) (jmore s.size true en l0)) := by
  obtain ⟨res, hres⟩ : ∃ res, jmore s.size true en l0 = res := ⟨_, rfl⟩
  rw [hres]
  obtain ⟨hp, hdp, _⟩ := drop_parts hl0
  have h1 := h.c1
  have f1 := h.f1
  simp only at h1
  have HS0 := Lib.hid (h.one rfl hp)
  have HU0 := Lib.hid (Upd.of_setCell w ⟨R, 1, none⟩ (.int .i64 ((p : Int) + 1)))
  have hbl := dblanks_c R s (p + 1) hs _ HS0.out
  clear h
  go_enter Tryd.func89, Tryd.ntmps89
  go_wp2_with fail
  refine hbl.mono ?_; rintro e w1 ⟨rfl, q, hpq, hqs, hdq, hS, hU⟩
  unfold jmore at hres
  rw [hdp] at hdq
  rw [← hdq] at hres
  have HS := Lib.hid hS
  have HU := Lib.hid (HU0.out.trans hU)
  clear hbl hS hU hdq h1 f1
  obtain ⟨l, hl⟩ : ∃ l, s.data.toList.drop q = l := ⟨_, rfl⟩
  rw [hl] at hres
  cases l with
  | nil =>
    have HB := Lib.hid (show JR.bad 3 s.size = res from hres)
    have hpk := dnext_e R s q hl w1 HS.out
    clear hres
    go_wp2_with fail
    refine hpk.mono ?_; rintro e w2 ⟨rfl, hr, hu⟩
    have HQ := Lib.hid (And.intro hr (HU.out.trans hu))
    clear hr hu hpk
    go_wp2
    go_ret
    exact dj_bad HB.out rfl HQ.out.1 HQ.out.2
  | cons c r =>
    obtain ⟨hlt, hd, hrl⟩ := drop_parts hl
    have hpk := dnext_l R s q c r hl w1 HS.out
    have HL := Lib.hid hl
    clear hl
    go_wp2_with fail
    refine hpk.mono ?_; rintro e w2 ⟨rfl, m, rfl⟩
    clear hpk
    have HS2 := Lib.hid (HS.out.same (w' := w1.drewN m) rfl)
    have HU2 := Lib.hid (HU.out.trans (Upd.of_below (below_drewN' w1 m) _))
    generalize w1.drewN m = W at *
    have h1 := HS2.out.c1
    have f1 := HS2.out.f1
    simp only at h1
    by_cases hce : c = en
    · have HB := Lib.hid (show JR.ok false (s.data.toList.drop (q + 1)) = res from by rw [hd]; exact (if_pos hce).symm.trans hres)
      subst hce
      have m3 : ((c.toNat : Int) == (c.toNat : Int)) = true := by simp
      have HS3 := Lib.hid (HS2.out.one (w2 := W) rfl hlt)
      have HU3 := Lib.hid (HU2.out.trans (Upd.of_setCell W ⟨R, 1, none⟩ (.int .i64 ((q : Int) + 1))))
      clear hres HS HU HS2 HU2
      go_wp2
      go_ret
      exact dj_ok HB.out rfl (by omega) HS3.out HU3.out
    · have HB := Lib.hid (show JR.ok true (s.data.toList.drop q) = res from by rw [HL.out]; exact (if_neg hce).symm.trans hres)
      have m3 : ((c.toNat : Int) == (en.toNat : Int)) = false := byte_ne hce
      clear hres hce
      go_wp2
      go_ret
      exact dj_ok HB.out rfl hpq HS2.out HU2.out
end Go.Proofs.YtbkbokfegjodnaaDoor
