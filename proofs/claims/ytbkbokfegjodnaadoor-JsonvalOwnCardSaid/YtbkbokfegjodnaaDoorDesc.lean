/- The walks of the document reader's second and escape. Conditions: a text's length is within what a string may have. -/
import Derived.Test.YtbkbokfegjodnaaDoorDutf
import Derived.Test.YtbkbokfegjodnaaDoorRda
namespace Go.Proofs.YtbkbokfegjodnaaDoor
open Go.RowKit
/-- what an escape comes to -/
def dEsc (R : Nat) (s : ByteArray) (p : Nat) (w : World) (res : JR (List UInt8)) (e : Ending) (w' : World) : Prop := DJ R s w p (fun (x : List UInt8) v _ => v = .string ⟨x.toArray⟩ ∧ x.length ≤ 4) (fun v _ => v = .string ⟨#[]⟩) res e w'
set_option maxRecDepth 20000 in
set_option maxHeartbeats 4000000 in
theorem dsecond_c (R : Nat) (s : ByteArray) (p f n : Nat) (hs : s.size < 9223372036854775807) (hn : 55296 ≤ n ∧ n < 56320) (w : World) (h : SrAt w R s ⟨p, 0, 0⟩) :
    Calls Tryd.prog 101 #[.pointer (some ⟨R, 0, none⟩), .int .i64 (f : Int), .int .i64 (n : Int)] w (dEsc R s p w (jutf (jsec s.size f n (jlit s.size f [92, 117] (s.data.toList.drop p))))) := by
  have hp := h.pos
  simp only at hp
  have H := Lib.hid h
  clear h
  obtain ⟨r2, hr2⟩ : ∃ x, jlit s.size f [92, 117] (s.data.toList.drop p) = x := ⟨_, rfl⟩
  rw [hr2]
  have HJ0 := Lib.hid hr2
  obtain ⟨res, hres⟩ : ∃ res, jutf (jsec s.size f n r2) = res := ⟨_, rfl⟩
  rw [hres]
  have HR3 := Lib.hid hres
  clear hr2 hres
  go_enter Tryd.func101, Tryd.ntmps101
  go_wp2
  go_loopg [8, 9, 10] 3 (fun gk iv _ _ wr => ∃ (i q2 : Nat), iv = .int .i64 i ∧ i + gk = 3 ∧ i ≤ 2 ∧ p ≤ q2 ∧ q2 ≤ s.size ∧ Hid (jlit s.size f (([92, 117] : List UInt8).drop i) (s.data.toList.drop q2) = r2) ∧ Hid (SrAt wr R s ⟨q2, 0, 0⟩) ∧ Hid (Upd w wr (some R) (some R)))
  case atStart => exact ⟨0, p, rfl, by omega, by omega, Nat.le_refl _, hp, HJ0, H, Lib.hid (Upd.refl _ _)⟩
  case round =>
    obtain ⟨i, q2, rfl, hg, hi, hpq2, hqs2, HJ, HS, HU⟩ := hrel
    clear HJ0 H
    rcases (show i = 0 ∨ i = 1 ∨ i = 2 by omega) with rfl | rfl | rfl
    · obtain ⟨l, hl⟩ : ∃ l, s.data.toList.drop q2 = l := ⟨_, rfl⟩
      have hJ := HJ.out
      rw [hl] at hJ
      cases l with
      | nil =>
        have HJ2 := Lib.hid (show JR.bad 3 s.size = r2 from hJ)
        have hpk := dnext_e R s q2 hl wr HS.out
        clear HJ hJ hl
        go_wp2_with fail
        refine hpk.mono ?_; rintro e w2 ⟨rfl, hr, hu⟩
        have HQ := Lib.hid (And.intro hr hu)
        clear hr hu hpk
        go_wp2
        go_ret
        have hR3 := HR3.out
        rw [← HJ2.out, jsec, jutf] at hR3
        exact dj_bad hR3 rfl HQ.out.1 (HU.out.trans HQ.out.2)
      | cons c r =>
        have hpk := dnext_l R s q2 c r hl wr HS.out
        have HDP := Lib.hid (drop_parts hl)
        by_cases he : c = 92
        · have HJ2 := Lib.hid (show jlit s.size f (([92, 117] : List UInt8).drop (0 + 1)) (s.data.toList.drop (q2 + 1)) = r2 from by rw [HDP.out.2.1]; exact (if_pos he).symm.trans hJ)
          subst he
          clear HJ hJ hl
          go_wp2_with fail
          refine hpk.mono ?_; rintro e w2 ⟨rfl, m, rfl⟩
          clear hpk
          have h1 := HS.out.c1
          have f1 := HS.out.f1
          simp only at h1
          go_wp2
          go_roundg (gk - 1)
          case measure => omega
          case rel => exact ⟨0 + 1, q2 + 1, by go_num, by omega, by omega, by omega, HDP.out.1, HJ2, Lib.hid (HS.out.one rfl HDP.out.1), Lib.hid ((HU.out.trans (Upd.of_below (below_drewN' _ _) _)).trans (Upd.of_setCell _ ⟨R, 1, none⟩ _))⟩
        · have HJ2 := Lib.hid (show JR.bad 13 f = r2 from (if_neg he).symm.trans hJ)
          have hb : ((c.toNat : Int) != (((⟨#[92, 117]⟩ : ByteArray)[0]'(by decide)).toNat : Int)) = true := bne_of (byte_ne (d := (⟨#[92, 117]⟩ : ByteArray)[0]'(by decide)) he)
          clear HJ hJ hl he
          go_wp2_with fail
          refine hpk.mono ?_; rintro e w2 ⟨rfl, m, rfl⟩
          clear hpk
          go_wp2_with fail
          refine (dfail_c R s q2 13 f (by decide) (wr.drewN m) (HS.out.same rfl)).mono ?_; rintro e w3 ⟨rfl, hr, hu⟩
          have HQ := Lib.hid (And.intro hr hu)
          clear hr hu
          go_wp2
          go_ret
          have hR3 := HR3.out
          rw [← HJ2.out, jsec, jutf] at hR3
          exact dj_bad hR3 rfl HQ.out.1 ((HU.out.trans (Upd.of_below (below_drewN' _ _) _)).trans HQ.out.2)
    · obtain ⟨l, hl⟩ : ∃ l, s.data.toList.drop q2 = l := ⟨_, rfl⟩
      have hJ := HJ.out
      rw [hl] at hJ
      cases l with
      | nil =>
        have HJ2 := Lib.hid (show JR.bad 3 s.size = r2 from hJ)
        have hpk := dnext_e R s q2 hl wr HS.out
        clear HJ hJ hl
        go_wp2_with fail
        refine hpk.mono ?_; rintro e w2 ⟨rfl, hr, hu⟩
        have HQ := Lib.hid (And.intro hr hu)
        clear hr hu hpk
        go_wp2
        go_ret
        have hR3 := HR3.out
        rw [← HJ2.out, jsec, jutf] at hR3
        exact dj_bad hR3 rfl HQ.out.1 (HU.out.trans HQ.out.2)
      | cons c r =>
        have hpk := dnext_l R s q2 c r hl wr HS.out
        have HDP := Lib.hid (drop_parts hl)
        by_cases he : c = 117
        · have HJ2 := Lib.hid (show jlit s.size f (([92, 117] : List UInt8).drop (1 + 1)) (s.data.toList.drop (q2 + 1)) = r2 from by rw [HDP.out.2.1]; exact (if_pos he).symm.trans hJ)
          subst he
          clear HJ hJ hl
          go_wp2_with fail
          refine hpk.mono ?_; rintro e w2 ⟨rfl, m, rfl⟩
          clear hpk
          have h1 := HS.out.c1
          have f1 := HS.out.f1
          simp only at h1
          go_wp2
          go_roundg (gk - 1)
          case measure => omega
          case rel => exact ⟨1 + 1, q2 + 1, by go_num, by omega, by omega, by omega, HDP.out.1, HJ2, Lib.hid (HS.out.one rfl HDP.out.1), Lib.hid ((HU.out.trans (Upd.of_below (below_drewN' _ _) _)).trans (Upd.of_setCell _ ⟨R, 1, none⟩ _))⟩
        · have HJ2 := Lib.hid (show JR.bad 13 f = r2 from (if_neg he).symm.trans hJ)
          have hb : ((c.toNat : Int) != (((⟨#[92, 117]⟩ : ByteArray)[1]'(by decide)).toNat : Int)) = true := bne_of (byte_ne (d := (⟨#[92, 117]⟩ : ByteArray)[1]'(by decide)) he)
          clear HJ hJ hl he
          go_wp2_with fail
          refine hpk.mono ?_; rintro e w2 ⟨rfl, m, rfl⟩
          clear hpk
          go_wp2_with fail
          refine (dfail_c R s q2 13 f (by decide) (wr.drewN m) (HS.out.same rfl)).mono ?_; rintro e w3 ⟨rfl, hr, hu⟩
          have HQ := Lib.hid (And.intro hr hu)
          clear hr hu
          go_wp2
          go_ret
          have hR3 := HR3.out
          rw [← HJ2.out, jsec, jutf] at hR3
          exact dj_bad hR3 rfl HQ.out.1 ((HU.out.trans (Upd.of_below (below_drewN' _ _) _)).trans HQ.out.2)
    · have HJ2 := Lib.hid (show JR.ok () (s.data.toList.drop q2) = r2 from HJ.out)
      have hR3 := HR3.out
      rw [← HJ2.out, jsec] at hR3
      have hx2 := dfour_c R s q2 hs wr HS.out
      clear HJ HJ2 HR3
      cases h2 : jfour s.size 4 0 (s.data.toList.drop q2) with
      | bad er pl =>
        rw [h2] at hx2
        rw [h2, jlow, jutf] at hR3
        have HR4 := Lib.hid hR3
        clear hR3 h2
        go_wp2_with fail
        refine hx2.mono ?_; rintro e w2 ⟨v, rfl, rfl, hf, hu⟩
        have k2 := hf.c2
        have hne := hf.ne
        have hb : ((er : Int) != 0) = true := bne_of (by rw [beq_eq_false_iff_ne]; omega)
        have HQ := Lib.hid (And.intro hf hu)
        clear hx2 hf hu hne
        go_wp2
        go_ret
        exact dj_bad HR4.out rfl HQ.out.1 (HU.out.trans HQ.out.2)
      | ok m l2 =>
        rw [h2] at hx2
        rw [h2, jlow] at hR3
        have HR4 := Lib.hid hR3
        clear hR3 h2
        go_wp2_with fail
        refine hx2.mono ?_; rintro e w2 ⟨q3, v, rfl, ⟨rfl, hm⟩, rfl, hpq3, hqs3, hsr3, hu3⟩
        have k2 := hsr3.c2
        simp only at k2
        have HS3 := Lib.hid hsr3
        have HU3 := Lib.hid hu3
        clear hx2 hsr3 hu3
        rcases (show m < 56320 ∨ (56320 ≤ m ∧ m ≤ 57343) ∨ 57343 < m by omega) with k | k | k
        · have g4 : (m : Int) < 56320 := by omega
          have HR5 := Lib.hid ((congrArg jutf (if_pos (.inl k))).symm.trans HR4.out)
          have hfl := dfail_c R s q3 13 f (by decide) w2 HS3.out
          clear HR4 k hm
          go_wp2_with fail
          refine hfl.mono ?_; rintro e w3 ⟨rfl, hr, hu⟩
          have HQ := Lib.hid (And.intro hr hu)
          clear hr hu hfl
          go_wp2
          go_ret
          exact dj_bad (show JR.bad 13 f = res from HR5.out) rfl HQ.out.1 ((HU.out.trans HU3.out).trans HQ.out.2)
        · have g4 : decide ((m : Int) < 56320) = false := by rw [decide_eq_false_iff_not]; omega
          have g5 : decide ((57343 : Int) < (m : Int)) = false := by rw [decide_eq_false_iff_not]; omega
          have HR5 := Lib.hid ((congrArg jutf (if_neg (show ¬ (m < 56320 ∨ 57343 < m) by omega))).symm.trans HR4.out)
          have hut := dutf_c (65536 + (n - 55296) * 1024 + (m - 56320)) (by omega) w2
          rw [show ((65536 + (n - 55296) * 1024 + (m - 56320) : Nat) : Int) = 65536 + ((n : Int) - 55296) * 1024 + (m : Int) - 56320 by omega] at hut
          have HK := Lib.hid k
          clear HR4 hm
          go_wp2_with fail
          refine hut.mono ?_; rintro e w3 ⟨rfl, hb⟩
          have HB := Lib.hid hb
          clear hut hb
          go_wp2
          go_ret
          exact dj_ok HR5.out ⟨rfl, utfL_len _⟩ (Nat.le_trans hpq2 hpq3) (HS3.out.below HB.out) ((HU.out.trans HU3.out).trans (Upd.of_below HB.out _))
        · have g4 : decide ((m : Int) < 56320) = false := by rw [decide_eq_false_iff_not]; omega
          have g5 : (57343 : Int) < (m : Int) := by omega
          have HR5 := Lib.hid ((congrArg jutf (if_pos (.inr k))).symm.trans HR4.out)
          have hfl := dfail_c R s q3 13 f (by decide) w2 HS3.out
          clear HR4 k hm
          go_wp2_with fail
          refine hfl.mono ?_; rintro e w3 ⟨rfl, hr, hu⟩
          have HQ := Lib.hid (And.intro hr hu)
          clear hr hu hfl
          go_wp2
          go_ret
          exact dj_bad (show JR.bad 13 f = res from HR5.out) rfl HQ.out.1 ((HU.out.trans HU3.out).trans HQ.out.2)
theorem jesc_simple {N : Nat} {c : UInt8} {r : List UInt8} (h : c ≠ 117) : jesc N (c :: r) = if simpL c = [] then .bad 12 (N - (r.length + 1)) else .ok (simpL c) r := by
  rw [jesc]
  unfold simpL
  repeat' split
  all_goals first | rfl | (exfalso; simp_all; done) | simp_all
set_option maxRecDepth 20000 in
set_option maxHeartbeats 8000000 in
theorem desc_c (R : Nat) (s : ByteArray) (p : Nat) (c0 : UInt8) (l : List UInt8) (hl : s.data.toList.drop p = c0 :: l) (hs : s.size < 9223372036854775807) (w : World) (h : SrAt w R s ⟨p, 0, 0⟩) :
    Calls Tryd.prog 87 #[.pointer (some ⟨R, 0, none⟩)] w (dEsc R s (p + 1) w (jesc s.size l)) := by
  obtain ⟨hp, hd, hpl⟩ := drop_parts hl
  obtain ⟨res, hres⟩ : ∃ res, jesc s.size l = res := ⟨_, rfl⟩
  rw [hres]
  have h1 := h.c1
  have f1 := h.f1
  simp only at h1
  have HS := Lib.hid (h.one rfl hp)
  have HU := Lib.hid (Upd.of_setCell w ⟨R, 1, none⟩ (.int .i64 ((p : Int) + 1)))
  clear h hl
  cases l with
  | nil =>
    have HRES := Lib.hid hres
    have hpk := dnext_e R s (p + 1) hd _ HS.out
    clear hres hd
    go_enter Tryd.func87, Tryd.ntmps87
    go_wp2_with fail
    refine hpk.mono ?_; rintro e w1 ⟨rfl, hr, hu⟩
    have HQ := Lib.hid (And.intro hr hu)
    clear hr hu hpk
    go_wp2
    go_ret
    exact dj_bad HRES.out rfl HQ.out.1 (HU.out.trans HQ.out.2)
  | cons c r =>
    have hpk := dnext_l R s (p + 1) c r hd _ HS.out
    obtain ⟨hp2, hd2, hl2⟩ := drop_parts hd
    have HD := Lib.hid hd2
    have HL2 := Lib.hid hl2
    clear hd hd2 hl2
    by_cases hu : c = 117
    · subst hu
      have HRES := Lib.hid (show jutf (juni s.size p r) = res by rw [← hres, jesc]; simp only [List.length_cons] at hpl; rw [show s.size - (r.length + 2) = p by omega]; rfl)
      clear hres
      go_enter Tryd.func87, Tryd.ntmps87
      go_wp2_with fail
      refine hpk.mono ?_; rintro e w1 ⟨rfl, m, rfl⟩
      clear hpk
      have k1 := (HS.out.same (w' := (w.setCell ⟨R, 1, none⟩ (.int .i64 ((p : Int) + 1))).drewN m) rfl).c1
      have kf := (HS.out.same (w' := (w.setCell ⟨R, 1, none⟩ (.int .i64 ((p : Int) + 1))).drewN m) rfl).f1
      simp only at k1
      have HS2 := Lib.hid (HS.out.one (w2 := (w.setCell ⟨R, 1, none⟩ (.int .i64 ((p : Int) + 1))).drewN m) rfl hp2)
      have HU2 := Lib.hid ((HU.out.trans (Upd.of_below (below_drewN' _ m) _)).trans (Upd.of_setCell ((w.setCell ⟨R, 1, none⟩ (.int .i64 ((p : Int) + 1))).drewN m) ⟨R, 1, none⟩ (.int .i64 ((p + 1 : Nat) + 1 : Int))))
      have hx := dfour_c R s (p + 1 + 1) hs _ HS2.out
      rw [HD.out] at hx
      have hR := HRES.out
      unfold juni at hR
      clear HS HU HRES h1 f1
      cases h2 : jfour s.size 4 0 r with
      | bad er pl =>
        rw [h2] at hx
        rw [h2, jchr, jutf] at hR
        have HR4 := Lib.hid hR
        clear hR h2
        go_wp2_with fail
        refine hx.mono ?_; rintro e w2 ⟨v, rfl, rfl, hf, hu⟩
        have k2 := hf.c2
        have hne := hf.ne
        have hb : ((er : Int) != 0) = true := bne_of (by rw [beq_eq_false_iff_ne]; omega)
        have HQ := Lib.hid (And.intro hf hu)
        clear hx hf hu hne k1 kf
        go_wp2
        go_ret
        exact dj_bad HR4.out rfl HQ.out.1 (HU2.out.trans HQ.out.2)
      | ok n l2 =>
        rw [h2] at hx
        rw [h2, jchr] at hR
        have HR4 := Lib.hid hR
        clear hR h2
        go_wp2_with fail
        refine hx.mono ?_; rintro e w2 ⟨q, v, rfl, ⟨rfl, hn⟩, rfl, hpq, hqs, hsr, hu⟩
        have k2 := hsr.c2
        simp only at k2
        have HS3 := Lib.hid hsr
        have HU3 := Lib.hid (HU2.out.trans hu)
        clear hx hsr hu k1 kf HS2 HU2
        rcases (show n < 55296 ∨ (55296 ≤ n ∧ n < 56320) ∨ (56320 ≤ n ∧ n ≤ 57343) ∨ 57343 < n by omega) with k | k | k | k
        · have g1 : decide ((56320 : Int) ≤ (n : Int)) = false := by rw [decide_eq_false_iff_not]; omega
          have g2 : (n : Int) < 55296 := by omega
          have HR5 := Lib.hid ((congrArg jutf (if_pos (.inl k))).symm.trans HR4.out)
          have hut := dutf_c n (by omega) w2
          clear HR4 k
          go_wp2_with fail
          refine hut.mono ?_; rintro e w3 ⟨rfl, hb⟩
          have HB := Lib.hid hb
          clear hut hb
          go_wp2
          go_ret
          exact dj_ok HR5.out ⟨rfl, utfL_len _⟩ (by omega) (HS3.out.below HB.out) (HU3.out.trans (Upd.of_below HB.out _))
        · have g1 : decide ((56320 : Int) ≤ (n : Int)) = false := by rw [decide_eq_false_iff_not]; omega
          have g2 : decide ((n : Int) < 55296) = false := by rw [decide_eq_false_iff_not]; omega
          have g3 : decide ((56319 : Int) < (n : Int)) = false := by rw [decide_eq_false_iff_not]; omega
          have HR5 := Lib.hid ((congrArg jutf ((if_neg (show ¬ (n < 55296 ∨ 57343 < n) by omega)).trans (if_neg (show ¬ 56320 ≤ n by omega)))).symm.trans HR4.out)
          have hse := dsecond_c R s q p n hs k w2 HS3.out
          rw [HR5.out] at hse
          clear HR4 HR5
          go_wp2_with fail
          refine hse.mono ?_; rintro e w3 hd
          cases res with
          | bad er pl =>
            obtain ⟨v, rfl, rfl, hf, hu⟩ := hd
            have HQ := Lib.hid (And.intro hf hu)
            clear hf hu hse
            go_wp2
            go_ret
            exact dj_bad rfl rfl HQ.out.1 (HU3.out.trans HQ.out.2)
          | ok x l3 =>
            obtain ⟨q3, v, rfl, ⟨rfl, hx⟩, rfl, hpq3, hqs3, hsr3, hu3⟩ := hd
            have HQ := Lib.hid (And.intro hsr3 hu3)
            clear hsr3 hu3 hse
            go_wp2
            go_ret
            exact dj_ok rfl ⟨rfl, hx⟩ (by omega) HQ.out.1 (HU3.out.trans HQ.out.2)
        · have g1 : (56320 : Int) ≤ (n : Int) := by omega
          have g2 : (n : Int) ≤ 57343 := by omega
          have HR5 := Lib.hid ((congrArg jutf ((if_neg (show ¬ (n < 55296 ∨ 57343 < n) by omega)).trans (if_pos k.1))).symm.trans HR4.out)
          have hfl := dfail_c R s q 13 p (by decide) w2 HS3.out
          clear HR4 k
          go_wp2_with fail
          refine hfl.mono ?_; rintro e w3 ⟨rfl, hr, hu⟩
          have HQ := Lib.hid (And.intro hr hu)
          clear hr hu hfl
          go_wp2
          go_ret
          exact dj_bad (show JR.bad 13 p = res from HR5.out) rfl HQ.out.1 (HU3.out.trans HQ.out.2)
        · have g1 : (56320 : Int) ≤ (n : Int) := by omega
          have g2 : decide ((n : Int) ≤ 57343) = false := by rw [decide_eq_false_iff_not]; omega
          have g3 : decide ((n : Int) < 55296) = false := by rw [decide_eq_false_iff_not]; omega
          have g4 : (56319 : Int) < (n : Int) := by omega
          have HR5 := Lib.hid ((congrArg jutf (if_pos (.inr k))).symm.trans HR4.out)
          have hut := dutf_c n (by omega) w2
          clear HR4 k
          go_wp2_with fail
          refine hut.mono ?_; rintro e w3 ⟨rfl, hb⟩
          have HB := Lib.hid hb
          clear hut hb
          go_wp2
          go_ret
          exact dj_ok HR5.out ⟨rfl, utfL_len _⟩ (by omega) (HS3.out.below HB.out) (HU3.out.trans (Upd.of_below HB.out _))
    · rw [jesc_simple hu, HL2.out] at hres
      have hb : ((c.toNat : Int) != 117) = true := bne_of (byte_ne (d := 117) hu)
      have hsi := fun (W : World) => dsimple_c c W
      by_cases hz : simpL c = []
      · have HRES := Lib.hid ((if_pos hz).symm.trans hres)
        rw [hz] at hsi
        clear hres hz hu
        go_enter Tryd.func87, Tryd.ntmps87
        go_wp2_with fail
        refine hpk.mono ?_; rintro e w1 ⟨rfl, m, rfl⟩
        clear hpk
        go_wp2_with fail
        refine (hsi ((w.setCell ⟨R, 1, none⟩ (.int .i64 ((p : Int) + 1))).drewN m)).mono ?_; rintro e w2 ⟨rfl, hb2⟩
        have hS2 := (HS.out.same (w' := (w.setCell ⟨R, 1, none⟩ (.int .i64 ((p : Int) + 1))).drewN m) rfl).below hb2
        have k1 := hS2.c1
        simp only at k1
        have HU2 := Lib.hid ((HU.out.trans (Upd.of_below (below_drewN' _ m) _)).trans (Upd.of_below hb2 _))
        have hfl := dfail_c R s (p + 1) 12 (p + 1) (by decide) w2 hS2
        clear hS2 hb2 hsi HS HU h1 f1
        go_wp2_with fail
        refine hfl.mono ?_; rintro e w3 ⟨rfl, hr, hu⟩
        obtain ⟨z, kz⟩ := hr.c1
        have kf := hr.f1
        have HQ := Lib.hid (And.intro (hr.go (wrap64 (z + 1))) (hu.trans (Upd.of_setCell w3 ⟨R, 1, none⟩ (.int .i64 (wrap64 (z + 1))))))
        clear hr hu hfl k1
        go_wp2
        go_ret
        exact dj_bad HRES.out rfl HQ.out.1 (HU2.out.trans HQ.out.2)
      · have HRES := Lib.hid ((if_neg hz).symm.trans hres)
        have HZ : ∃ y, simpL c = [y] := by
          unfold simpL at hz ⊢
          repeat' split at hz
          all_goals first | exact absurd rfl hz | skip
          all_goals repeat' split
          all_goals first | exact ⟨_, rfl⟩ | simp_all
        obtain ⟨y, hy⟩ := HZ
        rw [hy] at hsi
        have HRS := Lib.hid (show JR.ok [y] r = res by rw [← hy]; exact HRES.out)
        clear hres hz hu HRES hy
        go_enter Tryd.func87, Tryd.ntmps87
        go_wp2_with fail
        refine hpk.mono ?_; rintro e w1 ⟨rfl, m, rfl⟩
        clear hpk
        go_wp2_with fail
        refine (hsi ((w.setCell ⟨R, 1, none⟩ (.int .i64 ((p : Int) + 1))).drewN m)).mono ?_; rintro e w2 ⟨rfl, hb2⟩
        have hS2 := (HS.out.same (w' := (w.setCell ⟨R, 1, none⟩ (.int .i64 ((p : Int) + 1))).drewN m) rfl).below hb2
        have k1 := hS2.c1
        have kf := hS2.f1
        simp only at k1
        have HU2 := Lib.hid (((HU.out.trans (Upd.of_below (below_drewN' _ m) _)).trans (Upd.of_below hb2 _)).trans (Upd.of_setCell w2 ⟨R, 1, none⟩ (.int .i64 (((p + 1 : Nat) : Int) + 1))))
        have HS2 := Lib.hid (hS2.one (w2 := w2) rfl hp2)
        clear hS2 hb2 hsi HS HU h1 f1
        go_wp2
        go_ret
        exact dj_ok (show JR.ok [y] (s.data.toList.drop (p + 1 + 1)) = res by rw [HD.out]; exact HRS.out) ⟨rfl, by simp⟩ (by omega) HS2.out HU2.out
end Go.Proofs.YtbkbokfegjodnaaDoor
