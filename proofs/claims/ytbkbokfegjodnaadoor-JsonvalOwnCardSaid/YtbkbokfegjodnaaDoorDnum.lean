/- The walk of the document reader's number. Conditions: a text has less than 2 to the 44 bytes. -/
import Derived.Test.YtbkbokfegjodnaaDoorDrd
import Derived.Test.YtbkbokfegjodnaaDoorMemory
import Derived.Test.YtbkbokfegjodnaaDoorRda
namespace Go.Proofs.YtbkbokfegjodnaaDoor
open Go.RowKit
/-- the digits that are read -/
def NumIn (s : ByteArray) (c : UInt8) (q0 V : Nat) (rest : List UInt8) (q v n : Nat) (wd : Bool) : Prop :=
  q0 ≤ q ∧ q ≤ s.size ∧ (if c = 48 then q = q0 ∧ v = 0 ∧ V = 0 ∧ rest = s.data.toList.drop (q0 + 1) ∧ s.data.toList.drop q = 48 :: rest else decF v (jdg (s.data.toList.drop q)).1 = V ∧ (jdg (s.data.toList.drop q)).2 = rest) ∧
  ((wd = false ∧ n = v ∧ v ≤ 9223372036854775808) ∨ (wd = true ∧ 9223372036854775808 < v ∧ n ≤ 9223372036854775808 ∧ 0 < n))
theorem num_wide {A n d : Nat} (hd : d < 10) (hA : 10 ≤ A) : (A - d) / 10 < n ↔ A < 10 * n + d := by omega
theorem decF_cons (v : Nat) (c : UInt8) (l : List UInt8) : decF v (c :: l) = decF (10 * v + (c.toNat - 48)) l := by unfold decF; rw [List.foldl_cons]
theorem numEnd_bad {N f : Nat} {m : Bool} {v : Nat} {r : List UInt8} (h : (m = true ∧ 9223372036854775808 < v) ∨ (m = false ∧ 9223372036854775808 ≤ v)) : jnumEnd N f m v r = .bad 15 f := by
  unfold jnumEnd; rw [if_pos h]
theorem numEnd_nil {N f : Nat} {m : Bool} {v : Nat} (h : ¬ ((m = true ∧ 9223372036854775808 < v) ∨ (m = false ∧ 9223372036854775808 ≤ v))) : jnumEnd N f m v [] = .ok (if m then -(v : Int) else v) [] := by
  unfold jnumEnd; rw [if_neg h]
theorem numEnd_cons {N f : Nat} {m : Bool} {v : Nat} {c : UInt8} {r : List UInt8} (h : ¬ ((m = true ∧ 9223372036854775808 < v) ∨ (m = false ∧ 9223372036854775808 ≤ v))) : jnumEnd N f m v (c :: r) = if c = 46 ∨ c = 101 ∨ c = 69 then .bad 14 (N - (r.length + 1)) else .ok (if m then -(v : Int) else v) (c :: r) := by
  unfold jnumEnd; rw [if_neg h]
theorem jdg_yes {c : UInt8} {r : List UInt8} (h : isDg c = true) : jdg (c :: r) = (c :: (jdg r).1, (jdg r).2) := by rw [jdg, if_pos h]
theorem jdg_no {c : UInt8} {r : List UInt8} (h : isDg c = false) : jdg (c :: r) = ([], c :: r) := by rw [jdg, if_neg (by rw [h]; decide)]
theorem pos_back {n : Nat} (h : n < 9223372036854775808) : wrap64 (n : Int) = (n : Int) := by simp [wrap64]; omega
theorem neg_back {n : Nat} (h : n ≤ 9223372036854775808) : wrap64 (IntKind.u64.wrap (-(n : Int))) = -(n : Int) := by
  simp [wrap64, IntKind.wrap, IntKind.signed, IntKind.bits]
  omega
/-- what a number comes to -/
def dNum (R : Nat) (s : ByteArray) (p : Nat) (w : World) (res : JR Int) (e : Ending) (w' : World) : Prop := DJ R s w p (fun (n : Int) v _ => v = .int .i64 n ∧ (-9223372036854775808 ≤ n ∧ n ≤ 9223372036854775807)) (fun v _ => v = .int .i64 0) res e w'
set_option maxRecDepth 20000 in
set_option maxHeartbeats 8000000 in
theorem dnumT_c (R : Nat) (s : ByteArray) (p : Nat) (c0 : UInt8) (l : List UInt8) (hl : s.data.toList.drop p = c0 :: l) (hs : s.size < 17592186044416) (hm : c0 = 45) (w : World) (h : SrAt w R s ⟨p, 0, 0⟩) :
    Calls Tryd.prog 69 #[.pointer (some ⟨R, 0, none⟩)] w (dNum R s p w (jnumA s.size p true l)) := by
  obtain ⟨hp, hd, _⟩ := drop_parts hl
  have hs0 : s[p] = c0 := by have h := hl; rw [rest_cons hp] at h; injection h
  obtain ⟨res, hres⟩ : ∃ res, jnumA s.size p true l = res := ⟨_, rfl⟩
  rw [hres]
  have h0 := h.c0
  have h1 := h.c1
  have h2 := h.c2
  have f1 := h.f1
  simp only at h1 h2
  have hlt0 : (p : Int) < (s.size : Int) := by omega
  have H := Lib.hid h
  have m45 : ((s[p].toNat : Int) == 45) = true := byte_eq (d := 45) (hs0.trans hm)
  clear h hs0 hm
  go_enter Tryd.func69, Tryd.ntmps69
  go_wp2
  go_big_quiet (fail)
  go_wp2_with fail
  have HS0 := Lib.hid (H.out.one (w2 := w.drewN nq) rfl hp)
  have HU0 := Lib.hid ((Upd.of_below (below_drewN' w nq) (some R)).trans (Upd.of_setCell (w.drewN nq) ⟨R, 1, none⟩ (.int .i64 ((p : Int) + 1))))
  generalize (w.drewN nq).setCell ⟨R, 1, none⟩ (.int .i64 ((p : Int) + 1)) = W0 at *
  clear h0 h1 h2 f1 H hl
  obtain ⟨q0, hq0⟩ : ∃ x, p + 1 = x := ⟨_, rfl⟩
  rw [hq0] at HS0 hd
  have hpq0 : p ≤ q0 := by omega
  have hq0s : q0 ≤ s.size := by omega
  obtain ⟨L, hL⟩ : ∃ x, l = x := ⟨_, rfl⟩
  subst hL
  cases l with
  | nil =>
    have HB := Lib.hid (show JR.bad 3 s.size = res from hres)
    refine (dnext_e R s q0 hd W0 HS0.out).mono ?_; rintro e w1 ⟨rfl, hr, hu⟩
    have k2 := hr.c2
    have HQ := Lib.hid (And.intro hr (HU0.out.trans hu))
    clear hr hu
    go_wp2
    go_ret
    exact dj_bad HB.out rfl HQ.out.1 HQ.out.2
  | cons c r =>
    rw [jnumA] at hres
    obtain ⟨hq1, hd1, hl1⟩ := drop_parts hd
    rw [hl1] at hres
    refine (dnext_l R s q0 c r hd W0 HS0.out).mono ?_; rintro e w1 ⟨rfl, mm, rfl⟩
    have HS1 := Lib.hid (HS0.out.same (w' := W0.drewN mm) rfl)
    have HU1 := Lib.hid (HU0.out.trans (Upd.of_below (below_drewN' W0 mm) _))
    clear HS0 HU0
    generalize W0.drewN mm = W1 at *
    have h1 := HS1.out.c1
    have h2 := HS1.out.c2
    simp only at h1 h2
    cases hdg : isDg c with
    | false =>
      have HB := Lib.hid (show JR.bad 10 q0 = res from by rw [hdg] at hres; exact hres)
      have hfl := dfail_c R s q0 10 q0 (by decide) W1 HS1.out
      rcases (show c.toNat < 48 ∨ 57 < c.toNat from by simp [isDg] at hdg; omega) with k | k
      · have g1 : (c.toNat : Int) < 48 := by omega
        clear hdg hres k h2
        go_wp2_with fail
        refine hfl.mono ?_; rintro e w2 ⟨rfl, hr, hu⟩
        have k2 := hr.c2
        have HQ := Lib.hid (And.intro hr (HU1.out.trans hu))
        clear hr hu hfl
        go_wp2
        go_ret
        exact dj_bad HB.out rfl HQ.out.1 HQ.out.2
      · have g1 : decide ((c.toNat : Int) < 48) = false := by rw [decide_eq_false_iff_not]; omega
        have g2 : (57 : Int) < (c.toNat : Int) := by omega
        clear hdg hres k h2
        go_wp2_with fail
        refine hfl.mono ?_; rintro e w2 ⟨rfl, hr, hu⟩
        have k2 := hr.c2
        have HQ := Lib.hid (And.intro hr (HU1.out.trans hu))
        clear hr hu hfl
        go_wp2
        go_ret
        exact dj_bad HB.out rfl HQ.out.1 HQ.out.2
    | true =>
      have hre : jnumEnd s.size p true (decL (jds (c :: r)).1) (jds (c :: r)).2 = res := by rw [hdg] at hres; exact hres
      have hk : 48 ≤ c.toNat ∧ c.toNat ≤ 57 := by simpa [isDg] using hdg
      have HIN := Lib.hid (show NumIn s c q0 (decL (jds (c :: r)).1) (jds (c :: r)).2 q0 0 0 false from by
        refine ⟨Nat.le_refl _, hq0s, ?_, .inl ⟨rfl, rfl, by omega⟩⟩
        by_cases h48 : c = 48
        · rw [if_pos h48, jds, if_pos h48]
          exact ⟨rfl, rfl, rfl, hd1.symm, by rw [hd, h48]⟩
        · rw [if_neg h48, hd, jds, if_neg h48, jdg_yes hdg]
          exact ⟨rfl, rfl⟩)
      generalize decL (jds (c :: r)).1 = V at *
      generalize (jds (c :: r)).2 = rest at *
      have HRE := Lib.hid hre
      have hg1 : decide ((c.toNat : Int) < 48) = false := by rw [decide_eq_false_iff_not]; omega
      have hg2 : decide ((57 : Int) < (c.toNat : Int)) = false := by rw [decide_eq_false_iff_not]; omega
      have HSU := Lib.hid (And.intro HS1.out HU1.out)
      have HK := Lib.hid hk
      clear hre hres hdg hd hd1 hl1 h1 HS1 HU1 hk
      go_wp2
      clear h2 hg1 hg2
      go_loopg [7, 8, 9] (s.size + 1) (fun gk nv wv _ wr => ∃ (q v n : Nat) (wd : Bool), nv = .int .u64 n ∧ wv = .bool wd ∧ s.size - q < gk ∧ Hid (NumIn s c q0 V rest q v n wd) ∧ Hid (SrAt wr R s ⟨q, 0, 0⟩ ∧ Upd w wr (some R) (some R)))
      case atStart => exact ⟨q0, 0, 0, false, rfl, rfl, by omega, HIN, HSU⟩
      case round =>
        clear HIN HSU
        obtain ⟨q, v, n, wd, rfl, rfl, hgk, HIN, HSU⟩ := hrel
        obtain ⟨hqq, hqs, hif, hnw⟩ := HIN.out
        have h0 := HSU.out.1.c0
        have h1 := HSU.out.1.c1
        have f1 := HSU.out.1.f1
        simp only at h1
        obtain ⟨W, hW⟩ : ∃ x, x = wr := ⟨wr, rfl⟩
        subst hW
        have hpq : p ≤ q := by omega
        have HS := Lib.hid HSU.out.1
        have HU := Lib.hid HSU.out.2
        clear HIN HSU
        obtain ⟨ly, hly⟩ : ∃ x, s.data.toList.drop q = x := ⟨_, rfl⟩
        cases ly with
        | nil =>
          have hlt : ¬ q < s.size := drop_none hly
          have hd : decide ((q : Int) < (s.size : Int)) = false := by rw [decide_eq_false_iff_not]; omega
          have HE := Lib.hid (show jnumEnd s.size p true v (s.data.toList.drop q) = res from by
            rw [hly] at hif ⊢
            by_cases h48 : c = 48
            · rw [if_pos h48] at hif; cases hif.2.2.2.2
            · rw [if_neg h48] at hif; rw [← HRE.out, ← hif.1, ← hif.2]; rfl)
          clear hif HRE f1
          go_wp2
          go_big_quiet (fail)
          have HS := Lib.hid (HS.out.same (w' := W.drewN nq) rfl)
          have HU := Lib.hid (HU.out.trans (Upd.of_below (below_drewN' W nq) _))
          generalize W.drewN nq = W at *
          clear h0 h1
          rcases hnw with ⟨rfl, rfl, hv⟩ | ⟨rfl, hv, hn9, hn0⟩
          case inr =>
            have HB := Lib.hid (show JR.bad 15 p = res from by rw [← HE.out, numEnd_bad (.inl ⟨rfl, hv⟩)])
            have hfl := dfail_c R s q 15 p (by decide) W HS.out
            clear HE
            go_wp2_with fail
            refine hfl.mono ?_; rintro e wz ⟨rfl, hr, hu⟩
            have HQ := Lib.hid (And.intro hr hu)
            clear hr hu hfl
            go_wp2
            go_ret
            exact dj_bad HB.out rfl HQ.out.1 (HU.out.trans HQ.out.2)
          case inl =>
          have hnb : ¬ ((true = true ∧ 9223372036854775808 < n) ∨ (true = false ∧ 9223372036854775808 ≤ n)) := by simp; omega
          have hbb : -9223372036854775808 ≤ -(n : Int) ∧ -(n : Int) ≤ 9223372036854775807 := by omega
          have HCV := Lib.hid (neg_back (n := n) hv)
          have h0 := HS.out.c0
          have h1 := HS.out.c1
          simp only at h1
          have hE := HE.out
          have hlx := hly
          rw [hlx] at hE
          clear HE
          have HB := Lib.hid (show JR.ok (-(n : Int)) (s.data.toList.drop q) = res from by rw [hlx, ← hE, numEnd_nil hnb]; rfl)
          have hd : decide ((q : Int) < (s.size : Int)) = false := by rw [decide_eq_false_iff_not]; omega
          clear hlx hE hnb
          go_wp2
          go_big_quiet (fail)
          go_wp2
          go_ret
          exact dj_ok HB.out ⟨congrArg (Value.int .i64) HCV.out, hbb⟩ hpq (HS.out.same rfl) (HU.out.trans (Upd.of_below (below_drewN' W _) _))
        | cons b rb =>
          obtain ⟨hlt, hdb, _⟩ := drop_parts hly
          have HSB := Lib.hid (show s[q] = b by have h := hly; rw [rest_cons hlt] at h; injection h)
          have hd : (q : Int) < (s.size : Int) := by omega
          cases hbd : isDg b with
          | false =>
            have HE := Lib.hid (show jnumEnd s.size p true v (s.data.toList.drop q) = res from by
              rw [hly] at hif ⊢
              by_cases h48 : c = 48
              · rw [if_pos h48] at hif
                have := hif.2.2.2.2
                injection this with h1 _
                rw [h1] at hbd
                cases hbd
              · rw [if_neg h48, jdg_no hbd] at hif; rw [← HRE.out, ← hif.1, ← hif.2]; rfl)
            rcases (show b.toNat < 48 ∨ (48 ≤ b.toNat ∧ 57 < b.toNat) from by simp [isDg] at hbd; omega) with k | k
            · have g1 : decide ((48 : Int) ≤ (s[q].toNat : Int)) = false := by rw [decide_eq_false_iff_not, HSB.out]; omega
              clear hif HRE f1 hbd k
              go_wp2
              go_big_quiet (fail)
              have HS := Lib.hid (HS.out.same (w' := W.drewN nq) rfl)
              have HU := Lib.hid (HU.out.trans (Upd.of_below (below_drewN' W nq) _))
              generalize W.drewN nq = W at *
              clear h0 h1
              rcases hnw with ⟨rfl, rfl, hv⟩ | ⟨rfl, hv, hn9, hn0⟩
              case inr =>
                have HB := Lib.hid (show JR.bad 15 p = res from by rw [← HE.out, numEnd_bad (.inl ⟨rfl, hv⟩)])
                have hfl := dfail_c R s q 15 p (by decide) W HS.out
                clear HE
                go_wp2_with fail
                refine hfl.mono ?_; rintro e wz ⟨rfl, hr, hu⟩
                have HQ := Lib.hid (And.intro hr hu)
                clear hr hu hfl
                go_wp2
                go_ret
                exact dj_bad HB.out rfl HQ.out.1 (HU.out.trans HQ.out.2)
              case inl =>
              have hnb : ¬ ((true = true ∧ 9223372036854775808 < n) ∨ (true = false ∧ 9223372036854775808 ≤ n)) := by simp; omega
              have hbb : -9223372036854775808 ≤ -(n : Int) ∧ -(n : Int) ≤ 9223372036854775807 := by omega
              have HCV := Lib.hid (neg_back (n := n) hv)
              have h0 := HS.out.c0
              have h1 := HS.out.c1
              simp only at h1
              have hE := HE.out
              have hlx := hly
              rw [hlx] at hE
              clear HE
              obtain ⟨_, _, hrl⟩ := drop_parts hlx
              have hcx : s[q] = b := HSB.out
              rw [numEnd_cons hnb, hrl] at hE
              by_cases e46 : b = 46
              · have HB := Lib.hid ((if_pos (.inl e46)).symm.trans hE)
                have m46 : ((s[q].toNat : Int) == 46) = true := byte_eq (d := 46) (hcx.trans e46)
                clear hlx hE hnb hcx hrl
                go_wp2
                go_big_quiet (fail)
                have h1 := (HS.out.same (w' := W.drewN nq) rfl).c1
                simp only at h1
                go_wp2_with fail
                refine (dfail_c R s q 14 q (by decide) (W.drewN nq) (HS.out.same rfl)).mono ?_; rintro e wz ⟨rfl, hr, hu⟩
                have HQ := Lib.hid (And.intro hr hu)
                clear hr hu
                go_wp2
                go_ret
                exact dj_bad HB.out rfl HQ.out.1 ((HU.out.trans (Upd.of_below (below_drewN' W nq) _)).trans HQ.out.2)
              have m46 : ((s[q].toNat : Int) == 46) = false := byte_ne (d := 46) (by rw [hcx]; exact e46)
              by_cases e101 : b = 101
              · have HB := Lib.hid ((if_pos (.inr (.inl e101))).symm.trans hE)
                have m101 : ((s[q].toNat : Int) == 101) = true := byte_eq (d := 101) (hcx.trans e101)
                clear hlx hE hnb hcx hrl
                go_wp2
                go_big_quiet (fail)
                have h1 := (HS.out.same (w' := W.drewN nq) rfl).c1
                simp only at h1
                go_wp2_with fail
                refine (dfail_c R s q 14 q (by decide) (W.drewN nq) (HS.out.same rfl)).mono ?_; rintro e wz ⟨rfl, hr, hu⟩
                have HQ := Lib.hid (And.intro hr hu)
                clear hr hu
                go_wp2
                go_ret
                exact dj_bad HB.out rfl HQ.out.1 ((HU.out.trans (Upd.of_below (below_drewN' W nq) _)).trans HQ.out.2)
              have m101 : ((s[q].toNat : Int) == 101) = false := byte_ne (d := 101) (by rw [hcx]; exact e101)
              by_cases e69 : b = 69
              · have HB := Lib.hid ((if_pos (.inr (.inr e69))).symm.trans hE)
                have m69 : ((s[q].toNat : Int) == 69) = true := byte_eq (d := 69) (hcx.trans e69)
                clear hlx hE hnb hcx hrl
                go_wp2
                go_big_quiet (fail)
                have h1 := (HS.out.same (w' := W.drewN nq) rfl).c1
                simp only at h1
                go_wp2_with fail
                refine (dfail_c R s q 14 q (by decide) (W.drewN nq) (HS.out.same rfl)).mono ?_; rintro e wz ⟨rfl, hr, hu⟩
                have HQ := Lib.hid (And.intro hr hu)
                clear hr hu
                go_wp2
                go_ret
                exact dj_bad HB.out rfl HQ.out.1 ((HU.out.trans (Upd.of_below (below_drewN' W nq) _)).trans HQ.out.2)
              have m69 : ((s[q].toNat : Int) == 69) = false := byte_ne (d := 69) (by rw [hcx]; exact e69)
              have HB := Lib.hid (show JR.ok (-(n : Int)) (s.data.toList.drop q) = res from by rw [hlx]; exact (if_neg (show ¬ (b = 46 ∨ b = 101 ∨ b = 69) from fun h => h.elim e46 (fun h => h.elim e101 e69))).symm.trans hE)
              clear hlx hE hnb e46 e101 e69 hcx hrl
              go_wp2
              go_big_quiet (fail)
              go_wp2
              go_ret
              exact dj_ok HB.out ⟨congrArg (Value.int .i64) HCV.out, hbb⟩ hpq (HS.out.same rfl) (HU.out.trans (Upd.of_below (below_drewN' W _) _))
            · have g1 : (48 : Int) ≤ (s[q].toNat : Int) := by rw [HSB.out]; omega
              have g2 : ¬ ((s[q].toNat : Int) ≤ (57 : Int)) := by rw [HSB.out]; omega
              have g2n : ¬ (s[q].toNat ≤ 57) := by rw [HSB.out]; omega
              clear hif HRE f1 hbd k
              go_wp2
              go_big_quiet (fail)
              have HS := Lib.hid (HS.out.same (w' := W.drewN nq) rfl)
              have HU := Lib.hid (HU.out.trans (Upd.of_below (below_drewN' W nq) _))
              generalize W.drewN nq = W at *
              clear h0 h1
              rcases hnw with ⟨rfl, rfl, hv⟩ | ⟨rfl, hv, hn9, hn0⟩
              case inr =>
                have HB := Lib.hid (show JR.bad 15 p = res from by rw [← HE.out, numEnd_bad (.inl ⟨rfl, hv⟩)])
                have hfl := dfail_c R s q 15 p (by decide) W HS.out
                clear HE
                go_wp2_with fail
                refine hfl.mono ?_; rintro e wz ⟨rfl, hr, hu⟩
                have HQ := Lib.hid (And.intro hr hu)
                clear hr hu hfl
                go_wp2
                go_ret
                exact dj_bad HB.out rfl HQ.out.1 (HU.out.trans HQ.out.2)
              case inl =>
              have hnb : ¬ ((true = true ∧ 9223372036854775808 < n) ∨ (true = false ∧ 9223372036854775808 ≤ n)) := by simp; omega
              have hbb : -9223372036854775808 ≤ -(n : Int) ∧ -(n : Int) ≤ 9223372036854775807 := by omega
              have HCV := Lib.hid (neg_back (n := n) hv)
              have h0 := HS.out.c0
              have h1 := HS.out.c1
              simp only at h1
              have hE := HE.out
              have hlx := hly
              rw [hlx] at hE
              clear HE
              obtain ⟨_, _, hrl⟩ := drop_parts hlx
              have hcx : s[q] = b := HSB.out
              rw [numEnd_cons hnb, hrl] at hE
              by_cases e46 : b = 46
              · have HB := Lib.hid ((if_pos (.inl e46)).symm.trans hE)
                have m46 : ((s[q].toNat : Int) == 46) = true := byte_eq (d := 46) (hcx.trans e46)
                clear hlx hE hnb hcx hrl
                go_wp2
                go_big_quiet (fail)
                have h1 := (HS.out.same (w' := W.drewN nq) rfl).c1
                simp only at h1
                go_wp2_with fail
                refine (dfail_c R s q 14 q (by decide) (W.drewN nq) (HS.out.same rfl)).mono ?_; rintro e wz ⟨rfl, hr, hu⟩
                have HQ := Lib.hid (And.intro hr hu)
                clear hr hu
                go_wp2
                go_ret
                exact dj_bad HB.out rfl HQ.out.1 ((HU.out.trans (Upd.of_below (below_drewN' W nq) _)).trans HQ.out.2)
              have m46 : ((s[q].toNat : Int) == 46) = false := byte_ne (d := 46) (by rw [hcx]; exact e46)
              by_cases e101 : b = 101
              · have HB := Lib.hid ((if_pos (.inr (.inl e101))).symm.trans hE)
                have m101 : ((s[q].toNat : Int) == 101) = true := byte_eq (d := 101) (hcx.trans e101)
                clear hlx hE hnb hcx hrl
                go_wp2
                go_big_quiet (fail)
                have h1 := (HS.out.same (w' := W.drewN nq) rfl).c1
                simp only at h1
                go_wp2_with fail
                refine (dfail_c R s q 14 q (by decide) (W.drewN nq) (HS.out.same rfl)).mono ?_; rintro e wz ⟨rfl, hr, hu⟩
                have HQ := Lib.hid (And.intro hr hu)
                clear hr hu
                go_wp2
                go_ret
                exact dj_bad HB.out rfl HQ.out.1 ((HU.out.trans (Upd.of_below (below_drewN' W nq) _)).trans HQ.out.2)
              have m101 : ((s[q].toNat : Int) == 101) = false := byte_ne (d := 101) (by rw [hcx]; exact e101)
              by_cases e69 : b = 69
              · have HB := Lib.hid ((if_pos (.inr (.inr e69))).symm.trans hE)
                have m69 : ((s[q].toNat : Int) == 69) = true := byte_eq (d := 69) (hcx.trans e69)
                clear hlx hE hnb hcx hrl
                go_wp2
                go_big_quiet (fail)
                have h1 := (HS.out.same (w' := W.drewN nq) rfl).c1
                simp only at h1
                go_wp2_with fail
                refine (dfail_c R s q 14 q (by decide) (W.drewN nq) (HS.out.same rfl)).mono ?_; rintro e wz ⟨rfl, hr, hu⟩
                have HQ := Lib.hid (And.intro hr hu)
                clear hr hu
                go_wp2
                go_ret
                exact dj_bad HB.out rfl HQ.out.1 ((HU.out.trans (Upd.of_below (below_drewN' W nq) _)).trans HQ.out.2)
              have m69 : ((s[q].toNat : Int) == 69) = false := byte_ne (d := 69) (by rw [hcx]; exact e69)
              have HB := Lib.hid (show JR.ok (-(n : Int)) (s.data.toList.drop q) = res from by rw [hlx]; exact (if_neg (show ¬ (b = 46 ∨ b = 101 ∨ b = 69) from fun h => h.elim e46 (fun h => h.elim e101 e69))).symm.trans hE)
              clear hlx hE hnb e46 e101 e69 hcx hrl
              go_wp2
              go_big_quiet (fail)
              go_wp2
              go_ret
              exact dj_ok HB.out ⟨congrArg (Value.int .i64) HCV.out, hbb⟩ hpq (HS.out.same rfl) (HU.out.trans (Upd.of_below (below_drewN' W _) _))
          | true =>
            have hk : 48 ≤ b.toNat ∧ b.toNat ≤ 57 := by simpa [isDg] using hbd
            have hsn : (s[q].toNat : Int) = (b.toNat : Int) := by rw [HSB.out]
            have g1 : (48 : Int) ≤ (s[q].toNat : Int) := by omega
            have g2 : (s[q].toNat : Int) ≤ (57 : Int) := by omega
            have hn9 : n ≤ 9223372036854775808 := by rcases hnw with h | h <;> omega
            have w1 : IntKind.u64.wrap (9223372036854775808 - ((s[q].toNat : Int) - 48)) = 9223372036854775808 - ((s[q].toNat : Int) - 48) := by rw [IntKind.wrap_u64]; omega
            have w2 : IntKind.u64.wrap ((9223372036854775808 - ((s[q].toNat : Int) - 48)) / 10) = (9223372036854775808 - ((s[q].toNat : Int) - 48)) / 10 := by rw [IntKind.wrap_u64]; omega
            have HW12 := Lib.hid (And.intro w1 w2)
            have HHK := Lib.hid (And.intro hk hsn)
            obtain ⟨d, hd48⟩ : ∃ d, b.toNat - 48 = d := ⟨_, rfl⟩
            have hd10 : d < 10 := by omega
            have hsd : (s[q].toNat : Int) - 48 = (d : Int) := by omega
            have hnum := num_wide (A := 9223372036854775808) (n := n) hd10 (by omega)
            have HSD := Lib.hid hsd
            clear w1 w2 hk hsn
            by_cases h48 : c = 48
            · rw [if_pos h48] at hif
              obtain ⟨rfl, rfl, rfl, hrest, hdq⟩ := hif
              rw [hly] at hdq
              injection hdq with hb48 hrb
              rcases hnw with ⟨rfl, rfl, hv⟩ | ⟨rfl, hv, _, _⟩
              case inr => omega
              case inl =>
              have hd0 : d = 0 := by rw [hb48] at hd48; exact hd48.symm
              have m48 : ((c.toNat : Int) == 48) = true := byte_eq (d := 48) h48
              have HE := Lib.hid (show jnumEnd s.size p true 0 (s.data.toList.drop (q + 1)) = res from by rw [hdb, hrb]; exact HRE.out)
              have s48 : (s[q].toNat : Int) = 48 := by have := HSD.out; omega
              clear HRE hdb hrest hly hb48 hrb h48 hnum hsd hd48 hd10 hd0
              go_wp2
              go_big_quiet (fail)
              have HS := Lib.hid (HS.out.same (w' := W.drewN nq) rfl)
              have HU := Lib.hid (HU.out.trans (Upd.of_below (below_drewN' W nq) _))
              generalize W.drewN nq = W at *
              clear h0 h1 f1
              have h0 := HS.out.c0
              have h1 := HS.out.c1
              simp only at h1
              go_wp2
              go_big_quiet (fail)
              have HS := Lib.hid (HS.out.same (w' := W.drewN nq) rfl)
              have HU := Lib.hid (HU.out.trans (Upd.of_below (below_drewN' W nq) _))
              generalize W.drewN nq = W at *
              clear h0 h1
              have h0 := HS.out.c0
              have h1 := HS.out.c1
              have f1 := HS.out.f1
              simp only at h1
              go_wp2_with fail
              have HS2 := Lib.hid (show SrAt (W.setCell ⟨R, 1, none⟩ (.int .i64 ((q : Int) + 1))) R s ⟨q + 1, 0, 0⟩ from HS.out.one (w2 := W) rfl hlt)
              have HU2 := Lib.hid (HU.out.trans (Upd.of_setCell W ⟨R, 1, none⟩ (.int .i64 ((q : Int) + 1))))
              generalize W.setCell ⟨R, 1, none⟩ (.int .i64 ((q : Int) + 1)) = W2 at *
              obtain ⟨q2, hq2⟩ : ∃ x, q + 1 = x := ⟨_, rfl⟩
              rw [hq2] at HS2 HE
              have hpq2 : p ≤ q2 := by omega
              clear h0 h1 f1
              have h0 := HS2.out.c0
              have h1 := HS2.out.c1
              simp only at h1
              have hnb : ¬ ((true = true ∧ 9223372036854775808 < 0) ∨ (true = false ∧ 9223372036854775808 ≤ 0)) := by simp
              obtain ⟨lx, hlx⟩ : ∃ x, s.data.toList.drop q2 = x := ⟨_, rfl⟩
              have hE := HE.out
              rw [hlx] at hE
              clear HE
              cases lx with
              | nil =>
                have hlt2 : ¬ q2 < s.size := drop_none hlx
                have HB := Lib.hid (show JR.ok (-((0 : Nat) : Int)) (s.data.toList.drop q2) = res from by rw [hlx, ← hE, numEnd_nil hnb]; rfl)
                have hd2 : decide ((q2 : Int) < (s.size : Int)) = false := by rw [decide_eq_false_iff_not]; omega
                clear hlx hE hnb
                go_big_quiet (fail)
                go_wp2
                go_ret
                exact dj_ok HB.out ⟨by first | rfl | (show Value.int .i64 _ = Value.int .i64 _; congr 1), by decide⟩ hpq2 (HS2.out.same rfl) (HU2.out.trans (Upd.of_below (below_drewN' W2 _) _))
              | cons cx rx =>
                obtain ⟨hlt2, _, hrl⟩ := drop_parts hlx
                have hcx : s[q2] = cx := by have h := hlx; rw [rest_cons hlt2] at h; injection h
                have hd2 : (q2 : Int) < (s.size : Int) := by omega
                rw [numEnd_cons hnb, hrl] at hE
                clear hnb
                by_cases e46 : cx = 46
                · have HB := Lib.hid ((if_pos (.inl e46)).symm.trans hE)
                  have m46 : ((s[q2].toNat : Int) == 46) = true := byte_eq (d := 46) (hcx.trans e46)
                  clear hlx hE hcx hrl
                  go_big_quiet (fail)
                  have h1 := (HS2.out.same (w' := W2.drewN nq) rfl).c1
                  simp only at h1
                  go_wp2_with fail
                  refine (dfail_c R s q2 14 q2 (by decide) (W2.drewN nq) (HS2.out.same rfl)).mono ?_; rintro e wz ⟨rfl, hr, hu⟩
                  have HQ := Lib.hid (And.intro hr hu)
                  clear hr hu
                  go_wp2
                  go_ret
                  exact dj_bad HB.out rfl HQ.out.1 ((HU2.out.trans (Upd.of_below (below_drewN' W2 nq) _)).trans HQ.out.2)
                have m46 : ((s[q2].toNat : Int) == 46) = false := byte_ne (d := 46) (by rw [hcx]; exact e46)
                by_cases e101 : cx = 101
                · have HB := Lib.hid ((if_pos (.inr (.inl e101))).symm.trans hE)
                  have m101 : ((s[q2].toNat : Int) == 101) = true := byte_eq (d := 101) (hcx.trans e101)
                  clear hlx hE hcx hrl
                  go_big_quiet (fail)
                  have h1 := (HS2.out.same (w' := W2.drewN nq) rfl).c1
                  simp only at h1
                  go_wp2_with fail
                  refine (dfail_c R s q2 14 q2 (by decide) (W2.drewN nq) (HS2.out.same rfl)).mono ?_; rintro e wz ⟨rfl, hr, hu⟩
                  have HQ := Lib.hid (And.intro hr hu)
                  clear hr hu
                  go_wp2
                  go_ret
                  exact dj_bad HB.out rfl HQ.out.1 ((HU2.out.trans (Upd.of_below (below_drewN' W2 nq) _)).trans HQ.out.2)
                have m101 : ((s[q2].toNat : Int) == 101) = false := byte_ne (d := 101) (by rw [hcx]; exact e101)
                by_cases e69 : cx = 69
                · have HB := Lib.hid ((if_pos (.inr (.inr e69))).symm.trans hE)
                  have m69 : ((s[q2].toNat : Int) == 69) = true := byte_eq (d := 69) (hcx.trans e69)
                  clear hlx hE hcx hrl
                  go_big_quiet (fail)
                  have h1 := (HS2.out.same (w' := W2.drewN nq) rfl).c1
                  simp only at h1
                  go_wp2_with fail
                  refine (dfail_c R s q2 14 q2 (by decide) (W2.drewN nq) (HS2.out.same rfl)).mono ?_; rintro e wz ⟨rfl, hr, hu⟩
                  have HQ := Lib.hid (And.intro hr hu)
                  clear hr hu
                  go_wp2
                  go_ret
                  exact dj_bad HB.out rfl HQ.out.1 ((HU2.out.trans (Upd.of_below (below_drewN' W2 nq) _)).trans HQ.out.2)
                have m69 : ((s[q2].toNat : Int) == 69) = false := byte_ne (d := 69) (by rw [hcx]; exact e69)
                have HB := Lib.hid (show JR.ok (-((0 : Nat) : Int)) (s.data.toList.drop q2) = res from by rw [hlx]; exact (if_neg (show ¬ (cx = 46 ∨ cx = 101 ∨ cx = 69) from fun h => h.elim e46 (fun h => h.elim e101 e69))).symm.trans hE)
                clear hlx hE e46 e101 e69 hcx hrl
                go_big_quiet (fail)
                go_wp2
                go_ret
                exact dj_ok HB.out ⟨by first | rfl | (show Value.int .i64 _ = Value.int .i64 _; congr 1), by decide⟩ hpq2 (HS2.out.same rfl) (HU2.out.trans (Upd.of_below (below_drewN' W2 _) _))
            · rw [if_neg h48, hly, jdg_yes hbd] at hif
              have m48 : ((c.toNat : Int) == 48) = false := byte_ne (d := 48) h48
              have HIF := Lib.hid (show decF (10 * v + d) (jdg (s.data.toList.drop (q + 1))).1 = V ∧ (jdg (s.data.toList.drop (q + 1))).2 = rest from by rw [hdb, ← hd48, ← decF_cons]; exact hif)
              have H48 := Lib.hid h48
              rcases hnw with ⟨rfl, rfl, hv⟩ | ⟨rfl, hv, _, hn0⟩
              · by_cases hw : 9223372036854775808 < 10 * n + d
                · have ht : (9223372036854775808 - ((s[q].toNat : Int) - 48)) / 10 < (n : Int) := by have := hnum.2 hw; rw [HSD.out]; omega
                  have hnz : ((n : Int) == 0) = false := by rw [beq_eq_false_iff_ne]; omega
                  have HIN2 := Lib.hid (show NumIn s c q0 V rest (q + 1) (10 * n + d) n true from ⟨by omega, hlt, by rw [if_neg H48.out]; exact HIF.out, .inr ⟨rfl, hw, hn9, by omega⟩⟩)
                  have w1 := HW12.out.1
                  have w2 := HW12.out.2
                  clear hif HIF hnum hw hly hdb h48 hbd hd48 hsd hv
                  go_wp2
                  go_big_quiet (fail)
                  go_wp2
                  go_big_quiet (fail)
                  go_wp2
                  clear w1 w2
                  go_roundg (gk - 1)
                  case measure => omega
                  case rel => exact ⟨q + 1, 10 * n + d, n, true, rfl, rfl, by omega, HIN2, Lib.hid ⟨(HS.out.one rfl hlt), (HU.out.trans (Upd.of_below (below_drewN' _ _) _)).trans (Upd.of_setCell _ ⟨R, 1, none⟩ _)⟩⟩
                · have ht : ¬ ((9223372036854775808 - ((s[q].toNat : Int) - 48)) / 10 < (n : Int)) := by have := fun h => hw (hnum.1 h); rw [HSD.out]; omega
                  have HIN2 := Lib.hid (show NumIn s c q0 V rest (q + 1) (10 * n + d) (10 * n + d) false from ⟨by omega, hlt, by rw [if_neg H48.out]; exact HIF.out, .inl ⟨rfl, rfl, by omega⟩⟩)
                  have w1 := HW12.out.1
                  have w2 := HW12.out.2
                  have w3 : IntKind.u64.wrap (10 * (n : Int)) = 10 * (n : Int) := by rw [IntKind.wrap_u64]; omega
                  have w4 : IntKind.u64.wrap (10 * (n : Int) + ((s[q].toNat : Int) - 48)) = 10 * (n : Int) + ((s[q].toNat : Int) - 48) := by rw [HSD.out, IntKind.wrap_u64]; omega
                  have HW34 := Lib.hid (And.intro w3 w4)
                  by_cases hz : (10 * (n : Int) + ((s[q].toNat : Int) - 48)) = 0
                  · have hnz : ((10 * (n : Int) + ((s[q].toNat : Int) - 48)) == 0) = true := by rw [hz]; rfl
                    clear hif HIF hnum hw hly hdb h48 hbd hd48 hsd hv hz w3 w4
                    have w3 := HW34.out.1
                    have w4 := HW34.out.2
                    go_wp2
                    go_big_quiet (fail)
                    go_wp2
                    go_big_quiet (fail)
                    go_wp2
                    clear w1 w2 w3 w4
                    go_roundg (gk - 1)
                    case measure => omega
                    case rel => exact ⟨q + 1, 10 * n + d, 10 * n + d, false, by show Value.int .u64 _ = Value.int .u64 _; congr 1; have := HSD.out; omega, rfl, by omega, HIN2, Lib.hid ⟨(HS.out.one rfl hlt), (HU.out.trans (Upd.of_below (below_drewN' _ _) _)).trans (Upd.of_setCell _ ⟨R, 1, none⟩ _)⟩⟩
                  · have hnz : ((10 * (n : Int) + ((s[q].toNat : Int) - 48)) == 0) = false := by rw [beq_eq_false_iff_ne]; exact hz
                    clear hif HIF hnum hw hly hdb h48 hbd hd48 hsd hv hz w3 w4
                    have w3 := HW34.out.1
                    have w4 := HW34.out.2
                    go_wp2
                    go_big_quiet (fail)
                    go_wp2
                    go_big_quiet (fail)
                    go_wp2
                    clear w1 w2 w3 w4
                    go_roundg (gk - 1)
                    case measure => omega
                    case rel => exact ⟨q + 1, 10 * n + d, 10 * n + d, false, by show Value.int .u64 _ = Value.int .u64 _; congr 1; have := HSD.out; omega, rfl, by omega, HIN2, Lib.hid ⟨(HS.out.one rfl hlt), (HU.out.trans (Upd.of_below (below_drewN' _ _) _)).trans (Upd.of_setCell _ ⟨R, 1, none⟩ _)⟩⟩
              · have hnz : ((n : Int) == 0) = false := by rw [beq_eq_false_iff_ne]; omega
                have HIN2 := Lib.hid (show NumIn s c q0 V rest (q + 1) (10 * v + d) n true from ⟨by omega, hlt, by rw [if_neg H48.out]; exact HIF.out, .inr ⟨rfl, by omega, hn9, hn0⟩⟩)
                have w1 := HW12.out.1
                have w2 := HW12.out.2
                by_cases ht : (9223372036854775808 - ((s[q].toNat : Int) - 48)) / 10 < (n : Int)
                · clear hif HIF hnum hly hdb h48 hbd hd48 hsd hv
                  go_wp2
                  go_big_quiet (fail)
                  go_wp2
                  go_big_quiet (fail)
                  go_wp2
                  clear w1 w2
                  go_roundg (gk - 1)
                  case measure => omega
                  case rel => exact ⟨q + 1, 10 * v + d, n, true, rfl, rfl, by omega, HIN2, Lib.hid ⟨(HS.out.one rfl hlt), (HU.out.trans (Upd.of_below (below_drewN' _ _) _)).trans (Upd.of_setCell _ ⟨R, 1, none⟩ _)⟩⟩
                · clear hif HIF hnum hly hdb h48 hbd hd48 hsd hv
                  go_wp2
                  go_big_quiet (fail)
                  go_wp2
                  go_big_quiet (fail)
                  go_wp2
                  clear w1 w2
                  go_roundg (gk - 1)
                  case measure => omega
                  case rel => exact ⟨q + 1, 10 * v + d, n, true, rfl, rfl, by omega, HIN2, Lib.hid ⟨(HS.out.one rfl hlt), (HU.out.trans (Upd.of_below (below_drewN' _ _) _)).trans (Upd.of_setCell _ ⟨R, 1, none⟩ _)⟩⟩
end Go.Proofs.YtbkbokfegjodnaaDoor
