/- The walk of utf8.Valid over bytes. Conditions: the tables of package utf8 lie as their texts lay them. -/
import Derived.Test.YtjmhoccikbgigaaDoorWordw
namespace Go.Proofs.YtjmhoccikbgigaaDoor
open Go.RowKit Go.Lib
set_option maxHeartbeats 16000000 in
set_option maxRecDepth 100000 in
theorem valid_c (bs : List UInt8) (A : Option Addr) (c : Nat) (hc : bs.length ≤ c ∧ c ≤ 9223372036854775807) (w : World) (hl : bs = [] ∨ ∃ G o, A = some ⟨G, o, none⟩ ∧ Lie w G o (bytesV bs)) (hT : Lib.Utf8Tabs 0 1 w) :
    Calls Tryd.prog 83 #[.slice A bs.length c] w fun e w' => e = .returned (.bool (validD bs)) ∧ Below w.heap.size w w' := by
  have HT := Lib.hid hT
  have HL := Lib.hid hl
  clear hT hl
  go_enter Tryd.func83, Tryd.ntmps83
  go_wp2
  go_loopw [0] (fun v wx => ∃ (a : Option Addr) (k : Nat) (l : List UInt8), v = .slice a l.length k ∧ l.length ≤ k ∧ k ≤ 9223372036854775807 ∧ Hid (validD bs = validD l) ∧ Hid (l = [] ∨ ∃ G o, a = some ⟨G, o, none⟩ ∧ Lie wx G o (bytesV l)) ∧ Hid (Below w.heap.size w wx)) (fun v _ => match v with | .slice _ n _ => n | _ => 0)
  case atStart => exact ⟨A, bs.length, bs, rfl, Nat.le_refl _, by omega, rfl, HL, Lib.hid (Below.refl _ _)⟩
  case round =>
    clear HL
    obtain ⟨a, k, l, rfl, hlk, hk, HV, HLL, HB⟩ := hrel
    cases l with
    | nil =>
      have HE := Lib.hid (show validD bs = true by rw [HV.out]; rfl)
      clear HV HLL
      go_wp2
      go_ret
      exact ⟨by rw [HE.out]; rfl, HB.out⟩
    | cons x t =>
      obtain ⟨G, o, rfl, hlie⟩ : ∃ G o, a = some ⟨G, o, none⟩ ∧ Lie wr G o (bytesV (x :: t)) := by
        rcases HLL.out with h | h
        · cases h
        · exact h
      have hc0 := lie_byte hlie 0 (by simp)
      rw [Nat.add_zero] at hc0
      simp only [List.getElem_cons_zero] at hc0
      have HLI := Lib.hid hlie
      have hx0 := x.toNat_lt
      have HT2 := Lib.hid (utf8_below HT.out HB.out)
      have HL1 := Lib.hid (show Lie wr G (o + 1) (bytesV t) from lie_drop hlie 1)
      have HLN := Lib.hid (And.intro hlk hk)
      simp only [List.length_cons] at hlk ⊢
      clear HLL hlie
      by_cases hasc : x.toNat < 128
      · have hz0 : (x.toNat : Int) < 128 := by omega
        have V1 := Lib.hid (show validD bs = validD t by rw [HV.out]; exact validD_cons x t hasc)
        clear hasc hx0 HV HLI HT2
        by_cases c8 : 8 < t.length
        · have cW1 := word_c G (o + 1) (k - 1) t (by omega) wr HL1.out
          have lA := wd_lt (l := t) (by omega)
          have KA := Lib.hid (wd_mask (l := t) (by omega))
          have hand : bits .and .u64 (wd t : Int) 9259542123273814144 = ((wd t &&& 9259542123273814144 : Nat) : Int) := u64_and_nat (wd t) 9259542123273814144 lA (by omega)
          have hk1 : ¬ k = 1 := by omega
          obtain ⟨Z1, hZ1⟩ : ∃ Z1, wd t &&& 9259542123273814144 = Z1 := ⟨_, rfl⟩
          rw [hZ1] at hand KA
          have HD2 := Lib.hid (fun (h : Z1 = 0) => (show validD bs = validD (t.drop 8) by rw [V1.out]; exact validD_ascii 8 t (KA.out.1 h)))
          clear hZ1 KA lA
          generalize wd t = A1 at *
          obtain ⟨u, hu⟩ : ∃ u : List UInt8, t.drop 8 = u := ⟨_, rfl⟩
          have hul : t.length = u.length + 8 := by rw [← hu, List.length_drop]; omega
          rw [hu] at HD2
          have HLu := Lib.hid (show Lie wr G (o + 1 + 8) (bytesV u) by rw [← hu]; exact lie_drop HL1.out 8)
          clear hu
          have HTN := Lib.hid hul
          have HKN := Lib.hid (And.intro hlk (And.intro hk c8))
          have c8z : (8 : Int) < (t.length : Int) := by omega
          clear hul c8 hlk hk
          generalize hn : t.length = n at *
          have HTT := Lib.hid hn
          clear hn
          go_wp2_with fail
          refine cW1.mono ?_; rintro e w1 ⟨rfl, q1, rfl⟩
          have HB1 := Lib.hid (below_drewN HB.out q1)
          have HLI1 := Lib.hid (lie_below HL1.out (below_drewN' wr q1))
          have HLU1 := Lib.hid (lie_below HLu.out (below_drewN' wr q1))
          generalize wr.drewN q1 = w1 at *
          clear cW1 hc0 HL1 HLu
          by_cases hz1 : Z1 = 0
          · as_aux_lemma =>
              have hzb : ((Z1 : Int) == 0) = true := by simp [hz1]
              have V2 := Lib.hid (HD2.out hz1)
              have hk8 : ¬ k = 9 := by have := HKN.out; omega
              have h8n : (8 : Int) ≤ (n : Int) := by have := HKN.out; omega
              have hnu : n - 8 = u.length := by have := HTN.out; omega
              clear HD2 V1 HLI1
              by_cases c16 : 16 < u.length
              · as_aux_lemma =>
                  skip
                  have cW2 := word_c G (o + 1 + 8) (k - 1 - 8) u (by omega)
                  have cW3 := word_c G (o + 1 + 8 + 8) (k - 1 - 8 - 8) (u.drop 8) (by rw [List.length_drop]; omega)
                  have hud : (u.drop 8).length = u.length - 8 := List.length_drop
                  rw [hud] at cW3
                  have l2 := wd_lt (l := u) (by omega)
                  have l3 := wd_lt (l := u.drop 8) (by rw [hud]; omega)
                  have K2 := wd_mask (l := u) (by omega)
                  have K3 := wd_mask (l := u.drop 8) (by rw [hud]; omega)
                  have hor : bits .or .u64 (wd u : Int) (wd (u.drop 8) : Int) = ((wd u ||| wd (u.drop 8) : Nat) : Int) := u64_or_nat (wd u) (wd (u.drop 8)) l2 l3
                  have lor : wd u ||| wd (u.drop 8) < 18446744073709551616 := Nat.or_lt_two_pow (n := 64) l2 l3
                  have hand2 : bits .and .u64 ((wd u ||| wd (u.drop 8) : Nat) : Int) 9259542123273814144 = (((wd u ||| wd (u.drop 8)) &&& 9259542123273814144 : Nat) : Int) := u64_and_nat _ 9259542123273814144 lor (by omega)
                  obtain ⟨Z2, hZ2⟩ : ∃ Z2, (wd u ||| wd (u.drop 8)) &&& 9259542123273814144 = Z2 := ⟨_, rfl⟩
                  have HD3 := Lib.hid (show Z2 = 0 → validD bs = validD (u.drop 16) from fun h => by
                    obtain ⟨e1, e2⟩ := (or_mask _ _ _).1 (hZ2.trans h)
                    rw [V2.out, validD_ascii 8 u (K2.1 e1), validD_ascii 8 (u.drop 8) (K3.1 e2), List.drop_drop])
                  rw [hZ2] at hand2
                  have CW2 := Lib.hid (fun (m : Nat) => quietD (cW2 _ (lie_below HLU1.out (below_drewN' w1 m))))
                  have CW3 := Lib.hid (fun (m : Nat) => quietD (cW3 _ (lie_drop (lie_below HLU1.out (below_drewN' w1 m)) 8)))
                  clear hZ2 K2 K3 l2 l3 lor cW2 cW3 hud
                  generalize wd (u.drop 8) = A3 at *
                  generalize wd u = A2 at *
                  generalize A2 ||| A3 = O2 at *
                  have c16z : (16 : Int) < (u.length : Int) := by omega
                  have c8u : (8 : Int) ≤ (u.length : Int) := by omega
                  have hk17 : ¬ k = 17 := by have := HKN.out; have := HTN.out; omega
                  have hk25 : ¬ k = 25 := by have := HKN.out; have := HTN.out; omega
                  have HUN := Lib.hid (And.intro c16 (And.intro HKN.out HTN.out))
                  go_wp2
                  go_quiet (first | (go_at_call 89; with_reducible exact CW2.out _) | (go_at_call 89; with_reducible exact CW3.out _))
                  have HB2 := Lib.hid (below_drewN HB1.out nq)
                  have HLU2 := Lib.hid (lie_below HLU1.out (below_drewN' w1 nq))
                  clear CW2 CW3 hor hand2
                  by_cases hz2 : Z2 = 0
                  · as_aux_lemma =>
                      have hz2b : ((Z2 : Int) == 0) = true := by simp [hz2]
                      have V3 := Lib.hid (HD3.out hz2)
                      have HL3 := Lib.hid (lie_drop HLU2.out 16)
                      have e3 : u.length - 16 = (u.drop 16).length := by rw [List.length_drop]
                      have h16u : (16 : Int) ≤ (u.length : Int) := by omega
                      have HE3 := Lib.hid e3
                      clear HD3 V2
                      generalize u.drop 16 = p at *
                      generalize w1.drewN nq = w2 at *
                      go_wp2
                      have HPN := Lib.hid (show p.length < n + 1 ∧ p.length ≤ k - 1 - 8 - 16 ∧ k - 1 - 8 - 16 ≤ 9223372036854775807 by have h1 := HE3.out; have h2 := HUN.out; omega)
                      clear e3 HE3 hk8 hk17 hk25 hk1 h16u c8u c16z c16 hnu h8n c8z HKN HUN HTN hzb hz1 hz2 hz2b HB1 HLU1 HLU2
                      go_loopw [0] (fun v wx => ∃ (a : Option Addr) (kp : Nat) (l : List UInt8), v = .slice a l.length kp ∧ Hid (l.length < n + 1 ∧ l.length ≤ kp ∧ kp ≤ 9223372036854775807) ∧ Hid (validD bs = validD l) ∧ Hid (∃ G o, a = some ⟨G, o, none⟩ ∧ Lie wx G o (bytesV l)) ∧ Hid (Below w.heap.size w wx)) (fun v _ => match v with | .slice _ n _ => n | _ => 0)
                      case atStart => exact ⟨_, _, p, rfl, HPN, V3, Lib.hid ⟨G, _, rfl, HL3.out⟩, HB2⟩
                      case round =>
                        clear HPN V3 HL3 HB2
                        obtain ⟨a, kp, r, rfl, HR, V4, HL4, HB4⟩ := hrel
                        obtain ⟨Gr, oR, rfl, hlr⟩ := HL4.out
                        have HLR := Lib.hid hlr
                        clear HL4 hlr
                        by_cases c32 : 32 < r.length
                        · as_aux_lemma =>
                            have f8 : (r.drop 8).length = r.length - 8 := List.length_drop
                            have f16 : (r.drop 16).length = r.length - 16 := List.length_drop
                            have f24 : (r.drop 24).length = r.length - 24 := List.length_drop
                            have cR0 := word_c Gr oR kp r (by omega)
                            have cR1 := word_c Gr (oR + 8) (kp - 8) (r.drop 8) (by omega)
                            have cR2 := word_c Gr (oR + 16) (kp - 16) (r.drop 16) (by omega)
                            have cR3 := word_c Gr (oR + 24) (kp - 24) (r.drop 24) (by omega)
                            rw [f8] at cR1
                            rw [f16] at cR2
                            rw [f24] at cR3
                            have l0 := wd_lt (l := r) (by omega)
                            have l1 := wd_lt (l := r.drop 8) (by omega)
                            have l2 := wd_lt (l := r.drop 16) (by omega)
                            have l3 := wd_lt (l := r.drop 24) (by omega)
                            have K0 := wd_mask (l := r) (by omega)
                            have K1 := wd_mask (l := r.drop 8) (by omega)
                            have K2 := wd_mask (l := r.drop 16) (by omega)
                            have K3 := wd_mask (l := r.drop 24) (by omega)
                            have p0 : bits .or .u64 (wd r : Int) (wd (r.drop 8) : Int) = ((wd r ||| wd (r.drop 8) : Nat) : Int) := u64_or_nat _ _ l0 l1
                            have p1 : bits .or .u64 (wd (r.drop 16) : Int) (wd (r.drop 24) : Int) = ((wd (r.drop 16) ||| wd (r.drop 24) : Nat) : Int) := u64_or_nat _ _ l2 l3
                            have m0 : wd r ||| wd (r.drop 8) < 18446744073709551616 := Nat.or_lt_two_pow (n := 64) l0 l1
                            have m1 : wd (r.drop 16) ||| wd (r.drop 24) < 18446744073709551616 := Nat.or_lt_two_pow (n := 64) l2 l3
                            have HZ0 := Lib.hid (or_mask (wd r) (wd (r.drop 8)) 9259542123273814144)
                            have HZ1 := Lib.hid (or_mask (wd (r.drop 16)) (wd (r.drop 24)) 9259542123273814144)
                            have V5 := Lib.hid (show wd r &&& 9259542123273814144 = 0 → wd (r.drop 8) &&& 9259542123273814144 = 0 → wd (r.drop 16) &&& 9259542123273814144 = 0 → wd (r.drop 24) &&& 9259542123273814144 = 0 → validD bs = validD (r.drop 32) from fun e0 e1 e2 e3 => by
                              rw [V4.out, validD_ascii 8 r (K0.1 e0), validD_ascii 8 (r.drop 8) (K1.1 e1), List.drop_drop, validD_ascii 8 (r.drop 16) (K2.1 e2), List.drop_drop, validD_ascii 8 (r.drop 24) (K3.1 e3), List.drop_drop])
                            have CR0 := Lib.hid (fun (m : Nat) => quietD (cR0 _ (lie_below HLR.out (below_drewN' wr m))))
                            have CR1 := Lib.hid (fun (m : Nat) => quietD (cR1 _ (lie_drop (lie_below HLR.out (below_drewN' wr m)) 8)))
                            have CR2 := Lib.hid (fun (m : Nat) => quietD (cR2 _ (lie_drop (lie_below HLR.out (below_drewN' wr m)) 16)))
                            have CR3 := Lib.hid (fun (m : Nat) => quietD (cR3 _ (lie_drop (lie_below HLR.out (below_drewN' wr m)) 24)))
                            clear cR0 cR1 cR2 cR3 K0 K1 K2 K3 l0 l1 l2 l3 f8 f16 f24
                            generalize wd (r.drop 8) = B1 at *
                            generalize wd (r.drop 16) = B2 at *
                            generalize wd (r.drop 24) = B3 at *
                            generalize wd r = B0 at *
                            have HZZ := Lib.hid (show (B0 ||| B1 ||| (B2 ||| B3)) &&& 9259542123273814144 = 0 → validD bs = validD (r.drop 32) from fun h => by
                              obtain ⟨h1, h2⟩ := (or_mask _ _ _).1 h
                              obtain ⟨h3, h4⟩ := HZ0.out.1 h1
                              obtain ⟨h5, h6⟩ := HZ1.out.1 h2
                              exact V5.out h3 h4 h5 h6)
                            have p2 : bits .or .u64 ((B0 ||| B1 : Nat) : Int) ((B2 ||| B3 : Nat) : Int) = ((B0 ||| B1 ||| (B2 ||| B3) : Nat) : Int) := u64_or_nat _ _ m0 m1
                            have m2 : B0 ||| B1 ||| (B2 ||| B3) < 18446744073709551616 := Nat.or_lt_two_pow (n := 64) m0 m1
                            have p3 : bits .and .u64 ((B0 ||| B1 ||| (B2 ||| B3) : Nat) : Int) 9259542123273814144 = (((B0 ||| B1 ||| (B2 ||| B3)) &&& 9259542123273814144 : Nat) : Int) := u64_and_nat _ 9259542123273814144 m2 (by omega)
                            obtain ⟨Z3, hZ3⟩ : ∃ Z3, (B0 ||| B1 ||| (B2 ||| B3)) &&& 9259542123273814144 = Z3 := ⟨_, rfl⟩
                            rw [hZ3] at p3 HZZ
                            clear hZ3 m0 m1 m2 HZ0 HZ1 V5
                            generalize B0 ||| B1 ||| (B2 ||| B3) = O3 at *
                            generalize B0 ||| B1 = O1 at *
                            generalize B2 ||| B3 = O2' at *
                            have c32z : (32 : Int) < (r.length : Int) := by omega
                            have g8 : (8 : Int) ≤ (r.length : Int) := by omega
                            have g16 : (16 : Int) ≤ (r.length : Int) := by omega
                            have g24 : (24 : Int) ≤ (r.length : Int) := by omega
                            have g32 : (32 : Int) ≤ (r.length : Int) := by omega
                            have n8 : ¬ kp = 8 := by have := HR.out; omega
                            have n16 : ¬ kp = 16 := by have := HR.out; omega
                            have n24 : ¬ kp = 24 := by have := HR.out; omega
                            have n32 : ¬ kp = 32 := by have := HR.out; omega
                            go_wp2
                            go_quiet (first | (go_at_call 89; with_reducible exact CR0.out _) | (go_at_call 89; with_reducible exact CR1.out _) | (go_at_call 89; with_reducible exact CR2.out _) | (go_at_call 89; with_reducible exact CR3.out _))
                            have HB5 := Lib.hid (below_drewN HB4.out nq)
                            have HLR5 := Lib.hid (lie_below HLR.out (below_drewN' wr nq))
                            have HC := Lib.hid c32
                            clear CR0 CR1 CR2 CR3 p0 p1 p2 p3
                            by_cases hz3 : Z3 = 0
                            · as_aux_lemma =>
                                have hz3b : ((Z3 : Int) == 0) = true := by simp [hz3]
                                go_wp2
                                go_roundw
                                case rel => exact ⟨_, _, r.drop 32, by rw [List.length_drop], Lib.hid (by have := HR.out; have := HC.out; rw [List.length_drop]; omega), Lib.hid (HZZ.out hz3), Lib.hid ⟨Gr, _, rfl, lie_drop HLR5.out 32⟩, HB5⟩
                                case measure => have := HC.out; simp; omega
                            · as_aux_lemma =>
                                have hz3b : ((Z3 : Int) == 0) = false := by simp [hz3]
                                go_wp2
                                go_roundw
                                case rel => exact ⟨_, _, r, rfl, by have := HR.out; omega, by have := HR.out; omega, V4, Lib.hid (.inr ⟨Gr, _, rfl, HLR5.out⟩), HB5⟩
                                case measure => have := HR.out; simp; omega
                        · as_aux_lemma =>
                            have c32z : ¬ (32 : Int) < (r.length : Int) := by omega
                            go_wp2
                            have c32w : ¬ (32 : Int) < (r.length : Int) := by omega
                            go_quiet (fail)
                            go_wp2
                            go_roundw
                            case rel => exact ⟨_, _, r, rfl, by have := HR.out; omega, by have := HR.out; omega, V4, Lib.hid (.inr ⟨Gr, _, rfl, lie_below HLR.out (below_drewN' _ _)⟩), Lib.hid (below_drewN HB4.out _)⟩
                            case measure => have := HR.out; simp; omega
                  · as_aux_lemma =>
                      have hz2b : ((Z2 : Int) == 0) = false := by simp [hz2]
                      go_wp2
                      go_roundw
                      case rel => exact ⟨_, _, u, rfl, by have := HUN.out; omega, by have := HUN.out; omega, V2, Lib.hid (.inr ⟨G, _, rfl, HLU2.out⟩), HB2⟩
                      case measure => have := HUN.out; simp; omega
              · as_aux_lemma =>
                  have c16z : ¬ (16 : Int) < (u.length : Int) := by omega
                  go_wp2
                  have c16w : ¬ (16 : Int) < (u.length : Int) := by omega
                  go_quiet (fail)
                  go_wp2
                  go_roundw
                  case rel => exact ⟨_, _, u, rfl, by have := HKN.out; have := HTN.out; omega, by have := HKN.out; omega, V2, Lib.hid (.inr ⟨G, _, rfl, lie_below HLU1.out (below_drewN' _ _)⟩), Lib.hid (below_drewN HB1.out _)⟩
                  case measure => have := HTN.out; simp; omega
          · as_aux_lemma =>
              have hzb : ((Z1 : Int) == 0) = false := by simp [hz1]
              go_wp2
              go_roundw
              case rel => exact ⟨_, _, t, by rw [HTT.out], by rw [HTT.out]; have := HKN.out; omega, by have := HKN.out; omega, V1, Lib.hid (.inr ⟨G, _, rfl, HLI1.out⟩), HB1⟩
              case measure => simp
        · as_aux_lemma =>
            have c8z : ¬ (8 : Int) < (t.length : Int) := by omega
            go_wp2
            go_roundw
            case rel =>
              refine ⟨_, _, t, rfl, by have := HLN.out; simp at this; omega, by have := HLN.out; omega, V1, ?_, HB⟩
              by_cases hk1 : k = 1
              · exact Lib.hid (.inl (List.eq_nil_of_length_eq_zero (by omega)))
              · exact Lib.hid (.inr ⟨G, _, by rw [if_neg hk1], HL1.out⟩)
            case measure => simp
      · have hx128 : 128 ≤ x.toNat := by omega
        have hz0 : ¬ (x.toNat : Int) < 128 := by omega
        have hlead := validD_lead (x :: t) (by simp) (by simpa using hx128)
        rw [← HV.out] at hlead
        simp only [List.length_cons, List.getD_cons_zero, List.getD_cons_succ] at hlead
        have hcx := HT2.out.1 x.toNat hx0
        have hXlt : firstT x.toNat < 256 := by rcases firstT_cases x.toNat with h | h | h | h | h | h | h | h | h <;> omega
        have hX240 : firstT x.toNat ≠ 240 := by unfold firstT; rw [if_neg (by omega)]; repeat' split
                                                all_goals omega
        have HT3 := Lib.hid (HT2.out.2)
        generalize firstT x.toNat = X at *
        have h7 := and7' ⟨X, hXlt⟩
        simp only at h7
        have ha0 : wr.cell? ⟨1, X / 16 * 2, none⟩ = some (.int .u8 (accLo (X / 16))) := by rw [Nat.mul_comm]; exact (HT3.out (X / 16) (by omega)).1
        have ha1 : wr.cell? ⟨1, X / 16 * 2 + 1, none⟩ = some (.int .u8 (accHi (X / 16))) := by rw [Nat.mul_comm]; exact (HT3.out (X / 16) (by omega)).2
        have HLE := Lib.hid hlead
        generalize accLo (X / 16) = LO at *
        generalize accHi (X / 16) = HI at *
        obtain ⟨SZ, hSZ⟩ : ∃ SZ, X % 8 = SZ := ⟨_, rfl⟩
        rw [hSZ] at HLE h7
        have hs8 : SZ < 8 := by omega
        have hX16 : (X : Int) / 16 < 16 := by omega
        have hx256 : (x.toNat : Int) < 256 := by omega
        have hbA : Below wr.heap.size wr (wr.alloc (.cells #[.int .u8 (LO : Int), .int .u8 (HI : Int)] 104)) := (Below.refl _ _).alloc (Nat.le_refl _) _
        have HBA := Lib.hid (HB.out.trans (hbA.mono HB.out.size))
        have HLA := Lib.hid (lie_below HLI.out hbA)
        clear hlead HT2 HT3 HV HL1 HLI hasc hx128 hXlt hx0 hbA hSZ
        go_upto_region 17 with (fail)
        by_cases s2 : SZ = 2
        · as_aux_lemma =>
            subst s2
            go_wp2
            by_cases hlen : t.length + 1 < 2
            · as_aux_lemma =>
                have HF := Lib.hid (HLE.out.trans (by unfold checkN; rw [if_pos rfl, if_pos (Or.inl hlen)]))
                have hq : ((t.length : Int) + 1) < 2 := by omega
                clear HLE hlen
                have hq2 : ((t.length : Int) + 1) < 2 := hq
                go_quiet (fail)
                go_wp2
                go_ret
                exact ⟨by rw [HF.out]; rfl, below_drewN HBA.out _⟩
            · obtain ⟨y1, r, rfl⟩ : ∃ y1 r, t = y1 :: r := by
                match t, hlen with
                | [], h => exact absurd (by simp : ([] : List UInt8).length + 1 < 2) h
                | y1 :: r, _ => exact ⟨y1, r, rfl⟩
              simp only [List.length_cons, List.getD_cons_zero, List.getD_cons_succ] at HLE hlk hlen ⊢
              have d1 := lie_byte HLA.out 1 (by simp)
              simp only [List.getElem_cons_zero, List.getElem_cons_succ] at d1
              have hq : ¬ ((r.length : Int) + 1 + 1) < 2 := by omega
              by_cases w0 : y1.toNat < LO
              · as_aux_lemma =>
                  have HF := Lib.hid (HLE.out.trans (by unfold checkN; rw [if_pos rfl, if_pos (Or.inr (Or.inl w0))]))
                  have z0 : (y1.toNat : Int) < (LO : Int) := by omega
                  clear HLE hlen w0
                  have hq2 : ¬ ((r.length : Int) + 1 + 1) < 2 := by omega
                  go_quiet (fail)
                  go_wp2
                  go_ret
                  exact ⟨by rw [HF.out]; rfl, below_drewN HBA.out _⟩
              by_cases w1 : HI < y1.toNat
              · as_aux_lemma =>
                  have HF := Lib.hid (HLE.out.trans (by unfold checkN; rw [if_pos rfl, if_pos (Or.inr (Or.inr (w1)))]))
                  have z1 : (HI : Int) < (y1.toNat : Int) := by omega
                  have z0 : ¬ (y1.toNat : Int) < (LO : Int) := by omega
                  clear HLE hlen w0 w1
                  have hq2 : ¬ ((r.length : Int) + 1 + 1) < 2 := by omega
                  have v0 : ¬ (y1.toNat : Int) < (LO : Int) := by omega
                  go_quiet (fail)
                  go_wp2
                  go_ret
                  exact ⟨by rw [HF.out]; rfl, below_drewN HBA.out _⟩
              have HF := Lib.hid (HLE.out.trans (by unfold checkN; rw [if_pos rfl, if_neg (by omega)]))
              have z0 : ¬ (y1.toNat : Int) < (LO : Int) := by omega
              have z1 : ¬ (HI : Int) < (y1.toNat : Int) := by omega
              have HLN2 := Lib.hid (And.intro hlk hk)
              clear HLE hlen w0 w1
              have hq2 : ¬ ((r.length : Int) + 1 + 1) < 2 := by omega
              have v0 : ¬ (y1.toNat : Int) < (LO : Int) := by omega
              have v1 : ¬ (HI : Int) < (y1.toNat : Int) := by omega
              go_quiet (fail)
              go_wp2
              go_roundw
              case rel =>
                refine ⟨_, _, r, by first | rfl | simp, by have := HLN2.out; omega, by have := HLN2.out; omega, Lib.hid HF.out, ?_, Lib.hid (below_drewN HBA.out _)⟩
                by_cases hk1 : k = 2
                · exact Lib.hid (.inl (List.eq_nil_of_length_eq_zero (by have := HLN2.out; omega)))
                · exact Lib.hid (.inr ⟨G, _, by rw [if_neg hk1], lie_below (show Lie _ G (o + 2) (bytesV r) from lie_drop HLA.out 2) (below_drewN' _ _)⟩)
              case measure => simp; omega
        by_cases s3 : SZ = 3
        · as_aux_lemma =>
            subst s3
            go_wp2
            by_cases hlen : t.length + 1 < 3
            · as_aux_lemma =>
                have HF := Lib.hid (HLE.out.trans (by unfold checkN; rw [if_neg (by decide), if_pos rfl, if_pos (Or.inl hlen)]))
                have hq : ((t.length : Int) + 1) < 3 := by omega
                clear HLE hlen
                have hq2 : ((t.length : Int) + 1) < 3 := hq
                go_quiet (fail)
                go_wp2
                go_ret
                exact ⟨by rw [HF.out]; rfl, below_drewN HBA.out _⟩
            · obtain ⟨y1, y2, r, rfl⟩ : ∃ y1 y2 r, t = y1 :: y2 :: r := by
                match t, hlen with
                | [], h => exact absurd (by simp : ([] : List UInt8).length + 1 < 3) h
                | [y1], h => exact absurd (by simp : ([y1] : List UInt8).length + 1 < 3) h
                | y1 :: y2 :: r, _ => exact ⟨y1, y2, r, rfl⟩
              simp only [List.length_cons, List.getD_cons_zero, List.getD_cons_succ] at HLE hlk hlen ⊢
              have d1 := lie_byte HLA.out 1 (by simp)
              have d2 := lie_byte HLA.out 2 (by simp)
              simp only [List.getElem_cons_zero, List.getElem_cons_succ] at d1 d2
              have hq : ¬ ((r.length : Int) + 1 + 1 + 1) < 3 := by omega
              by_cases w0 : y1.toNat < LO
              · as_aux_lemma =>
                  have HF := Lib.hid (HLE.out.trans (by unfold checkN; rw [if_neg (by decide), if_pos rfl, if_pos (Or.inr (Or.inl w0))]))
                  have z0 : (y1.toNat : Int) < (LO : Int) := by omega
                  clear HLE hlen w0
                  have hq2 : ¬ ((r.length : Int) + 1 + 1 + 1) < 3 := by omega
                  go_quiet (fail)
                  go_wp2
                  go_ret
                  exact ⟨by rw [HF.out]; rfl, below_drewN HBA.out _⟩
              by_cases w1 : HI < y1.toNat
              · as_aux_lemma =>
                  have HF := Lib.hid (HLE.out.trans (by unfold checkN; rw [if_neg (by decide), if_pos rfl, if_pos (Or.inr (Or.inr (Or.inl w1)))]))
                  have z1 : (HI : Int) < (y1.toNat : Int) := by omega
                  have z0 : ¬ (y1.toNat : Int) < (LO : Int) := by omega
                  clear HLE hlen w0 w1
                  have hq2 : ¬ ((r.length : Int) + 1 + 1 + 1) < 3 := by omega
                  have v0 : ¬ (y1.toNat : Int) < (LO : Int) := by omega
                  go_quiet (fail)
                  go_wp2
                  go_ret
                  exact ⟨by rw [HF.out]; rfl, below_drewN HBA.out _⟩
              by_cases w2 : y2.toNat < 128
              · as_aux_lemma =>
                  have HF := Lib.hid (HLE.out.trans (by unfold checkN; rw [if_neg (by decide), if_pos rfl, if_pos (Or.inr (Or.inr (Or.inr (Or.inl w2))))]))
                  have z2 : (y2.toNat : Int) < 128 := by omega
                  have z0 : ¬ (y1.toNat : Int) < (LO : Int) := by omega
                  have z1 : ¬ (HI : Int) < (y1.toNat : Int) := by omega
                  clear HLE hlen w0 w1 w2
                  have hq2 : ¬ ((r.length : Int) + 1 + 1 + 1) < 3 := by omega
                  have v0 : ¬ (y1.toNat : Int) < (LO : Int) := by omega
                  have v1 : ¬ (HI : Int) < (y1.toNat : Int) := by omega
                  go_quiet (fail)
                  go_wp2
                  go_ret
                  exact ⟨by rw [HF.out]; rfl, below_drewN HBA.out _⟩
              by_cases w3 : 191 < y2.toNat
              · as_aux_lemma =>
                  have HF := Lib.hid (HLE.out.trans (by unfold checkN; rw [if_neg (by decide), if_pos rfl, if_pos (Or.inr (Or.inr (Or.inr (Or.inr (w3)))))]))
                  have z3 : 191 < (y2.toNat : Int) := by omega
                  have z0 : ¬ (y1.toNat : Int) < (LO : Int) := by omega
                  have z1 : ¬ (HI : Int) < (y1.toNat : Int) := by omega
                  have z2 : ¬ (y2.toNat : Int) < 128 := by omega
                  clear HLE hlen w0 w1 w2 w3
                  have hq2 : ¬ ((r.length : Int) + 1 + 1 + 1) < 3 := by omega
                  have v0 : ¬ (y1.toNat : Int) < (LO : Int) := by omega
                  have v1 : ¬ (HI : Int) < (y1.toNat : Int) := by omega
                  have v2 : ¬ (y2.toNat : Int) < 128 := by omega
                  go_quiet (fail)
                  go_wp2
                  go_ret
                  exact ⟨by rw [HF.out]; rfl, below_drewN HBA.out _⟩
              have HF := Lib.hid (HLE.out.trans (by unfold checkN; rw [if_neg (by decide), if_pos rfl, if_neg (by omega)]))
              have z0 : ¬ (y1.toNat : Int) < (LO : Int) := by omega
              have z1 : ¬ (HI : Int) < (y1.toNat : Int) := by omega
              have z2 : ¬ (y2.toNat : Int) < 128 := by omega
              have z3 : ¬ 191 < (y2.toNat : Int) := by omega
              have HLN2 := Lib.hid (And.intro hlk hk)
              clear HLE hlen w0 w1 w2 w3
              have hq2 : ¬ ((r.length : Int) + 1 + 1 + 1) < 3 := by omega
              have v0 : ¬ (y1.toNat : Int) < (LO : Int) := by omega
              have v1 : ¬ (HI : Int) < (y1.toNat : Int) := by omega
              have v2 : ¬ (y2.toNat : Int) < 128 := by omega
              have v3 : ¬ 191 < (y2.toNat : Int) := by omega
              go_quiet (fail)
              go_wp2
              go_roundw
              case rel =>
                refine ⟨_, _, r, by first | rfl | simp, by have := HLN2.out; omega, by have := HLN2.out; omega, Lib.hid HF.out, ?_, Lib.hid (below_drewN HBA.out _)⟩
                by_cases hk1 : k = 3
                · exact Lib.hid (.inl (List.eq_nil_of_length_eq_zero (by have := HLN2.out; omega)))
                · exact Lib.hid (.inr ⟨G, _, by rw [if_neg hk1], lie_below (show Lie _ G (o + 3) (bytesV r) from lie_drop HLA.out 3) (below_drewN' _ _)⟩)
              case measure => simp; omega
        by_cases s4 : SZ = 4
        · as_aux_lemma =>
            subst s4
            go_wp2
            by_cases hlen : t.length + 1 < 4
            · as_aux_lemma =>
                have HF := Lib.hid (HLE.out.trans (by unfold checkN; rw [if_neg (by decide), if_neg (by decide), if_pos rfl, if_pos (Or.inl hlen)]))
                have hq : ((t.length : Int) + 1) < 4 := by omega
                clear HLE hlen
                have hq2 : ((t.length : Int) + 1) < 4 := hq
                go_quiet (fail)
                go_wp2
                go_ret
                exact ⟨by rw [HF.out]; rfl, below_drewN HBA.out _⟩
            · obtain ⟨y1, y2, y3, r, rfl⟩ : ∃ y1 y2 y3 r, t = y1 :: y2 :: y3 :: r := by
                match t, hlen with
                | [], h => exact absurd (by simp : ([] : List UInt8).length + 1 < 4) h
                | [y1], h => exact absurd (by simp : ([y1] : List UInt8).length + 1 < 4) h
                | [y1, y2], h => exact absurd (by simp : ([y1, y2] : List UInt8).length + 1 < 4) h
                | y1 :: y2 :: y3 :: r, _ => exact ⟨y1, y2, y3, r, rfl⟩
              simp only [List.length_cons, List.getD_cons_zero, List.getD_cons_succ] at HLE hlk hlen ⊢
              have d1 := lie_byte HLA.out 1 (by simp)
              have d2 := lie_byte HLA.out 2 (by simp)
              have d3 := lie_byte HLA.out 3 (by simp)
              simp only [List.getElem_cons_zero, List.getElem_cons_succ] at d1 d2 d3
              have hq : ¬ ((r.length : Int) + 1 + 1 + 1 + 1) < 4 := by omega
              by_cases w0 : y1.toNat < LO
              · as_aux_lemma =>
                  have HF := Lib.hid (HLE.out.trans (by unfold checkN; rw [if_neg (by decide), if_neg (by decide), if_pos rfl, if_pos (Or.inr (Or.inl w0))]))
                  have z0 : (y1.toNat : Int) < (LO : Int) := by omega
                  clear HLE hlen w0
                  have hq2 : ¬ ((r.length : Int) + 1 + 1 + 1 + 1) < 4 := by omega
                  go_quiet (fail)
                  go_wp2
                  go_ret
                  exact ⟨by rw [HF.out]; rfl, below_drewN HBA.out _⟩
              by_cases w1 : HI < y1.toNat
              · as_aux_lemma =>
                  have HF := Lib.hid (HLE.out.trans (by unfold checkN; rw [if_neg (by decide), if_neg (by decide), if_pos rfl, if_pos (Or.inr (Or.inr (Or.inl w1)))]))
                  have z1 : (HI : Int) < (y1.toNat : Int) := by omega
                  have z0 : ¬ (y1.toNat : Int) < (LO : Int) := by omega
                  clear HLE hlen w0 w1
                  have hq2 : ¬ ((r.length : Int) + 1 + 1 + 1 + 1) < 4 := by omega
                  have v0 : ¬ (y1.toNat : Int) < (LO : Int) := by omega
                  go_quiet (fail)
                  go_wp2
                  go_ret
                  exact ⟨by rw [HF.out]; rfl, below_drewN HBA.out _⟩
              by_cases w2 : y2.toNat < 128
              · as_aux_lemma =>
                  have HF := Lib.hid (HLE.out.trans (by unfold checkN; rw [if_neg (by decide), if_neg (by decide), if_pos rfl, if_pos (Or.inr (Or.inr (Or.inr (Or.inl w2))))]))
                  have z2 : (y2.toNat : Int) < 128 := by omega
                  have z0 : ¬ (y1.toNat : Int) < (LO : Int) := by omega
                  have z1 : ¬ (HI : Int) < (y1.toNat : Int) := by omega
                  clear HLE hlen w0 w1 w2
                  have hq2 : ¬ ((r.length : Int) + 1 + 1 + 1 + 1) < 4 := by omega
                  have v0 : ¬ (y1.toNat : Int) < (LO : Int) := by omega
                  have v1 : ¬ (HI : Int) < (y1.toNat : Int) := by omega
                  go_quiet (fail)
                  go_wp2
                  go_ret
                  exact ⟨by rw [HF.out]; rfl, below_drewN HBA.out _⟩
              by_cases w3 : 191 < y2.toNat
              · as_aux_lemma =>
                  have HF := Lib.hid (HLE.out.trans (by unfold checkN; rw [if_neg (by decide), if_neg (by decide), if_pos rfl, if_pos (Or.inr (Or.inr (Or.inr (Or.inr (Or.inl w3)))))]))
                  have z3 : 191 < (y2.toNat : Int) := by omega
                  have z0 : ¬ (y1.toNat : Int) < (LO : Int) := by omega
                  have z1 : ¬ (HI : Int) < (y1.toNat : Int) := by omega
                  have z2 : ¬ (y2.toNat : Int) < 128 := by omega
                  clear HLE hlen w0 w1 w2 w3
                  have hq2 : ¬ ((r.length : Int) + 1 + 1 + 1 + 1) < 4 := by omega
                  have v0 : ¬ (y1.toNat : Int) < (LO : Int) := by omega
                  have v1 : ¬ (HI : Int) < (y1.toNat : Int) := by omega
                  have v2 : ¬ (y2.toNat : Int) < 128 := by omega
                  go_quiet (fail)
                  go_wp2
                  go_ret
                  exact ⟨by rw [HF.out]; rfl, below_drewN HBA.out _⟩
              by_cases w4 : y3.toNat < 128
              · as_aux_lemma =>
                  have HF := Lib.hid (HLE.out.trans (by unfold checkN; rw [if_neg (by decide), if_neg (by decide), if_pos rfl, if_pos (Or.inr (Or.inr (Or.inr (Or.inr (Or.inr (Or.inl w4))))))]))
                  have z4 : (y3.toNat : Int) < 128 := by omega
                  have z0 : ¬ (y1.toNat : Int) < (LO : Int) := by omega
                  have z1 : ¬ (HI : Int) < (y1.toNat : Int) := by omega
                  have z2 : ¬ (y2.toNat : Int) < 128 := by omega
                  have z3 : ¬ 191 < (y2.toNat : Int) := by omega
                  clear HLE hlen w0 w1 w2 w3 w4
                  have hq2 : ¬ ((r.length : Int) + 1 + 1 + 1 + 1) < 4 := by omega
                  have v0 : ¬ (y1.toNat : Int) < (LO : Int) := by omega
                  have v1 : ¬ (HI : Int) < (y1.toNat : Int) := by omega
                  have v2 : ¬ (y2.toNat : Int) < 128 := by omega
                  have v3 : ¬ 191 < (y2.toNat : Int) := by omega
                  go_quiet (fail)
                  go_wp2
                  go_ret
                  exact ⟨by rw [HF.out]; rfl, below_drewN HBA.out _⟩
              by_cases w5 : 191 < y3.toNat
              · as_aux_lemma =>
                  have HF := Lib.hid (HLE.out.trans (by unfold checkN; rw [if_neg (by decide), if_neg (by decide), if_pos rfl, if_pos (Or.inr (Or.inr (Or.inr (Or.inr (Or.inr (Or.inr (w5)))))))]))
                  have z5 : 191 < (y3.toNat : Int) := by omega
                  have z0 : ¬ (y1.toNat : Int) < (LO : Int) := by omega
                  have z1 : ¬ (HI : Int) < (y1.toNat : Int) := by omega
                  have z2 : ¬ (y2.toNat : Int) < 128 := by omega
                  have z3 : ¬ 191 < (y2.toNat : Int) := by omega
                  have z4 : ¬ (y3.toNat : Int) < 128 := by omega
                  clear HLE hlen w0 w1 w2 w3 w4 w5
                  have hq2 : ¬ ((r.length : Int) + 1 + 1 + 1 + 1) < 4 := by omega
                  have v0 : ¬ (y1.toNat : Int) < (LO : Int) := by omega
                  have v1 : ¬ (HI : Int) < (y1.toNat : Int) := by omega
                  have v2 : ¬ (y2.toNat : Int) < 128 := by omega
                  have v3 : ¬ 191 < (y2.toNat : Int) := by omega
                  have v4 : ¬ (y3.toNat : Int) < 128 := by omega
                  go_quiet (fail)
                  go_wp2
                  go_ret
                  exact ⟨by rw [HF.out]; rfl, below_drewN HBA.out _⟩
              have HF := Lib.hid (HLE.out.trans (by unfold checkN; rw [if_neg (by decide), if_neg (by decide), if_pos rfl, if_neg (by omega)]))
              have z0 : ¬ (y1.toNat : Int) < (LO : Int) := by omega
              have z1 : ¬ (HI : Int) < (y1.toNat : Int) := by omega
              have z2 : ¬ (y2.toNat : Int) < 128 := by omega
              have z3 : ¬ 191 < (y2.toNat : Int) := by omega
              have z4 : ¬ (y3.toNat : Int) < 128 := by omega
              have z5 : ¬ 191 < (y3.toNat : Int) := by omega
              have HLN2 := Lib.hid (And.intro hlk hk)
              clear HLE hlen w0 w1 w2 w3 w4 w5
              have hq2 : ¬ ((r.length : Int) + 1 + 1 + 1 + 1) < 4 := by omega
              have v0 : ¬ (y1.toNat : Int) < (LO : Int) := by omega
              have v1 : ¬ (HI : Int) < (y1.toNat : Int) := by omega
              have v2 : ¬ (y2.toNat : Int) < 128 := by omega
              have v3 : ¬ 191 < (y2.toNat : Int) := by omega
              have v4 : ¬ (y3.toNat : Int) < 128 := by omega
              have v5 : ¬ 191 < (y3.toNat : Int) := by omega
              go_quiet (fail)
              go_wp2
              go_roundw
              case rel =>
                refine ⟨_, _, r, by first | rfl | simp, by have := HLN2.out; omega, by have := HLN2.out; omega, Lib.hid HF.out, ?_, Lib.hid (below_drewN HBA.out _)⟩
                by_cases hk1 : k = 4
                · exact Lib.hid (.inl (List.eq_nil_of_length_eq_zero (by have := HLN2.out; omega)))
                · exact Lib.hid (.inr ⟨G, _, by rw [if_neg hk1], lie_below (show Lie _ G (o + 4) (bytesV r) from lie_drop HLA.out 4) (below_drewN' _ _)⟩)
              case measure => simp; omega
        have HF := Lib.hid (HLE.out.trans (by unfold checkN; rw [if_neg s2, if_neg s3, if_neg s4]))
        have e2 : ((SZ : Int) == 2) = false := by rw [beq_eq_false_iff_ne]; omega
        have e3 : ((SZ : Int) == 3) = false := by rw [beq_eq_false_iff_ne]; omega
        have e4 : ((SZ : Int) == 4) = false := by rw [beq_eq_false_iff_ne]; omega
        have hwS : wrap64 (SZ : Int) = (SZ : Int) := by unfold wrap64; omega
        clear HLE
        go_wp2
        go_ret
        exact ⟨by rw [HF.out]; rfl, HBA.out⟩
end Go.Proofs.YtjmhoccikbgigaaDoor
