/- The walks of the document's natural and Digits. Conditions: the number has 64 bits. -/
import Derived.Test.YtkpickojeghppaaDoorRsv
import Derived.Deep.RegionHeld3
namespace Go.Proofs.YtkpickojeghppaaDoor
open Go.RowKit
theorem dec_app (u : Nat) (h : ¬ u < 10) : Lib.decDigits u = Lib.decDigits (u / 10) ++ [UInt8.ofNat (48 + u % 10)] := by
  rw [Lib.decDigits, dif_neg h]
/-- a digit's byte -/
def digB (n : Nat) : UInt8 := UInt8.ofNat (48 + n)
theorem digB_nat {n : Nat} (h : n < 10) : (digB n).toNat = 48 + n := by unfold digB; rw [UInt8.toNat_ofNat']; omega
theorem conv1 (W : World) (g : Nat) (c : UInt8) (z : Int) (hz : z = (c.toNat : Int)) (h : W.cell? ⟨g, 0, none⟩ = some (.int .u8 z)) : (convert 28 9 (.slice (some ⟨g, 0, none⟩) 1 1)).run Tryd.prog W = .ok (.string ⟨#[c]⟩) W := by
  refine run_convert_bytes_back W 28 9 5 ⟨g, 0, none⟩ 1 [c] bytTy.slice Tryd.underlying5 Tryd.underlying9 ?_
  intro j hj
  match j, hj with
  | 0, _ =>
    have e2 : (⟨g, 0, none⟩ : Addr).add 0 = ⟨g, 0, none⟩ := rfl
    rw [e2, h, hz]
    rfl
theorem dec_app2 (u : Nat) (h : ¬ u < 10) : Lib.decDigits u = Lib.decDigits (u / 10) ++ [digB (u % 10)] := dec_app u h
theorem dec_one2 {u : Nat} (h : u < 10) : Lib.decDigits u = [digB u] := Lib.decDigits_one h
theorem str_snoc (l : List UInt8) (c : UInt8) : (⟨l.toArray⟩ : ByteArray) ++ ⟨#[c]⟩ = ⟨(l ++ [c]).toArray⟩ := by
  apply ByteArray.ext
  simp
theorem str_len (l : List UInt8) : (⟨l.toArray⟩ : ByteArray).size = l.length := by show l.toArray.size = _; simp
theorem nd_le : ∀ (k u : Nat), u < 10 ^ (k + 1) → Lib.nDigits u ≤ k + 1
  | 0, u, h => by rw [Lib.nDigits_small (by simpa using h)]; omega
  | k + 1, u, h => by
    by_cases h10 : u < 10
    · rw [Lib.nDigits_small h10]; omega
    · rw [Lib.nDigits_big h10]
      have := nd_le k (u / 10) (by rw [Nat.pow_succ] at h; omega)
      omega
theorem dec_len {u : Nat} (h : u < 18446744073709551616) : (Lib.decDigits u).length ≤ 20 := by
  rw [Lib.decDigits_length]
  exact nd_le 19 u (by omega)
def NatSaid (m : Nat) : Prop := ∀ (u : Nat), u ≤ m → u < 18446744073709551616 → ∀ (w : World),
    Calls Tryd.prog 82 #[.int .u64 u] w fun e w' => e = .returned (.string ⟨(Lib.decDigits u).toArray⟩) ∧ Below w.heap.size w w'
set_option maxRecDepth 20000 in
set_option maxHeartbeats 4000000 in
theorem nat_step (m : Nat) (ih : ∀ k, k < m → NatSaid k) : NatSaid m := by
  intro u hm hu w
  by_cases h10 : u < 10
  · have hi : (u : Int) < 10 := by omega
    have HE := Lib.hid (dec_one2 h10)
    have hcv := conv1 (w.alloc (.cells #[.int .u8 (48 + (u : Int))] 5)) w.heap.size (digB u) (48 + (u : Int)) (by rw [digB_nat h10]; omega) (cell_of_row _ _ _ _ _ _ (heap_alloc_new w _))
    go_enter Tryd.func82, Tryd.ntmps82
    go_wp2
    go_ret
    exact ⟨by rw [HE.out]; rfl, (Below.refl _ _).alloc (Nat.le_refl _) _⟩
  · have hi : ¬ (u : Int) < 10 := by omega
    have HE := Lib.hid (dec_app2 u h10)
    have hrec : ∀ W : World, Calls Tryd.prog 82 #[.int .u64 ((u : Int) / 10)] W fun e w' => e = .returned (.string ⟨(Lib.decDigits (u / 10)).toArray⟩) ∧ Below W.heap.size W w' := fun W => by
      have := ih (u / 10) (by omega) (u / 10) (Nat.le_refl _) (by omega) W
      rwa [show ((u / 10 : Nat) : Int) = (u : Int) / 10 by omega] at this
    have hz : 48 + (u : Int) % 10 = ((digB (u % 10)).toNat : Int) := by rw [digB_nat (by omega)]; omega
    have HZ := Lib.hid hz
    have hcell : ((w.alloc (.cells #[.int .u8 (48 + (u : Int) % 10)] 5)).drew).cell? ⟨w.heap.size, 0, none⟩ = some (.int .u8 (48 + (u : Int) % 10)) := cell_of_row _ _ _ _ _ _ (heap_alloc_new w _)
    have HCC := Lib.hid hcell
    have hC := conv1 ((w.alloc (.cells #[.int .u8 (48 + (u : Int) % 10)] 5)).drew) w.heap.size _ _ hz hcell
    have hb0 : Below w.heap.size w (w.alloc (.cells #[.int .u8 (48 + (u : Int) % 10)] 5)).drew := ((Below.refl _ _).alloc (Nat.le_refl _) _).drew
    have hb1 : Below w.heap.size w w.drew := (Below.refl _ _).drew
    have HB0 := Lib.hid hb0
    have HB1 := Lib.hid hb1
    have q1 : IntKind.u64.wrap ((u : Int) / 10) = (u : Int) / 10 := by rw [IntKind.wrap_u64]; omega
    have q2 : (u : Int).tmod 10 = (u : Int) % 10 := by rw [Int.tmod_eq_emod_of_nonneg (by omega)]
    have q3 : IntKind.u64.wrap (48 + (u : Int) % 10) = 48 + (u : Int) % 10 := by rw [IntKind.wrap_u64]; omega
    have q4 : IntKind.u8.wrap (48 + (u : Int) % 10) = 48 + (u : Int) % 10 := by rw [IntKind.wrap_u8]; omega
    have hsz : (⟨(Lib.decDigits (u / 10)).toArray⟩ : ByteArray).size ≤ 20 := by rw [str_len]; exact dec_len (by omega)
    have hsn := str_snoc (Lib.decDigits (u / 10)) (digB (u % 10))
    have HSN := Lib.hid hsn
    clear hsn
    generalize (⟨(Lib.decDigits (u / 10)).toArray⟩ : ByteArray) = S at *
    have HREC := Lib.hid hrec
    clear hz hcell hb0 hb1 hrec
    go_enter Tryd.func82, Tryd.ntmps82
    go_wp2
    go_region_with (first
      | (go_at_call 82; with_reducible refine (HREC.out w.drew).mono ?_; rintro e w1 ⟨rfl, hb1⟩; have hA := conv1 (w1.alloc (.cells #[.int .u8 (48 + (u : Int) % 10)] 5)) w1.heap.size _ _ HZ.out (cell_of_row _ _ _ _ _ _ (heap_alloc_new w1 _)); have HF := Lib.hid (HB1.out.trans (hb1.mono HB1.out.size)); clear hb1)
      | (go_at_call 82; with_reducible refine (HREC.out (w.alloc (.cells #[.int .u8 (48 + (u : Int) % 10)] 5)).drew).mono ?_; rintro e w1 ⟨rfl, hb1⟩; have hB := conv1 w1 w.heap.size _ _ HZ.out (cell_below hb1 HCC.out); have HF := Lib.hid (HB0.out.trans (hb1.mono HB0.out.size)); clear hb1))
    all_goals go_wp2
    all_goals go_ret
    all_goals first | exact ⟨by rw [HE.out, ← HSN.out]; rfl, HF.out⟩ | exact ⟨by rw [HE.out, ← HSN.out]; rfl, HF.out.alloc HF.out.size _⟩
theorem nat_all (m : Nat) : NatSaid m := by
  induction m using Nat.strongRecOn with
  | _ m ih => exact nat_step m ih
set_option maxRecDepth 20000 in
set_option maxHeartbeats 4000000 in
theorem digits_c (n : Int) (hn : -9223372036854775808 ≤ n ∧ n ≤ 9223372036854775807) (w : World) :
    Calls Tryd.prog 79 #[.int .i64 n] w fun e w' => e = .returned (.string ⟨(Lib.itoa n).toArray⟩) ∧ Below w.heap.size w w' := by
  by_cases h0 : n < 0
  · have HE := Lib.hid (show Lib.itoa n = 45 :: Lib.decDigits n.natAbs from if_pos h0)
    have hna := nat_all n.natAbs n.natAbs (Nat.le_refl _) (by omega) w
    rw [show ((n.natAbs : Nat) : Int) = -(n + 1) + 1 by omega] at hna
    have HS := Lib.hid (show (⟨#[45]⟩ : ByteArray) ++ ⟨(Lib.decDigits n.natAbs).toArray⟩ = ⟨(45 :: Lib.decDigits n.natAbs).toArray⟩ by apply ByteArray.ext; simp)
    have hsz : (⟨(Lib.decDigits n.natAbs).toArray⟩ : ByteArray).size ≤ 20 := by rw [str_len]; exact dec_len (by omega)
    generalize (⟨(Lib.decDigits n.natAbs).toArray⟩ : ByteArray) = S at *
    go_enter Tryd.func79, Tryd.ntmps79
    go_wp2_with fail
    refine hna.mono ?_; rintro e w1 ⟨rfl, hb1⟩
    have HB1 := Lib.hid hb1
    clear hna hb1
    go_wp2
    go_ret
    exact ⟨by rw [HE.out, ← HS.out]; rfl, HB1.out⟩
  · have HE := Lib.hid (show Lib.itoa n = Lib.decDigits n.toNat from if_neg h0)
    have hna := nat_all n.toNat n.toNat (Nat.le_refl _) (by omega) w
    rw [show ((n.toNat : Nat) : Int) = n by omega] at hna
    go_enter Tryd.func79, Tryd.ntmps79
    go_wp2_with fail
    refine hna.mono ?_; rintro e w1 ⟨rfl, hb1⟩
    have HB1 := Lib.hid hb1
    clear hna hb1
    go_wp2
    go_ret
    exact ⟨by rw [HE.out]; rfl, HB1.out⟩
theorem rdigits_c (n : Nat) (hn : n ≤ 9223372036854775807) (w : World) :
    Calls Tryd.prog 75 #[.int .i64 (n : Int)] w fun e w' => e = .returned (.string (digitsB n)) ∧ Below w.heap.size w w' := by
  have hd := digits_c (n : Int) (by omega) w
  have HD := Lib.hid (show Calls Tryd.prog 79 #[.int .i64 (n : Int)] w (fun e w' => e = .returned (.string (digitsB n)) ∧ Below w.heap.size w w') from hd)
  clear hd
  go_enter Tryd.func75, Tryd.ntmps75
  go_wp2_with fail
  refine HD.out.mono ?_; rintro e w1 ⟨rfl, hb1⟩
  have HB1 := Lib.hid hb1
  clear hb1
  go_wp2
  go_ret
  exact ⟨rfl, HB1.out⟩
end Go.Proofs.YtkpickojeghppaaDoor
