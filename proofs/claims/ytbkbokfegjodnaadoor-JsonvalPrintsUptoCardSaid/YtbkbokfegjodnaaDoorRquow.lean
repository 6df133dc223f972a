/- The walk of the document's Quoted. Conditions: the text has less than 2 to the 44 bytes. -/
import Derived.Test.YtbkbokfegjodnaaDoorQuow
import Derived.Deep.LoopGhost
namespace Go.Proofs.YtbkbokfegjodnaaDoor
open Go.RowKit
theorem hexIxB (w : World) (d : Nat) (h : d < 16) : (Instr.index 9 (.string ⟨#[48, 49, 50, 51, 52, 53, 54, 55, 56, 57, 97, 98, 99, 100, 101, 102]⟩) (.int .u8 (d : Int))).run Tryd.prog w = .ok (.int .u8 ((hexd d).toNat : Int)) w := by
  rcases (show d = 0 ∨ d = 1 ∨ d = 2 ∨ d = 3 ∨ d = 4 ∨ d = 5 ∨ d = 6 ∨ d = 7 ∨ d = 8 ∨ d = 9 ∨ d = 10 ∨ d = 11 ∨ d = 12 ∨ d = 13 ∨ d = 14 ∨ d = 15 by omega) with rfl | rfl | rfl | rfl | rfl | rfl | rfl | rfl | rfl | rfl | rfl | rfl | rfl | rfl | rfl | rfl
  all_goals kernel_rfl
theorem jqs_at {s : ByteArray} {p : Nat} (h : p < s.size) : jqs (s.data.toList.drop p) = jqc s[p] ++ jqs (s.data.toList.drop (p + 1)) := by
  rw [List.drop_eq_getElem_cons (show p < s.data.toList.length by simpa using h), jqs_cons]; rfl
theorem jqs_at2 {s : ByteArray} {p : Nat} {c : UInt8} (h : p < s.size) (hc : s[p] = c) : jqs (s.data.toList.drop p) = jqc c ++ jqs (s.data.toList.drop (p + 1)) := by rw [jqs_at h, hc]
theorem jqc_ctl {c : UInt8} (n34 : c ≠ 34) (n92 : c ≠ 92) (n8 : c ≠ 8) (n9 : c ≠ 9) (n10 : c ≠ 10) (n12 : c ≠ 12) (n13 : c ≠ 13) (h : c.toNat < 32) : jqc c = [92, 117, 48, 48] ++ [hexd (c.toNat / 16), hexd (c.toNat % 16)] := by
  unfold jqc
  rw [if_neg (fun e => e.elim n34 n92), if_neg n8, if_neg n9, if_neg n10, if_neg n12, if_neg n13, if_pos h]; rfl
theorem jqc_lit {c : UInt8} (n34 : c ≠ 34) (n92 : c ≠ 92) (n8 : c ≠ 8) (n9 : c ≠ 9) (n10 : c ≠ 10) (n12 : c ≠ 12) (n13 : c ≠ 13) (h : ¬ c.toNat < 32) : jqc c = [c] := by
  unfold jqc
  rw [if_neg (fun e => e.elim n34 n92), if_neg n8, if_neg n9, if_neg n10, if_neg n12, if_neg n13, if_neg h]
set_option maxRecDepth 20000 in
set_option maxHeartbeats 8000000 in
theorem refQuoted_c (s : ByteArray) (hs : s.size ≤ 17592186044416) (w : World) :
    Calls Tryd.prog 76 #[.string s] w fun e w' => e = .returned (.string ⟨(jq s.data.toList).toArray⟩) ∧ Below w.heap.size w w' := by
  have hb0 : Buf (w.alloc (.cells (([34] : List UInt8).map byteV).toArray 5)) w.heap.size 5 (.slice (some ⟨w.heap.size, 0, none⟩) 1 1) [34] := buf_lit (Nat.le_refl _) [34] (by decide)
  have HB0 := Lib.hid (show Buf (w.alloc (.cells #[.int .u8 34] 5)) w.heap.size 5 (.slice (some ⟨w.heap.size, 0, none⟩) 1 1) [34] from hb0)
  have HK0 := Lib.hid (K5.of_below (B := w.heap.size) (show Below w.heap.size w (w.alloc (.cells #[.int .u8 34] 5)) from (Below.refl _ _).alloc (Nat.le_refl _) _) (Nat.le_refl _))
  clear hb0
  go_enter Tryd.func76, Tryd.ntmps76
  go_wp2
  go_loopg [4, 5] (s.size + 1) (fun gk b i wr => ∃ (p : Nat) (acc : List UInt8), p ≤ s.size ∧ s.size - p < gk ∧ i = .int .i64 p ∧ acc.length ≤ 1 + 6 * p ∧ Hid (Buf wr w.heap.size 5 b acc) ∧ Hid (acc ++ jqs (s.data.toList.drop p) = 34 :: jqs s.data.toList) ∧ Hid (K5 w.heap.size w wr))
  case atStart => exact ⟨0, [34], Nat.zero_le _, by omega, rfl, by simp, HB0, Lib.hid (by rw [List.drop_zero]; rfl), HK0⟩
  case round =>
    clear HB0 HK0
    obtain ⟨p, acc, hp, hgk, rfl, hal, HB, HE, HK⟩ := hrel
    have hBw : w.heap.size ≤ wr.heap.size := HK.out.size
    by_cases hlt : p < s.size
    · have hEQ := HE.out
      have HLT := Lib.hid hlt
      obtain ⟨c, hci⟩ : ∃ c, s[p]'hlt = c := ⟨_, rfl⟩
      rw [jqs_at2 hlt hci] at hEQ
      have HEQ := Lib.hid hEQ
      clear hEQ HE
      by_cases n34 : c = 34
      · as_aux_lemma =>
        have HRR := Lib.hid (show jqc c = [92, 34] from by rw [n34]; rfl)
        subst n34
        go_wp2_with (at_builtin; refine wpList_lit [92, 34] rfl _ _ rfl w.heap.size _ acc rfl HB.out rfl rfl (by simp only [List.length_cons, List.length_nil]; omega) hBw ?_; intro v3 w3 hv3 hk3; have HV3 := Lib.hid hv3; have HK3 := Lib.hid hk3; clear hv3 hk3)
        go_roundg (gk - 1)
        all_goals first | omega | exact ⟨p + 1, acc ++ [92, 34], hlt, by omega, by go_num, by rw [List.length_append]; simp only [List.length_cons, List.length_nil]; omega, HV3, Lib.hid (by have h9 := HEQ.out; rw [HRR.out, ← List.append_assoc] at h9; exact h9), Lib.hid (HK.out.trans HK3.out)⟩
      have m34 : ((c.toNat : Int) == 34) = false := byte_ne (d := 34) n34
      by_cases n92 : c = 92
      · as_aux_lemma =>
        have HRR := Lib.hid (show jqc c = [92, 92] from by rw [n92]; rfl)
        subst n92
        go_wp2_with (at_builtin; refine wpList_lit [92, 92] rfl _ _ rfl w.heap.size _ acc rfl HB.out rfl rfl (by simp only [List.length_cons, List.length_nil]; omega) hBw ?_; intro v3 w3 hv3 hk3; have HV3 := Lib.hid hv3; have HK3 := Lib.hid hk3; clear hv3 hk3)
        go_roundg (gk - 1)
        all_goals first | omega | exact ⟨p + 1, acc ++ [92, 92], hlt, by omega, by go_num, by rw [List.length_append]; simp only [List.length_cons, List.length_nil]; omega, HV3, Lib.hid (by have h9 := HEQ.out; rw [HRR.out, ← List.append_assoc] at h9; exact h9), Lib.hid (HK.out.trans HK3.out)⟩
      have m92 : ((c.toNat : Int) == 92) = false := byte_ne (d := 92) n92
      by_cases n8 : c = 8
      · as_aux_lemma =>
        have HRR := Lib.hid (show jqc c = [92, 98] from by rw [n8]; rfl)
        subst n8
        go_wp2_with (at_builtin; refine wpList_strK ⟨#[92, 98]⟩ rfl _ _ rfl w.heap.size _ acc rfl HB.out rfl (by show acc.length + 2 ≤ _; omega) hBw ?_; intro v3 w3 hv3 hk3; have HV3 := Lib.hid hv3; have HK3 := Lib.hid hk3; clear hv3 hk3)
        go_roundg (gk - 1)
        all_goals first | omega | exact ⟨p + 1, acc ++ [92, 98], hlt, by omega, by go_num, by rw [List.length_append]; simp only [List.length_cons, List.length_nil]; omega, HV3, Lib.hid (by have h9 := HEQ.out; rw [HRR.out, ← List.append_assoc] at h9; exact h9), Lib.hid (HK.out.trans HK3.out)⟩
      have m8 : ((c.toNat : Int) == 8) = false := byte_ne (d := 8) n8
      by_cases n9 : c = 9
      · as_aux_lemma =>
        have HRR := Lib.hid (show jqc c = [92, 116] from by rw [n9]; rfl)
        subst n9
        go_wp2_with (at_builtin; refine wpList_strK ⟨#[92, 116]⟩ rfl _ _ rfl w.heap.size _ acc rfl HB.out rfl (by show acc.length + 2 ≤ _; omega) hBw ?_; intro v3 w3 hv3 hk3; have HV3 := Lib.hid hv3; have HK3 := Lib.hid hk3; clear hv3 hk3)
        go_roundg (gk - 1)
        all_goals first | omega | exact ⟨p + 1, acc ++ [92, 116], hlt, by omega, by go_num, by rw [List.length_append]; simp only [List.length_cons, List.length_nil]; omega, HV3, Lib.hid (by have h9 := HEQ.out; rw [HRR.out, ← List.append_assoc] at h9; exact h9), Lib.hid (HK.out.trans HK3.out)⟩
      have m9 : ((c.toNat : Int) == 9) = false := byte_ne (d := 9) n9
      by_cases n10 : c = 10
      · as_aux_lemma =>
        have HRR := Lib.hid (show jqc c = [92, 110] from by rw [n10]; rfl)
        subst n10
        go_wp2_with (at_builtin; refine wpList_strK ⟨#[92, 110]⟩ rfl _ _ rfl w.heap.size _ acc rfl HB.out rfl (by show acc.length + 2 ≤ _; omega) hBw ?_; intro v3 w3 hv3 hk3; have HV3 := Lib.hid hv3; have HK3 := Lib.hid hk3; clear hv3 hk3)
        go_roundg (gk - 1)
        all_goals first | omega | exact ⟨p + 1, acc ++ [92, 110], hlt, by omega, by go_num, by rw [List.length_append]; simp only [List.length_cons, List.length_nil]; omega, HV3, Lib.hid (by have h9 := HEQ.out; rw [HRR.out, ← List.append_assoc] at h9; exact h9), Lib.hid (HK.out.trans HK3.out)⟩
      have m10 : ((c.toNat : Int) == 10) = false := byte_ne (d := 10) n10
      by_cases n12 : c = 12
      · as_aux_lemma =>
        have HRR := Lib.hid (show jqc c = [92, 102] from by rw [n12]; rfl)
        subst n12
        go_wp2_with (at_builtin; refine wpList_strK ⟨#[92, 102]⟩ rfl _ _ rfl w.heap.size _ acc rfl HB.out rfl (by show acc.length + 2 ≤ _; omega) hBw ?_; intro v3 w3 hv3 hk3; have HV3 := Lib.hid hv3; have HK3 := Lib.hid hk3; clear hv3 hk3)
        go_roundg (gk - 1)
        all_goals first | omega | exact ⟨p + 1, acc ++ [92, 102], hlt, by omega, by go_num, by rw [List.length_append]; simp only [List.length_cons, List.length_nil]; omega, HV3, Lib.hid (by have h9 := HEQ.out; rw [HRR.out, ← List.append_assoc] at h9; exact h9), Lib.hid (HK.out.trans HK3.out)⟩
      have m12 : ((c.toNat : Int) == 12) = false := byte_ne (d := 12) n12
      by_cases n13 : c = 13
      · as_aux_lemma =>
        have HRR := Lib.hid (show jqc c = [92, 114] from by rw [n13]; rfl)
        subst n13
        go_wp2_with (at_builtin; refine wpList_strK ⟨#[92, 114]⟩ rfl _ _ rfl w.heap.size _ acc rfl HB.out rfl (by show acc.length + 2 ≤ _; omega) hBw ?_; intro v3 w3 hv3 hk3; have HV3 := Lib.hid hv3; have HK3 := Lib.hid hk3; clear hv3 hk3)
        go_roundg (gk - 1)
        all_goals first | omega | exact ⟨p + 1, acc ++ [92, 114], hlt, by omega, by go_num, by rw [List.length_append]; simp only [List.length_cons, List.length_nil]; omega, HV3, Lib.hid (by have h9 := HEQ.out; rw [HRR.out, ← List.append_assoc] at h9; exact h9), Lib.hid (HK.out.trans HK3.out)⟩
      have m13 : ((c.toNat : Int) == 13) = false := byte_ne (d := 13) n13
      by_cases n32 : c.toNat < 32
      · have hr32 : (c.toNat : Int) < 32 := by omega
        have HRR := Lib.hid (jqc_ctl n34 n92 n8 n9 n10 n12 n13 n32)
        have hx1 := fun W => hexIxB W (c.toNat / 16) (by omega)
        have hx2 := fun W => hexIxB W (c.toNat % 16) (by omega)
        rw [show ((c.toNat / 16 : Nat) : Int) = (c.toNat : Int) / 16 by omega] at hx1
        rw [show ((c.toNat % 16 : Nat) : Int) = (c.toNat : Int) % 16 by omega] at hx2
        generalize hexd (c.toNat / 16) = x1 at *
        generalize hexd (c.toNat % 16) = x2 at *
        go_wp2_with (at_builtin; refine wpList_strK ⟨#[92, 117, 48, 48]⟩ rfl _ _ rfl w.heap.size _ acc rfl HB.out rfl (by show acc.length + 4 ≤ _; omega) hBw ?_; intro v4 w4 hv4 hk4; have HV4 := Lib.hid hv4; have HK4 := Lib.hid hk4; have hB4 : w.heap.size ≤ w4.heap.size := Nat.le_trans hBw hk4.size; clear hv4 hk4)
        have HBd := Lib.hid (buf_ext HV4.out (Below.drew (Below.refl w4.heap.size w4)))
        have q1 : (c.toNat : Int).tdiv 16 = (c.toNat : Int) / 16 := by rw [Int.tdiv_eq_ediv_of_nonneg (by omega)]
        have q2 : (c.toNat : Int).tmod 16 = (c.toNat : Int) % 16 := by rw [Int.tmod_eq_emod_of_nonneg (by omega)]
        have q3 : IntKind.u8.wrap ((c.toNat : Int) / 16) = (c.toNat : Int) / 16 := by rw [IntKind.wrap_u8]; omega
        have q4 : IntKind.u8.wrap ((c.toNat : Int) % 16) = (c.toNat : Int) % 16 := by rw [IntKind.wrap_u8]; omega
        go_region_law (first
          | (refine step_lit (w0 := w4.drew) [x1, x2] (by rfl) _ _ (by rfl) w.heap.size _ (acc ++ [92, 117, 48, 48]) (by rfl) HBd.out (by rfl) (by rfl) (by simp only [List.length_cons, List.length_nil, List.length_append]; omega) hB4 ?_; intro v3 w3 hv3 hk3))
        all_goals have HV3 := Lib.hid hv3
        all_goals have HK3 := Lib.hid (HK4.out.trans ((K5.of_below (Below.drew (Below.refl w4.heap.size w4)) hB4).trans hk3))
        all_goals clear hv3 hk3 hx1 hx2
        all_goals go_wp2
        all_goals go_roundg (gk - 1)
        all_goals first | omega | exact ⟨p + 1, acc ++ [92, 117, 48, 48] ++ [x1, x2], hlt, by omega, by go_num, by simp only [List.length_append, List.length_cons, List.length_nil]; omega, HV3, Lib.hid (by have h9 := HEQ.out; rw [HRR.out, ← List.append_assoc, ← List.append_assoc] at h9; exact h9), Lib.hid (HK.out.trans HK3.out)⟩
      · as_aux_lemma =>
        have hr32 : ¬ (c.toNat : Int) < 32 := by omega
        have HRR := Lib.hid (jqc_lit n34 n92 n8 n9 n10 n12 n13 n32)
        go_wp2_with (at_builtin; refine wpList_lit [c] rfl _ _ rfl w.heap.size _ acc rfl HB.out rfl rfl (by simp only [List.length_cons, List.length_nil]; omega) hBw ?_; intro v3 w3 hv3 hk3; have HV3 := Lib.hid hv3; have HK3 := Lib.hid hk3; clear hv3 hk3)
        go_roundg (gk - 1)
        all_goals first | omega | exact ⟨p + 1, acc ++ [c], hlt, by omega, by go_num, by rw [List.length_append]; simp only [List.length_cons, List.length_nil]; omega, HV3, Lib.hid (by have h9 := HEQ.out; rw [HRR.out, ← List.append_assoc] at h9; exact h9), Lib.hid (HK.out.trans HK3.out)⟩
    · have hpe : p = s.size := by omega
      have hend : acc = 34 :: jqs s.data.toList := by
        have h9 := HE.out
        rw [List.drop_of_length_le (by rw [Array.length_toList]; show s.size ≤ p; omega)] at h9
        simpa [jqs] using h9
      clear HE
      go_wp2_with (at_builtin; refine wpList_lit [34] rfl _ _ rfl w.heap.size _ acc rfl HB.out rfl rfl (by simp only [List.length_cons, List.length_nil]; omega) hBw ?_; intro v3 w3 hv3 hk3; have HV3 := Lib.hid hv3; have HK3 := Lib.hid hk3; have hcv := run_buf_string byTyK hv3 9 Tryd.underlying9; clear hv3 hk3)
      go_ret
      exact ⟨rfl, (HK.out.trans HK3.out).below⟩
end Go.Proofs.YtbkbokfegjodnaaDoor
