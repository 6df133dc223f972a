/- The document reader of schemas. Conditions: what the tree holds is at most 2 to the 40. -/
import Derived.Test.YtnmojmmgkipjcaaGreatDoorSdoc
import Derived.Deep.RegionWith
import Derived.Test.YtnmojmmgkipjcaaGreatDoorRefcheckw
namespace Go.Proofs.YtnmojmmgkipjcaaGreatDoor
open Go.RowKit
set_option maxRecDepth 20000 in
set_option maxHeartbeats 8000000 in
theorem drule_additional (m : Nat) (nm : ByteArray) (hnm : nm = ⟨#[97, 100, 100, 105, 116, 105, 111, 110, 97, 108]⟩) : DRuleFor m nm := by
  intro t hm hok hbk d n hd hn cs w ok C hC hr hc
  obtain ⟨k, i, s, ns, is⟩ := t
  have hr0 := hr
  rw [rep_mk] at hr
  obtain ⟨hkk, hii, _, an, cn, ai, ci, rfl, hcn, hci, hst, hit⟩ := hr
  unfold maxLen at hcn hci
  rw [okT] at hok
  have hisl := JV.len_le is
  have hbb : is.length ≤ 1099511627776 ∧ ∀ x ∈ is, x.bulk ≤ 1099511627776 := by
    rw [JV.bulk] at hbk
    refine ⟨?_, fun x hx => by have := JV.bulk_le hx; omega⟩
    have h1 : is.length ≤ JV.bulks is := by
      clear hit hisl hci hcn hbk hr0 hok hm
      induction is with
      | nil => simp
      | cons y r ih => cases y; simp only [JV.bulks, JV.bulk, List.length_cons]; omega
    omega
  have hsz : ∀ x ∈ is, x.size ≤ m := fun x hx => by have h1 := JV.size_le hx; rw [JV.size] at hm; omega
  have hb0 : Below w.heap.size w (w.alloc (.cells #[.int .i64 k, .int .i64 i, .string s, .slice an ns.length cn, .slice ai is.length ci] 25)) := (Below.refl _ _).alloc (Nat.le_refl _) _
  obtain ⟨a0, a1, a2, a3, a4⟩ := cells5' w (.int .i64 k) (.int .i64 i) (.string s) (.slice an ns.length cn) (.slice ai is.length ci) 25
  have HC0 := Lib.hid (hc.below hb0)
  have HST := Lib.hid (hst.below hb0)
  have HIT := Lib.hid (hit.below hb0)
  have HB0 := Lib.hid hb0
  have HOK := Lib.hid hok
  have HBB := Lib.hid hbb
  have HNC := Lib.hid hC
  have hCl := hc.cells.2.2
  have hCl0 : C < (w.alloc (.cells #[.int .i64 k, .int .i64 i, .string s, .slice an ns.length cn, .slice ai is.length ci] 25)).heap.size := by simp; omega
  have hCn : w.heap.size ≠ C := by omega
  obtain ⟨⟨c0, c1⟩, ⟨f0, f1⟩, _⟩ := HC0.out.cells
  have q0 : (nm.toList == ([116, 121, 112, 101] : List UInt8)) = false := lit_f (by rw [hnm]; decide)
  have q1 : (nm.toList == ([101, 110, 117, 109] : List UInt8)) = false := lit_f (by rw [hnm]; decide)
  have q2 : (nm.toList == ([114, 101, 113, 117, 105, 114, 101, 100] : List UInt8)) = false := lit_f (by rw [hnm]; decide)
  have q3 : (nm.toList == ([97, 100, 100, 105, 116, 105, 111, 110, 97, 108] : List UInt8)) = true := lit_t hnm
  have HG := Lib.hid (show readRule (.mk k i s ns is) nm d n = given (leafOk nm (.mk k i s ns is)) n by rw [hnm, readRule, if_neg (by decide), if_neg (by decide), if_neg (by decide)])
  have HV := Lib.hid (show leafOk nm (.mk k i s ns is) = (decide (k = 2) || decide (k = 1)) by rw [hnm]; unfold leafOk; rw [if_neg (by decide), if_neg (by decide), if_neg (by decide), if_pos (by decide)]; rfl)
  have HNM := Lib.hid hnm
  clear hnm hr0
  clear hc hst hit hb0 hok hbb hsz hC hkk hii hm hbk
  by_cases h2 : k = 2
  · have e2 : (k == 2) = true := by simp [h2]
    have HT := Lib.hid (show readRule (.mk k i s ns is) nm d n = .ok n by rw [HG.out, HV.out]; simp [h2, given])
    clear h2 HG HV
    go_enter Tryz.func28, Tryz.ntmps28
    go_wp2
    go_end0
    exact dpost_ok HB0.out HC0.out HT.out hn
  · have e2 : (k == 2) = false := by simp [h2]
    by_cases h1 : k = 1
    · have e1 : (k == 1) = true := by simp [h1]
      have HT := Lib.hid (show readRule (.mk k i s ns is) nm d n = .ok n by rw [HG.out, HV.out]; simp [h1, given])
      clear h2 h1 HG HV
      go_enter Tryz.func28, Tryz.ntmps28
      go_wp2
      go_end0
      exact dpost_ok HB0.out HC0.out HT.out hn
    · have e1 : (k == 1) = false := by simp [h1]
      have HT := Lib.hid (show readRule (.mk k i s ns is) nm d n = .bad 210 by rw [HG.out, HV.out]; simp [h1, h2, given])
      clear h2 h1 HG HV
      go_enter Tryz.func28, Tryz.ntmps28
      go_wp2_with (go_at_call 27; refine (dfails_c C n 210 _ HC0.out).mono ?_; rintro e w1 ⟨rfl, hw1⟩; have HW1 := Lib.hid hw1; clear hw1)
      go_end0
      exact dpost_bad HB0.out HC0.out HT.out (by omega) (by omega) HW1.out
set_option maxRecDepth 20000 in
set_option maxHeartbeats 8000000 in
theorem drule_minItems (m : Nat) (nm : ByteArray) (hnm : nm = ⟨#[109, 105, 110, 73, 116, 101, 109, 115]⟩) : DRuleFor m nm := by
  intro t hm hok hbk d n hd hn cs w ok C hC hr hc
  obtain ⟨k, i, s, ns, is⟩ := t
  have hr0 := hr
  rw [rep_mk] at hr
  obtain ⟨hkk, hii, _, an, cn, ai, ci, rfl, hcn, hci, hst, hit⟩ := hr
  unfold maxLen at hcn hci
  rw [okT] at hok
  have hisl := JV.len_le is
  have hbb : is.length ≤ 1099511627776 ∧ ∀ x ∈ is, x.bulk ≤ 1099511627776 := by
    rw [JV.bulk] at hbk
    refine ⟨?_, fun x hx => by have := JV.bulk_le hx; omega⟩
    have h1 : is.length ≤ JV.bulks is := by
      clear hit hisl hci hcn hbk hr0 hok hm
      induction is with
      | nil => simp
      | cons y r ih => cases y; simp only [JV.bulks, JV.bulk, List.length_cons]; omega
    omega
  have hsz : ∀ x ∈ is, x.size ≤ m := fun x hx => by have h1 := JV.size_le hx; rw [JV.size] at hm; omega
  have hb0 : Below w.heap.size w (w.alloc (.cells #[.int .i64 k, .int .i64 i, .string s, .slice an ns.length cn, .slice ai is.length ci] 25)) := (Below.refl _ _).alloc (Nat.le_refl _) _
  obtain ⟨a0, a1, a2, a3, a4⟩ := cells5' w (.int .i64 k) (.int .i64 i) (.string s) (.slice an ns.length cn) (.slice ai is.length ci) 25
  have HC0 := Lib.hid (hc.below hb0)
  have HST := Lib.hid (hst.below hb0)
  have HIT := Lib.hid (hit.below hb0)
  have HB0 := Lib.hid hb0
  have HOK := Lib.hid hok
  have HBB := Lib.hid hbb
  have HNC := Lib.hid hC
  have hCl := hc.cells.2.2
  have hCl0 : C < (w.alloc (.cells #[.int .i64 k, .int .i64 i, .string s, .slice an ns.length cn, .slice ai is.length ci] 25)).heap.size := by simp; omega
  have hCn : w.heap.size ≠ C := by omega
  obtain ⟨⟨c0, c1⟩, ⟨f0, f1⟩, _⟩ := HC0.out.cells
  have q0 : (nm.toList == ([116, 121, 112, 101] : List UInt8)) = false := lit_f (by rw [hnm]; decide)
  have q1 : (nm.toList == ([101, 110, 117, 109] : List UInt8)) = false := lit_f (by rw [hnm]; decide)
  have q2 : (nm.toList == ([114, 101, 113, 117, 105, 114, 101, 100] : List UInt8)) = false := lit_f (by rw [hnm]; decide)
  have q3 : (nm.toList == ([97, 100, 100, 105, 116, 105, 111, 110, 97, 108] : List UInt8)) = false := lit_f (by rw [hnm]; decide)
  have q4 : (nm.toList == ([109, 105, 110, 73, 116, 101, 109, 115] : List UInt8)) = true := lit_t hnm
  have HG := Lib.hid (show readRule (.mk k i s ns is) nm d n = given (leafOk nm (.mk k i s ns is)) n by rw [hnm, readRule, if_neg (by decide), if_neg (by decide), if_neg (by decide)])
  have HV := Lib.hid (show leafOk nm (.mk k i s ns is) = (decide (k = 3) && decide (0 ≤ i)) by rw [hnm]; unfold leafOk; rw [if_neg (by decide), if_neg (by decide), if_neg (by decide), if_neg (by decide), if_pos (by decide)]; rfl)
  have HNM := Lib.hid hnm
  clear hnm hr0
  clear hc hst hit hb0 hok hbb hsz hC hkk hii hm hbk
  by_cases h3 : k = 3
  · have e3 : (k == 3) = true := by simp [h3]
    by_cases h0 : (0 : Int) ≤ i
    · have HT := Lib.hid (show readRule (.mk k i s ns is) nm d n = .ok n by rw [HG.out, HV.out]; simp [h3, h0, given])
      clear h3 HG HV
      go_enter Tryz.func28, Tryz.ntmps28
      go_wp2
      go_end0
      exact dpost_ok HB0.out HC0.out HT.out hn
    · have h00 : decide ((0 : Int) ≤ i) = false := by simpa using h0
      have HT := Lib.hid (show readRule (.mk k i s ns is) nm d n = .bad 210 by rw [HG.out, HV.out]; simp [h3, h0, given])
      clear h3 h0 HG HV
      go_enter Tryz.func28, Tryz.ntmps28
      go_wp2_with (go_at_call 27; refine (dfails_c C n 210 _ HC0.out).mono ?_; rintro e w1 ⟨rfl, hw1⟩; have HW1 := Lib.hid hw1; clear hw1)
      go_end0
      exact dpost_bad HB0.out HC0.out HT.out (by omega) (by omega) HW1.out
  · have e3 : (k == 3) = false := by simp [h3]
    have HT := Lib.hid (show readRule (.mk k i s ns is) nm d n = .bad 210 by rw [HG.out, HV.out]; simp [h3, given])
    clear h3 HG HV
    go_enter Tryz.func28, Tryz.ntmps28
    go_wp2_with (go_at_call 27; refine (dfails_c C n 210 _ HC0.out).mono ?_; rintro e w1 ⟨rfl, hw1⟩; have HW1 := Lib.hid hw1; clear hw1)
    go_end0
    exact dpost_bad HB0.out HC0.out HT.out (by omega) (by omega) HW1.out
set_option maxRecDepth 20000 in
set_option maxHeartbeats 8000000 in
theorem drule_maxItems (m : Nat) (nm : ByteArray) (hnm : nm = ⟨#[109, 97, 120, 73, 116, 101, 109, 115]⟩) : DRuleFor m nm := by
  intro t hm hok hbk d n hd hn cs w ok C hC hr hc
  obtain ⟨k, i, s, ns, is⟩ := t
  have hr0 := hr
  rw [rep_mk] at hr
  obtain ⟨hkk, hii, _, an, cn, ai, ci, rfl, hcn, hci, hst, hit⟩ := hr
  unfold maxLen at hcn hci
  rw [okT] at hok
  have hisl := JV.len_le is
  have hbb : is.length ≤ 1099511627776 ∧ ∀ x ∈ is, x.bulk ≤ 1099511627776 := by
    rw [JV.bulk] at hbk
    refine ⟨?_, fun x hx => by have := JV.bulk_le hx; omega⟩
    have h1 : is.length ≤ JV.bulks is := by
      clear hit hisl hci hcn hbk hr0 hok hm
      induction is with
      | nil => simp
      | cons y r ih => cases y; simp only [JV.bulks, JV.bulk, List.length_cons]; omega
    omega
  have hsz : ∀ x ∈ is, x.size ≤ m := fun x hx => by have h1 := JV.size_le hx; rw [JV.size] at hm; omega
  have hb0 : Below w.heap.size w (w.alloc (.cells #[.int .i64 k, .int .i64 i, .string s, .slice an ns.length cn, .slice ai is.length ci] 25)) := (Below.refl _ _).alloc (Nat.le_refl _) _
  obtain ⟨a0, a1, a2, a3, a4⟩ := cells5' w (.int .i64 k) (.int .i64 i) (.string s) (.slice an ns.length cn) (.slice ai is.length ci) 25
  have HC0 := Lib.hid (hc.below hb0)
  have HST := Lib.hid (hst.below hb0)
  have HIT := Lib.hid (hit.below hb0)
  have HB0 := Lib.hid hb0
  have HOK := Lib.hid hok
  have HBB := Lib.hid hbb
  have HNC := Lib.hid hC
  have hCl := hc.cells.2.2
  have hCl0 : C < (w.alloc (.cells #[.int .i64 k, .int .i64 i, .string s, .slice an ns.length cn, .slice ai is.length ci] 25)).heap.size := by simp; omega
  have hCn : w.heap.size ≠ C := by omega
  obtain ⟨⟨c0, c1⟩, ⟨f0, f1⟩, _⟩ := HC0.out.cells
  have q0 : (nm.toList == ([116, 121, 112, 101] : List UInt8)) = false := lit_f (by rw [hnm]; decide)
  have q1 : (nm.toList == ([101, 110, 117, 109] : List UInt8)) = false := lit_f (by rw [hnm]; decide)
  have q2 : (nm.toList == ([114, 101, 113, 117, 105, 114, 101, 100] : List UInt8)) = false := lit_f (by rw [hnm]; decide)
  have q3 : (nm.toList == ([97, 100, 100, 105, 116, 105, 111, 110, 97, 108] : List UInt8)) = false := lit_f (by rw [hnm]; decide)
  have q4 : (nm.toList == ([109, 105, 110, 73, 116, 101, 109, 115] : List UInt8)) = false := lit_f (by rw [hnm]; decide)
  have q5 : (nm.toList == ([109, 97, 120, 73, 116, 101, 109, 115] : List UInt8)) = true := lit_t hnm
  have HG := Lib.hid (show readRule (.mk k i s ns is) nm d n = given (leafOk nm (.mk k i s ns is)) n by rw [hnm, readRule, if_neg (by decide), if_neg (by decide), if_neg (by decide)])
  have HV := Lib.hid (show leafOk nm (.mk k i s ns is) = (decide (k = 3) && decide (0 ≤ i)) by rw [hnm]; unfold leafOk; rw [if_neg (by decide), if_neg (by decide), if_neg (by decide), if_neg (by decide), if_pos (by decide)]; rfl)
  have HNM := Lib.hid hnm
  clear hnm hr0
  clear hc hst hit hb0 hok hbb hsz hC hkk hii hm hbk
  by_cases h3 : k = 3
  · have e3 : (k == 3) = true := by simp [h3]
    by_cases h0 : (0 : Int) ≤ i
    · have HT := Lib.hid (show readRule (.mk k i s ns is) nm d n = .ok n by rw [HG.out, HV.out]; simp [h3, h0, given])
      clear h3 HG HV
      go_enter Tryz.func28, Tryz.ntmps28
      go_wp2
      go_end0
      exact dpost_ok HB0.out HC0.out HT.out hn
    · have h00 : decide ((0 : Int) ≤ i) = false := by simpa using h0
      have HT := Lib.hid (show readRule (.mk k i s ns is) nm d n = .bad 210 by rw [HG.out, HV.out]; simp [h3, h0, given])
      clear h3 h0 HG HV
      go_enter Tryz.func28, Tryz.ntmps28
      go_wp2_with (go_at_call 27; refine (dfails_c C n 210 _ HC0.out).mono ?_; rintro e w1 ⟨rfl, hw1⟩; have HW1 := Lib.hid hw1; clear hw1)
      go_end0
      exact dpost_bad HB0.out HC0.out HT.out (by omega) (by omega) HW1.out
  · have e3 : (k == 3) = false := by simp [h3]
    have HT := Lib.hid (show readRule (.mk k i s ns is) nm d n = .bad 210 by rw [HG.out, HV.out]; simp [h3, given])
    clear h3 HG HV
    go_enter Tryz.func28, Tryz.ntmps28
    go_wp2_with (go_at_call 27; refine (dfails_c C n 210 _ HC0.out).mono ?_; rintro e w1 ⟨rfl, hw1⟩; have HW1 := Lib.hid hw1; clear hw1)
    go_end0
    exact dpost_bad HB0.out HC0.out HT.out (by omega) (by omega) HW1.out
set_option maxRecDepth 20000 in
set_option maxHeartbeats 8000000 in
theorem drule_minLength (m : Nat) (nm : ByteArray) (hnm : nm = ⟨#[109, 105, 110, 76, 101, 110, 103, 116, 104]⟩) : DRuleFor m nm := by
  intro t hm hok hbk d n hd hn cs w ok C hC hr hc
  obtain ⟨k, i, s, ns, is⟩ := t
  have hr0 := hr
  rw [rep_mk] at hr
  obtain ⟨hkk, hii, _, an, cn, ai, ci, rfl, hcn, hci, hst, hit⟩ := hr
  unfold maxLen at hcn hci
  rw [okT] at hok
  have hisl := JV.len_le is
  have hbb : is.length ≤ 1099511627776 ∧ ∀ x ∈ is, x.bulk ≤ 1099511627776 := by
    rw [JV.bulk] at hbk
    refine ⟨?_, fun x hx => by have := JV.bulk_le hx; omega⟩
    have h1 : is.length ≤ JV.bulks is := by
      clear hit hisl hci hcn hbk hr0 hok hm
      induction is with
      | nil => simp
      | cons y r ih => cases y; simp only [JV.bulks, JV.bulk, List.length_cons]; omega
    omega
  have hsz : ∀ x ∈ is, x.size ≤ m := fun x hx => by have h1 := JV.size_le hx; rw [JV.size] at hm; omega
  have hb0 : Below w.heap.size w (w.alloc (.cells #[.int .i64 k, .int .i64 i, .string s, .slice an ns.length cn, .slice ai is.length ci] 25)) := (Below.refl _ _).alloc (Nat.le_refl _) _
  obtain ⟨a0, a1, a2, a3, a4⟩ := cells5' w (.int .i64 k) (.int .i64 i) (.string s) (.slice an ns.length cn) (.slice ai is.length ci) 25
  have HC0 := Lib.hid (hc.below hb0)
  have HST := Lib.hid (hst.below hb0)
  have HIT := Lib.hid (hit.below hb0)
  have HB0 := Lib.hid hb0
  have HOK := Lib.hid hok
  have HBB := Lib.hid hbb
  have HNC := Lib.hid hC
  have hCl := hc.cells.2.2
  have hCl0 : C < (w.alloc (.cells #[.int .i64 k, .int .i64 i, .string s, .slice an ns.length cn, .slice ai is.length ci] 25)).heap.size := by simp; omega
  have hCn : w.heap.size ≠ C := by omega
  obtain ⟨⟨c0, c1⟩, ⟨f0, f1⟩, _⟩ := HC0.out.cells
  have q0 : (nm.toList == ([116, 121, 112, 101] : List UInt8)) = false := lit_f (by rw [hnm]; decide)
  have q1 : (nm.toList == ([101, 110, 117, 109] : List UInt8)) = false := lit_f (by rw [hnm]; decide)
  have q2 : (nm.toList == ([114, 101, 113, 117, 105, 114, 101, 100] : List UInt8)) = false := lit_f (by rw [hnm]; decide)
  have q3 : (nm.toList == ([97, 100, 100, 105, 116, 105, 111, 110, 97, 108] : List UInt8)) = false := lit_f (by rw [hnm]; decide)
  have q4 : (nm.toList == ([109, 105, 110, 73, 116, 101, 109, 115] : List UInt8)) = false := lit_f (by rw [hnm]; decide)
  have q5 : (nm.toList == ([109, 97, 120, 73, 116, 101, 109, 115] : List UInt8)) = false := lit_f (by rw [hnm]; decide)
  have q6 : (nm.toList == ([109, 105, 110, 76, 101, 110, 103, 116, 104] : List UInt8)) = true := lit_t hnm
  have HG := Lib.hid (show readRule (.mk k i s ns is) nm d n = given (leafOk nm (.mk k i s ns is)) n by rw [hnm, readRule, if_neg (by decide), if_neg (by decide), if_neg (by decide)])
  have HV := Lib.hid (show leafOk nm (.mk k i s ns is) = (decide (k = 3) && decide (0 ≤ i)) by rw [hnm]; unfold leafOk; rw [if_neg (by decide), if_neg (by decide), if_neg (by decide), if_neg (by decide), if_pos (by decide)]; rfl)
  have HNM := Lib.hid hnm
  clear hnm hr0
  clear hc hst hit hb0 hok hbb hsz hC hkk hii hm hbk
  by_cases h3 : k = 3
  · have e3 : (k == 3) = true := by simp [h3]
    by_cases h0 : (0 : Int) ≤ i
    · have HT := Lib.hid (show readRule (.mk k i s ns is) nm d n = .ok n by rw [HG.out, HV.out]; simp [h3, h0, given])
      clear h3 HG HV
      go_enter Tryz.func28, Tryz.ntmps28
      go_wp2
      go_end0
      exact dpost_ok HB0.out HC0.out HT.out hn
    · have h00 : decide ((0 : Int) ≤ i) = false := by simpa using h0
      have HT := Lib.hid (show readRule (.mk k i s ns is) nm d n = .bad 210 by rw [HG.out, HV.out]; simp [h3, h0, given])
      clear h3 h0 HG HV
      go_enter Tryz.func28, Tryz.ntmps28
      go_wp2_with (go_at_call 27; refine (dfails_c C n 210 _ HC0.out).mono ?_; rintro e w1 ⟨rfl, hw1⟩; have HW1 := Lib.hid hw1; clear hw1)
      go_end0
      exact dpost_bad HB0.out HC0.out HT.out (by omega) (by omega) HW1.out
  · have e3 : (k == 3) = false := by simp [h3]
    have HT := Lib.hid (show readRule (.mk k i s ns is) nm d n = .bad 210 by rw [HG.out, HV.out]; simp [h3, given])
    clear h3 HG HV
    go_enter Tryz.func28, Tryz.ntmps28
    go_wp2_with (go_at_call 27; refine (dfails_c C n 210 _ HC0.out).mono ?_; rintro e w1 ⟨rfl, hw1⟩; have HW1 := Lib.hid hw1; clear hw1)
    go_end0
    exact dpost_bad HB0.out HC0.out HT.out (by omega) (by omega) HW1.out
set_option maxRecDepth 20000 in
set_option maxHeartbeats 8000000 in
theorem drule_maxLength (m : Nat) (nm : ByteArray) (hnm : nm = ⟨#[109, 97, 120, 76, 101, 110, 103, 116, 104]⟩) : DRuleFor m nm := by
  intro t hm hok hbk d n hd hn cs w ok C hC hr hc
  obtain ⟨k, i, s, ns, is⟩ := t
  have hr0 := hr
  rw [rep_mk] at hr
  obtain ⟨hkk, hii, _, an, cn, ai, ci, rfl, hcn, hci, hst, hit⟩ := hr
  unfold maxLen at hcn hci
  rw [okT] at hok
  have hisl := JV.len_le is
  have hbb : is.length ≤ 1099511627776 ∧ ∀ x ∈ is, x.bulk ≤ 1099511627776 := by
    rw [JV.bulk] at hbk
    refine ⟨?_, fun x hx => by have := JV.bulk_le hx; omega⟩
    have h1 : is.length ≤ JV.bulks is := by
      clear hit hisl hci hcn hbk hr0 hok hm
      induction is with
      | nil => simp
      | cons y r ih => cases y; simp only [JV.bulks, JV.bulk, List.length_cons]; omega
    omega
  have hsz : ∀ x ∈ is, x.size ≤ m := fun x hx => by have h1 := JV.size_le hx; rw [JV.size] at hm; omega
  have hb0 : Below w.heap.size w (w.alloc (.cells #[.int .i64 k, .int .i64 i, .string s, .slice an ns.length cn, .slice ai is.length ci] 25)) := (Below.refl _ _).alloc (Nat.le_refl _) _
  obtain ⟨a0, a1, a2, a3, a4⟩ := cells5' w (.int .i64 k) (.int .i64 i) (.string s) (.slice an ns.length cn) (.slice ai is.length ci) 25
  have HC0 := Lib.hid (hc.below hb0)
  have HST := Lib.hid (hst.below hb0)
  have HIT := Lib.hid (hit.below hb0)
  have HB0 := Lib.hid hb0
  have HOK := Lib.hid hok
  have HBB := Lib.hid hbb
  have HNC := Lib.hid hC
  have hCl := hc.cells.2.2
  have hCl0 : C < (w.alloc (.cells #[.int .i64 k, .int .i64 i, .string s, .slice an ns.length cn, .slice ai is.length ci] 25)).heap.size := by simp; omega
  have hCn : w.heap.size ≠ C := by omega
  obtain ⟨⟨c0, c1⟩, ⟨f0, f1⟩, _⟩ := HC0.out.cells
  have q0 : (nm.toList == ([116, 121, 112, 101] : List UInt8)) = false := lit_f (by rw [hnm]; decide)
  have q1 : (nm.toList == ([101, 110, 117, 109] : List UInt8)) = false := lit_f (by rw [hnm]; decide)
  have q2 : (nm.toList == ([114, 101, 113, 117, 105, 114, 101, 100] : List UInt8)) = false := lit_f (by rw [hnm]; decide)
  have q3 : (nm.toList == ([97, 100, 100, 105, 116, 105, 111, 110, 97, 108] : List UInt8)) = false := lit_f (by rw [hnm]; decide)
  have q4 : (nm.toList == ([109, 105, 110, 73, 116, 101, 109, 115] : List UInt8)) = false := lit_f (by rw [hnm]; decide)
  have q5 : (nm.toList == ([109, 97, 120, 73, 116, 101, 109, 115] : List UInt8)) = false := lit_f (by rw [hnm]; decide)
  have q6 : (nm.toList == ([109, 105, 110, 76, 101, 110, 103, 116, 104] : List UInt8)) = false := lit_f (by rw [hnm]; decide)
  have q7 : (nm.toList == ([109, 97, 120, 76, 101, 110, 103, 116, 104] : List UInt8)) = true := lit_t hnm
  have HG := Lib.hid (show readRule (.mk k i s ns is) nm d n = given (leafOk nm (.mk k i s ns is)) n by rw [hnm, readRule, if_neg (by decide), if_neg (by decide), if_neg (by decide)])
  have HV := Lib.hid (show leafOk nm (.mk k i s ns is) = (decide (k = 3) && decide (0 ≤ i)) by rw [hnm]; unfold leafOk; rw [if_neg (by decide), if_neg (by decide), if_neg (by decide), if_neg (by decide), if_pos (by decide)]; rfl)
  have HNM := Lib.hid hnm
  clear hnm hr0
  clear hc hst hit hb0 hok hbb hsz hC hkk hii hm hbk
  by_cases h3 : k = 3
  · have e3 : (k == 3) = true := by simp [h3]
    by_cases h0 : (0 : Int) ≤ i
    · have HT := Lib.hid (show readRule (.mk k i s ns is) nm d n = .ok n by rw [HG.out, HV.out]; simp [h3, h0, given])
      clear h3 HG HV
      go_enter Tryz.func28, Tryz.ntmps28
      go_wp2
      go_end0
      exact dpost_ok HB0.out HC0.out HT.out hn
    · have h00 : decide ((0 : Int) ≤ i) = false := by simpa using h0
      have HT := Lib.hid (show readRule (.mk k i s ns is) nm d n = .bad 210 by rw [HG.out, HV.out]; simp [h3, h0, given])
      clear h3 h0 HG HV
      go_enter Tryz.func28, Tryz.ntmps28
      go_wp2_with (go_at_call 27; refine (dfails_c C n 210 _ HC0.out).mono ?_; rintro e w1 ⟨rfl, hw1⟩; have HW1 := Lib.hid hw1; clear hw1)
      go_end0
      exact dpost_bad HB0.out HC0.out HT.out (by omega) (by omega) HW1.out
  · have e3 : (k == 3) = false := by simp [h3]
    have HT := Lib.hid (show readRule (.mk k i s ns is) nm d n = .bad 210 by rw [HG.out, HV.out]; simp [h3, given])
    clear h3 HG HV
    go_enter Tryz.func28, Tryz.ntmps28
    go_wp2_with (go_at_call 27; refine (dfails_c C n 210 _ HC0.out).mono ?_; rintro e w1 ⟨rfl, hw1⟩; have HW1 := Lib.hid hw1; clear hw1)
    go_end0
    exact dpost_bad HB0.out HC0.out HT.out (by omega) (by omega) HW1.out
set_option maxRecDepth 20000 in
set_option maxHeartbeats 8000000 in
theorem drule_minimum (m : Nat) (nm : ByteArray) (hnm : nm = ⟨#[109, 105, 110, 105, 109, 117, 109]⟩) : DRuleFor m nm := by
  intro t hm hok hbk d n hd hn cs w ok C hC hr hc
  obtain ⟨k, i, s, ns, is⟩ := t
  have hr0 := hr
  rw [rep_mk] at hr
  obtain ⟨hkk, hii, _, an, cn, ai, ci, rfl, hcn, hci, hst, hit⟩ := hr
  unfold maxLen at hcn hci
  rw [okT] at hok
  have hisl := JV.len_le is
  have hbb : is.length ≤ 1099511627776 ∧ ∀ x ∈ is, x.bulk ≤ 1099511627776 := by
    rw [JV.bulk] at hbk
    refine ⟨?_, fun x hx => by have := JV.bulk_le hx; omega⟩
    have h1 : is.length ≤ JV.bulks is := by
      clear hit hisl hci hcn hbk hr0 hok hm
      induction is with
      | nil => simp
      | cons y r ih => cases y; simp only [JV.bulks, JV.bulk, List.length_cons]; omega
    omega
  have hsz : ∀ x ∈ is, x.size ≤ m := fun x hx => by have h1 := JV.size_le hx; rw [JV.size] at hm; omega
  have hb0 : Below w.heap.size w (w.alloc (.cells #[.int .i64 k, .int .i64 i, .string s, .slice an ns.length cn, .slice ai is.length ci] 25)) := (Below.refl _ _).alloc (Nat.le_refl _) _
  obtain ⟨a0, a1, a2, a3, a4⟩ := cells5' w (.int .i64 k) (.int .i64 i) (.string s) (.slice an ns.length cn) (.slice ai is.length ci) 25
  have HC0 := Lib.hid (hc.below hb0)
  have HST := Lib.hid (hst.below hb0)
  have HIT := Lib.hid (hit.below hb0)
  have HB0 := Lib.hid hb0
  have HOK := Lib.hid hok
  have HBB := Lib.hid hbb
  have HNC := Lib.hid hC
  have hCl := hc.cells.2.2
  have hCl0 : C < (w.alloc (.cells #[.int .i64 k, .int .i64 i, .string s, .slice an ns.length cn, .slice ai is.length ci] 25)).heap.size := by simp; omega
  have hCn : w.heap.size ≠ C := by omega
  obtain ⟨⟨c0, c1⟩, ⟨f0, f1⟩, _⟩ := HC0.out.cells
  have q0 : (nm.toList == ([116, 121, 112, 101] : List UInt8)) = false := lit_f (by rw [hnm]; decide)
  have q1 : (nm.toList == ([101, 110, 117, 109] : List UInt8)) = false := lit_f (by rw [hnm]; decide)
  have q2 : (nm.toList == ([114, 101, 113, 117, 105, 114, 101, 100] : List UInt8)) = false := lit_f (by rw [hnm]; decide)
  have q3 : (nm.toList == ([97, 100, 100, 105, 116, 105, 111, 110, 97, 108] : List UInt8)) = false := lit_f (by rw [hnm]; decide)
  have q4 : (nm.toList == ([109, 105, 110, 73, 116, 101, 109, 115] : List UInt8)) = false := lit_f (by rw [hnm]; decide)
  have q5 : (nm.toList == ([109, 97, 120, 73, 116, 101, 109, 115] : List UInt8)) = false := lit_f (by rw [hnm]; decide)
  have q6 : (nm.toList == ([109, 105, 110, 76, 101, 110, 103, 116, 104] : List UInt8)) = false := lit_f (by rw [hnm]; decide)
  have q7 : (nm.toList == ([109, 97, 120, 76, 101, 110, 103, 116, 104] : List UInt8)) = false := lit_f (by rw [hnm]; decide)
  have q8 : (nm.toList == ([109, 105, 110, 105, 109, 117, 109] : List UInt8)) = true := lit_t hnm
  have HG := Lib.hid (show readRule (.mk k i s ns is) nm d n = given (leafOk nm (.mk k i s ns is)) n by rw [hnm, readRule, if_neg (by decide), if_neg (by decide), if_neg (by decide)])
  have HV := Lib.hid (show leafOk nm (.mk k i s ns is) = decide (k = 3) by rw [hnm]; unfold leafOk; rw [if_neg (by decide), if_neg (by decide), if_neg (by decide), if_neg (by decide), if_neg (by decide), if_pos (by decide)]; rfl)
  have HNM := Lib.hid hnm
  clear hnm hr0
  clear hc hst hit hb0 hok hbb hsz hC hkk hii hm hbk
  by_cases h3 : k = 3
  · have e3 : (k == 3) = true := by simp [h3]
    have HT := Lib.hid (show readRule (.mk k i s ns is) nm d n = .ok n by rw [HG.out, HV.out]; simp [h3, given])
    clear h3 HG HV
    go_enter Tryz.func28, Tryz.ntmps28
    go_wp2
    go_end0
    exact dpost_ok HB0.out HC0.out HT.out hn
  · have e3 : (k == 3) = false := by simp [h3]
    have HT := Lib.hid (show readRule (.mk k i s ns is) nm d n = .bad 210 by rw [HG.out, HV.out]; simp [h3, given])
    clear h3 HG HV
    go_enter Tryz.func28, Tryz.ntmps28
    go_wp2_with (go_at_call 27; refine (dfails_c C n 210 _ HC0.out).mono ?_; rintro e w1 ⟨rfl, hw1⟩; have HW1 := Lib.hid hw1; clear hw1)
    go_end0
    exact dpost_bad HB0.out HC0.out HT.out (by omega) (by omega) HW1.out
set_option maxRecDepth 20000 in
set_option maxHeartbeats 8000000 in
theorem drule_maximum (m : Nat) (nm : ByteArray) (hnm : nm = ⟨#[109, 97, 120, 105, 109, 117, 109]⟩) : DRuleFor m nm := by
  intro t hm hok hbk d n hd hn cs w ok C hC hr hc
  obtain ⟨k, i, s, ns, is⟩ := t
  have hr0 := hr
  rw [rep_mk] at hr
  obtain ⟨hkk, hii, _, an, cn, ai, ci, rfl, hcn, hci, hst, hit⟩ := hr
  unfold maxLen at hcn hci
  rw [okT] at hok
  have hisl := JV.len_le is
  have hbb : is.length ≤ 1099511627776 ∧ ∀ x ∈ is, x.bulk ≤ 1099511627776 := by
    rw [JV.bulk] at hbk
    refine ⟨?_, fun x hx => by have := JV.bulk_le hx; omega⟩
    have h1 : is.length ≤ JV.bulks is := by
      clear hit hisl hci hcn hbk hr0 hok hm
      induction is with
      | nil => simp
      | cons y r ih => cases y; simp only [JV.bulks, JV.bulk, List.length_cons]; omega
    omega
  have hsz : ∀ x ∈ is, x.size ≤ m := fun x hx => by have h1 := JV.size_le hx; rw [JV.size] at hm; omega
  have hb0 : Below w.heap.size w (w.alloc (.cells #[.int .i64 k, .int .i64 i, .string s, .slice an ns.length cn, .slice ai is.length ci] 25)) := (Below.refl _ _).alloc (Nat.le_refl _) _
  obtain ⟨a0, a1, a2, a3, a4⟩ := cells5' w (.int .i64 k) (.int .i64 i) (.string s) (.slice an ns.length cn) (.slice ai is.length ci) 25
  have HC0 := Lib.hid (hc.below hb0)
  have HST := Lib.hid (hst.below hb0)
  have HIT := Lib.hid (hit.below hb0)
  have HB0 := Lib.hid hb0
  have HOK := Lib.hid hok
  have HBB := Lib.hid hbb
  have HNC := Lib.hid hC
  have hCl := hc.cells.2.2
  have hCl0 : C < (w.alloc (.cells #[.int .i64 k, .int .i64 i, .string s, .slice an ns.length cn, .slice ai is.length ci] 25)).heap.size := by simp; omega
  have hCn : w.heap.size ≠ C := by omega
  obtain ⟨⟨c0, c1⟩, ⟨f0, f1⟩, _⟩ := HC0.out.cells
  have q0 : (nm.toList == ([116, 121, 112, 101] : List UInt8)) = false := lit_f (by rw [hnm]; decide)
  have q1 : (nm.toList == ([101, 110, 117, 109] : List UInt8)) = false := lit_f (by rw [hnm]; decide)
  have q2 : (nm.toList == ([114, 101, 113, 117, 105, 114, 101, 100] : List UInt8)) = false := lit_f (by rw [hnm]; decide)
  have q3 : (nm.toList == ([97, 100, 100, 105, 116, 105, 111, 110, 97, 108] : List UInt8)) = false := lit_f (by rw [hnm]; decide)
  have q4 : (nm.toList == ([109, 105, 110, 73, 116, 101, 109, 115] : List UInt8)) = false := lit_f (by rw [hnm]; decide)
  have q5 : (nm.toList == ([109, 97, 120, 73, 116, 101, 109, 115] : List UInt8)) = false := lit_f (by rw [hnm]; decide)
  have q6 : (nm.toList == ([109, 105, 110, 76, 101, 110, 103, 116, 104] : List UInt8)) = false := lit_f (by rw [hnm]; decide)
  have q7 : (nm.toList == ([109, 97, 120, 76, 101, 110, 103, 116, 104] : List UInt8)) = false := lit_f (by rw [hnm]; decide)
  have q8 : (nm.toList == ([109, 105, 110, 105, 109, 117, 109] : List UInt8)) = false := lit_f (by rw [hnm]; decide)
  have q9 : (nm.toList == ([109, 97, 120, 105, 109, 117, 109] : List UInt8)) = true := lit_t hnm
  have HG := Lib.hid (show readRule (.mk k i s ns is) nm d n = given (leafOk nm (.mk k i s ns is)) n by rw [hnm, readRule, if_neg (by decide), if_neg (by decide), if_neg (by decide)])
  have HV := Lib.hid (show leafOk nm (.mk k i s ns is) = decide (k = 3) by rw [hnm]; unfold leafOk; rw [if_neg (by decide), if_neg (by decide), if_neg (by decide), if_neg (by decide), if_neg (by decide), if_pos (by decide)]; rfl)
  have HNM := Lib.hid hnm
  clear hnm hr0
  clear hc hst hit hb0 hok hbb hsz hC hkk hii hm hbk
  by_cases h3 : k = 3
  · have e3 : (k == 3) = true := by simp [h3]
    have HT := Lib.hid (show readRule (.mk k i s ns is) nm d n = .ok n by rw [HG.out, HV.out]; simp [h3, given])
    clear h3 HG HV
    go_enter Tryz.func28, Tryz.ntmps28
    go_wp2
    go_end0
    exact dpost_ok HB0.out HC0.out HT.out hn
  · have e3 : (k == 3) = false := by simp [h3]
    have HT := Lib.hid (show readRule (.mk k i s ns is) nm d n = .bad 210 by rw [HG.out, HV.out]; simp [h3, given])
    clear h3 HG HV
    go_enter Tryz.func28, Tryz.ntmps28
    go_wp2_with (go_at_call 27; refine (dfails_c C n 210 _ HC0.out).mono ?_; rintro e w1 ⟨rfl, hw1⟩; have HW1 := Lib.hid hw1; clear hw1)
    go_end0
    exact dpost_bad HB0.out HC0.out HT.out (by omega) (by omega) HW1.out
set_option maxRecDepth 20000 in
set_option maxHeartbeats 8000000 in
theorem drule_divisible (m : Nat) (nm : ByteArray) (hnm : nm = ⟨#[100, 105, 118, 105, 115, 105, 98, 108, 101]⟩) : DRuleFor m nm := by
  intro t hm hok hbk d n hd hn cs w ok C hC hr hc
  obtain ⟨k, i, s, ns, is⟩ := t
  have hr0 := hr
  rw [rep_mk] at hr
  obtain ⟨hkk, hii, _, an, cn, ai, ci, rfl, hcn, hci, hst, hit⟩ := hr
  unfold maxLen at hcn hci
  rw [okT] at hok
  have hisl := JV.len_le is
  have hbb : is.length ≤ 1099511627776 ∧ ∀ x ∈ is, x.bulk ≤ 1099511627776 := by
    rw [JV.bulk] at hbk
    refine ⟨?_, fun x hx => by have := JV.bulk_le hx; omega⟩
    have h1 : is.length ≤ JV.bulks is := by
      clear hit hisl hci hcn hbk hr0 hok hm
      induction is with
      | nil => simp
      | cons y r ih => cases y; simp only [JV.bulks, JV.bulk, List.length_cons]; omega
    omega
  have hsz : ∀ x ∈ is, x.size ≤ m := fun x hx => by have h1 := JV.size_le hx; rw [JV.size] at hm; omega
  have hb0 : Below w.heap.size w (w.alloc (.cells #[.int .i64 k, .int .i64 i, .string s, .slice an ns.length cn, .slice ai is.length ci] 25)) := (Below.refl _ _).alloc (Nat.le_refl _) _
  obtain ⟨a0, a1, a2, a3, a4⟩ := cells5' w (.int .i64 k) (.int .i64 i) (.string s) (.slice an ns.length cn) (.slice ai is.length ci) 25
  have HC0 := Lib.hid (hc.below hb0)
  have HST := Lib.hid (hst.below hb0)
  have HIT := Lib.hid (hit.below hb0)
  have HB0 := Lib.hid hb0
  have HOK := Lib.hid hok
  have HBB := Lib.hid hbb
  have HNC := Lib.hid hC
  have hCl := hc.cells.2.2
  have hCl0 : C < (w.alloc (.cells #[.int .i64 k, .int .i64 i, .string s, .slice an ns.length cn, .slice ai is.length ci] 25)).heap.size := by simp; omega
  have hCn : w.heap.size ≠ C := by omega
  obtain ⟨⟨c0, c1⟩, ⟨f0, f1⟩, _⟩ := HC0.out.cells
  have q0 : (nm.toList == ([116, 121, 112, 101] : List UInt8)) = false := lit_f (by rw [hnm]; decide)
  have q1 : (nm.toList == ([101, 110, 117, 109] : List UInt8)) = false := lit_f (by rw [hnm]; decide)
  have q2 : (nm.toList == ([114, 101, 113, 117, 105, 114, 101, 100] : List UInt8)) = false := lit_f (by rw [hnm]; decide)
  have q3 : (nm.toList == ([97, 100, 100, 105, 116, 105, 111, 110, 97, 108] : List UInt8)) = false := lit_f (by rw [hnm]; decide)
  have q4 : (nm.toList == ([109, 105, 110, 73, 116, 101, 109, 115] : List UInt8)) = false := lit_f (by rw [hnm]; decide)
  have q5 : (nm.toList == ([109, 97, 120, 73, 116, 101, 109, 115] : List UInt8)) = false := lit_f (by rw [hnm]; decide)
  have q6 : (nm.toList == ([109, 105, 110, 76, 101, 110, 103, 116, 104] : List UInt8)) = false := lit_f (by rw [hnm]; decide)
  have q7 : (nm.toList == ([109, 97, 120, 76, 101, 110, 103, 116, 104] : List UInt8)) = false := lit_f (by rw [hnm]; decide)
  have q8 : (nm.toList == ([109, 105, 110, 105, 109, 117, 109] : List UInt8)) = false := lit_f (by rw [hnm]; decide)
  have q9 : (nm.toList == ([109, 97, 120, 105, 109, 117, 109] : List UInt8)) = false := lit_f (by rw [hnm]; decide)
  have q10 : (nm.toList == ([100, 105, 118, 105, 115, 105, 98, 108, 101] : List UInt8)) = true := lit_t hnm
  have HG := Lib.hid (show readRule (.mk k i s ns is) nm d n = given (leafOk nm (.mk k i s ns is)) n by rw [hnm, readRule, if_neg (by decide), if_neg (by decide), if_neg (by decide)])
  have HV := Lib.hid (show leafOk nm (.mk k i s ns is) = (decide (k = 3) && decide (1 ≤ i)) by rw [hnm]; unfold leafOk; rw [if_neg (by decide), if_neg (by decide), if_neg (by decide), if_neg (by decide), if_neg (by decide), if_neg (by decide), if_pos (by decide)]; rfl)
  have HNM := Lib.hid hnm
  clear hnm hr0
  clear hc hst hit hb0 hok hbb hsz hC hkk hii hm hbk
  by_cases h3 : k = 3
  · have e3 : (k == 3) = true := by simp [h3]
    by_cases h0 : (1 : Int) ≤ i
    · have HT := Lib.hid (show readRule (.mk k i s ns is) nm d n = .ok n by rw [HG.out, HV.out]; simp [h3, h0, given])
      clear h3 HG HV
      go_enter Tryz.func28, Tryz.ntmps28
      go_wp2
      go_end0
      exact dpost_ok HB0.out HC0.out HT.out hn
    · have h00 : decide ((1 : Int) ≤ i) = false := by simpa using h0
      have HT := Lib.hid (show readRule (.mk k i s ns is) nm d n = .bad 210 by rw [HG.out, HV.out]; simp [h3, h0, given])
      clear h3 h0 HG HV
      go_enter Tryz.func28, Tryz.ntmps28
      go_wp2_with (go_at_call 27; refine (dfails_c C n 210 _ HC0.out).mono ?_; rintro e w1 ⟨rfl, hw1⟩; have HW1 := Lib.hid hw1; clear hw1)
      go_end0
      exact dpost_bad HB0.out HC0.out HT.out (by omega) (by omega) HW1.out
  · have e3 : (k == 3) = false := by simp [h3]
    have HT := Lib.hid (show readRule (.mk k i s ns is) nm d n = .bad 210 by rw [HG.out, HV.out]; simp [h3, given])
    clear h3 HG HV
    go_enter Tryz.func28, Tryz.ntmps28
    go_wp2_with (go_at_call 27; refine (dfails_c C n 210 _ HC0.out).mono ?_; rintro e w1 ⟨rfl, hw1⟩; have HW1 := Lib.hid hw1; clear hw1)
    go_end0
    exact dpost_bad HB0.out HC0.out HT.out (by omega) (by omega) HW1.out
set_option maxRecDepth 20000 in
set_option maxHeartbeats 8000000 in
theorem drule_enum (m : Nat) (nm : ByteArray) (hnm : nm = ⟨#[101, 110, 117, 109]⟩) : DRuleFor m nm := by
  intro t hm hok hbk d n hd hn cs w ok C hC hr hc
  obtain ⟨k, i, s, ns, is⟩ := t
  have hr0 := hr
  rw [rep_mk] at hr
  obtain ⟨hkk, hii, _, an, cn, ai, ci, rfl, hcn, hci, hst, hit⟩ := hr
  unfold maxLen at hcn hci
  rw [okT] at hok
  have hisl := JV.len_le is
  have hbb : is.length ≤ 1099511627776 ∧ ∀ x ∈ is, x.bulk ≤ 1099511627776 := by
    rw [JV.bulk] at hbk
    refine ⟨?_, fun x hx => by have := JV.bulk_le hx; omega⟩
    have h1 : is.length ≤ JV.bulks is := by
      clear hit hisl hci hcn hbk hr0 hok hm
      induction is with
      | nil => simp
      | cons y r ih => cases y; simp only [JV.bulks, JV.bulk, List.length_cons]; omega
    omega
  have hsz : ∀ x ∈ is, x.size ≤ m := fun x hx => by have h1 := JV.size_le hx; rw [JV.size] at hm; omega
  have hb0 : Below w.heap.size w (w.alloc (.cells #[.int .i64 k, .int .i64 i, .string s, .slice an ns.length cn, .slice ai is.length ci] 25)) := (Below.refl _ _).alloc (Nat.le_refl _) _
  obtain ⟨a0, a1, a2, a3, a4⟩ := cells5' w (.int .i64 k) (.int .i64 i) (.string s) (.slice an ns.length cn) (.slice ai is.length ci) 25
  have HC0 := Lib.hid (hc.below hb0)
  have HST := Lib.hid (hst.below hb0)
  have HIT := Lib.hid (hit.below hb0)
  have HB0 := Lib.hid hb0
  have HOK := Lib.hid hok
  have HBB := Lib.hid hbb
  have HNC := Lib.hid hC
  have hCl := hc.cells.2.2
  have hCl0 : C < (w.alloc (.cells #[.int .i64 k, .int .i64 i, .string s, .slice an ns.length cn, .slice ai is.length ci] 25)).heap.size := by simp; omega
  have hCn : w.heap.size ≠ C := by omega
  obtain ⟨⟨c0, c1⟩, ⟨f0, f1⟩, _⟩ := HC0.out.cells
  have q0 : (nm.toList == ([116, 121, 112, 101] : List UInt8)) = false := lit_f (by rw [hnm]; decide)
  have q1 : (nm.toList == ([101, 110, 117, 109] : List UInt8)) = true := lit_t hnm
  have HL := Lib.hid (fun (W : World) (hbW : Below (w.alloc (.cells #[.int .i64 k, .int .i64 i, .string s, .slice an ns.length cn, .slice ai is.length ci] 25)).heap.size (w.alloc (.cells #[.int .i64 k, .int .i64 i, .string s, .slice an ns.length cn, .slice ai is.length ci] 25)) W) => list_c (.mk k i s ns is) _ 1 false hbk W ok ((hr0.below hb0).below hbW))
  have HVL := Lib.hid (show listOk (.mk k i s ns is) 1 false = (decide (k = 5) && !is.isEmpty) from by
    unfold listOk
    show ((!false || is.all (fun y => decide (y.kind = 4))) && (decide (k = 5) && decide ((1 : Int) ≤ (is.length : Int)))) = _
    cases is with
    | nil => simp
    | cons x r =>
      have h1 : (1 : Int) ≤ (((x :: r).length : Nat) : Int) := by rw [List.length_cons]; omega
      rw [decide_eq_true h1]
      simp)
  have HG := Lib.hid (show readRule (.mk k i s ns is) nm d n = given (leafOk nm (.mk k i s ns is)) n by rw [hnm, readRule, if_neg (by decide), if_neg (by decide), if_neg (by decide)])
  have HV := Lib.hid (show leafOk nm (.mk k i s ns is) = (decide (k = 5) && !is.isEmpty) by rw [hnm]; unfold leafOk; rw [if_neg (by decide), if_pos (by decide)]; rfl)
  have HNM := Lib.hid hnm
  rw [HVL.out] at HL
  clear hnm hr0
  clear hc hst hit hb0 hok hbb hsz hC hkk hii hm hbk
  generalize (decide (k = 5) && !is.isEmpty) = b at *
  cases b with
  | true =>
    have HT := Lib.hid (show readRule (.mk k i s ns is) nm d n = .ok n by rw [HG.out, HV.out]; rfl)
    clear HG HV HVL
    go_enter Tryz.func28, Tryz.ntmps28
    go_wp2_with (go_at_call 37; refine (HL.out _ (by repeat (first | with_reducible exact Below.refl _ _ | with_reducible refine below_drewN ?_ _ | with_reducible refine Below.drew ?_ | with_reducible refine Below.alloc ?_ (by first | (simp; done) | (simp; omega)) _ | with_reducible refine Below.setCell ?_ (by first | (simp; done) | (simp; omega)) _))).mono ?_; rintro e w1 ⟨rfl, hb1⟩; have HB1 := Lib.hid hb1; clear hb1)
    go_end0
    exact dpost_ok (HB0.out.trans (HB1.out.mono HB0.out.size)) (HC0.out.below HB1.out) HT.out hn
  | false =>
    have HT := Lib.hid (show readRule (.mk k i s ns is) nm d n = .bad 210 by rw [HG.out, HV.out]; rfl)
    clear HG HV HVL
    go_enter Tryz.func28, Tryz.ntmps28
    go_wp2_with (first
      | (go_at_call 37; refine (HL.out _ (by repeat (first | with_reducible exact Below.refl _ _ | with_reducible refine below_drewN ?_ _ | with_reducible refine Below.drew ?_ | with_reducible refine Below.alloc ?_ (by first | (simp; done) | (simp; omega)) _ | with_reducible refine Below.setCell ?_ (by first | (simp; done) | (simp; omega)) _))).mono ?_; rintro e w1 ⟨rfl, hb1⟩; have HB1 := Lib.hid hb1; clear hb1)
      | (go_at_call 27; refine (dfails_c C n 210 _ (HC0.out.below HB1.out)).mono ?_; rintro e w2 ⟨rfl, hw1⟩; have HW1 := Lib.hid hw1; clear hw1))
    go_end0
    exact dpost_bad (HB0.out.trans (HB1.out.mono HB0.out.size)) (HC0.out.below HB1.out) HT.out (by omega) (by omega) HW1.out
set_option maxRecDepth 20000 in
set_option maxHeartbeats 8000000 in
theorem drule_required (m : Nat) (nm : ByteArray) (hnm : nm = ⟨#[114, 101, 113, 117, 105, 114, 101, 100]⟩) : DRuleFor m nm := by
  intro t hm hok hbk d n hd hn cs w ok C hC hr hc
  obtain ⟨k, i, s, ns, is⟩ := t
  have hr0 := hr
  rw [rep_mk] at hr
  obtain ⟨hkk, hii, _, an, cn, ai, ci, rfl, hcn, hci, hst, hit⟩ := hr
  unfold maxLen at hcn hci
  rw [okT] at hok
  have hisl := JV.len_le is
  have hbb : is.length ≤ 1099511627776 ∧ ∀ x ∈ is, x.bulk ≤ 1099511627776 := by
    rw [JV.bulk] at hbk
    refine ⟨?_, fun x hx => by have := JV.bulk_le hx; omega⟩
    have h1 : is.length ≤ JV.bulks is := by
      clear hit hisl hci hcn hbk hr0 hok hm
      induction is with
      | nil => simp
      | cons y r ih => cases y; simp only [JV.bulks, JV.bulk, List.length_cons]; omega
    omega
  have hsz : ∀ x ∈ is, x.size ≤ m := fun x hx => by have h1 := JV.size_le hx; rw [JV.size] at hm; omega
  have hb0 : Below w.heap.size w (w.alloc (.cells #[.int .i64 k, .int .i64 i, .string s, .slice an ns.length cn, .slice ai is.length ci] 25)) := (Below.refl _ _).alloc (Nat.le_refl _) _
  obtain ⟨a0, a1, a2, a3, a4⟩ := cells5' w (.int .i64 k) (.int .i64 i) (.string s) (.slice an ns.length cn) (.slice ai is.length ci) 25
  have HC0 := Lib.hid (hc.below hb0)
  have HST := Lib.hid (hst.below hb0)
  have HIT := Lib.hid (hit.below hb0)
  have HB0 := Lib.hid hb0
  have HOK := Lib.hid hok
  have HBB := Lib.hid hbb
  have HNC := Lib.hid hC
  have hCl := hc.cells.2.2
  have hCl0 : C < (w.alloc (.cells #[.int .i64 k, .int .i64 i, .string s, .slice an ns.length cn, .slice ai is.length ci] 25)).heap.size := by simp; omega
  have hCn : w.heap.size ≠ C := by omega
  obtain ⟨⟨c0, c1⟩, ⟨f0, f1⟩, _⟩ := HC0.out.cells
  have q0 : (nm.toList == ([116, 121, 112, 101] : List UInt8)) = false := lit_f (by rw [hnm]; decide)
  have q1 : (nm.toList == ([101, 110, 117, 109] : List UInt8)) = false := lit_f (by rw [hnm]; decide)
  have q2 : (nm.toList == ([114, 101, 113, 117, 105, 114, 101, 100] : List UInt8)) = true := lit_t hnm
  have HL := Lib.hid (fun (W : World) (hbW : Below (w.alloc (.cells #[.int .i64 k, .int .i64 i, .string s, .slice an ns.length cn, .slice ai is.length ci] 25)).heap.size (w.alloc (.cells #[.int .i64 k, .int .i64 i, .string s, .slice an ns.length cn, .slice ai is.length ci] 25)) W) => list_c (.mk k i s ns is) _ 0 true hbk W ok ((hr0.below hb0).below hbW))
  have HVL := Lib.hid (show listOk (.mk k i s ns is) 0 true = (decide (k = 5) && is.all (fun y => decide (y.kind = 4))) from by
    unfold listOk
    show ((!true || is.all (fun y => decide (y.kind = 4))) && (decide (k = 5) && decide ((0 : Int) ≤ (is.length : Int)))) = _
    rw [Bool.not_true, Bool.false_or, show decide ((0 : Int) ≤ (is.length : Int)) = true from by simp, Bool.and_true, Bool.and_comm])
  have HG := Lib.hid (show readRule (.mk k i s ns is) nm d n = given (leafOk nm (.mk k i s ns is)) n by rw [hnm, readRule, if_neg (by decide), if_neg (by decide), if_neg (by decide)])
  have HV := Lib.hid (show leafOk nm (.mk k i s ns is) = (decide (k = 5) && is.all (fun y => decide (y.kind = 4))) by rw [hnm]; unfold leafOk; rw [if_neg (by decide), if_neg (by decide), if_pos (by decide)]; rfl)
  have HNM := Lib.hid hnm
  rw [HVL.out] at HL
  clear hnm hr0
  clear hc hst hit hb0 hok hbb hsz hC hkk hii hm hbk
  generalize (decide (k = 5) && is.all (fun y => decide (y.kind = 4))) = b at *
  cases b with
  | true =>
    have HT := Lib.hid (show readRule (.mk k i s ns is) nm d n = .ok n by rw [HG.out, HV.out]; rfl)
    clear HG HV HVL
    go_enter Tryz.func28, Tryz.ntmps28
    go_wp2_with (go_at_call 37; refine (HL.out _ (by repeat (first | with_reducible exact Below.refl _ _ | with_reducible refine below_drewN ?_ _ | with_reducible refine Below.drew ?_ | with_reducible refine Below.alloc ?_ (by first | (simp; done) | (simp; omega)) _ | with_reducible refine Below.setCell ?_ (by first | (simp; done) | (simp; omega)) _))).mono ?_; rintro e w1 ⟨rfl, hb1⟩; have HB1 := Lib.hid hb1; clear hb1)
    go_end0
    exact dpost_ok (HB0.out.trans (HB1.out.mono HB0.out.size)) (HC0.out.below HB1.out) HT.out hn
  | false =>
    have HT := Lib.hid (show readRule (.mk k i s ns is) nm d n = .bad 210 by rw [HG.out, HV.out]; rfl)
    clear HG HV HVL
    go_enter Tryz.func28, Tryz.ntmps28
    go_wp2_with (first
      | (go_at_call 37; refine (HL.out _ (by repeat (first | with_reducible exact Below.refl _ _ | with_reducible refine below_drewN ?_ _ | with_reducible refine Below.drew ?_ | with_reducible refine Below.alloc ?_ (by first | (simp; done) | (simp; omega)) _ | with_reducible refine Below.setCell ?_ (by first | (simp; done) | (simp; omega)) _))).mono ?_; rintro e w1 ⟨rfl, hb1⟩; have HB1 := Lib.hid hb1; clear hb1)
      | (go_at_call 27; refine (dfails_c C n 210 _ (HC0.out.below HB1.out)).mono ?_; rintro e w2 ⟨rfl, hw1⟩; have HW1 := Lib.hid hw1; clear hw1))
    go_end0
    exact dpost_bad (HB0.out.trans (HB1.out.mono HB0.out.size)) (HC0.out.below HB1.out) HT.out (by omega) (by omega) HW1.out
end Go.Proofs.YtnmojmmgkipjcaaGreatDoor
namespace Go.Proofs.YtnmojmmgkipjcaaGreatDoor
open Go.RowKit
theorem items_one {w : World} {ok : Nat → Prop} {t : JV} {cs : List Value} {B : Nat} {T : TypeId} (hr : Rep w ok t cs) (hb : w.heap[B]? = some (.cells cs.toArray T (0, 0))) : ItemsAt w (fun b => ok b ∨ b = B) (some ⟨B, 0, none⟩) [t] := by
  refine .inr ⟨B, 0, rfl, .inr rfl, ?_⟩
  rw [RepAll, RepAll]
  refine ⟨⟨cs, Rep.kept (fun b _ ho => ⟨.inl ho, rfl⟩) t cs hr, fun j v hj => ?_⟩, trivial⟩
  rw [Nat.zero_add, cell_of_row _ _ _ _ _ _ hb]
  rw [← hj]
  simp
set_option maxRecDepth 20000 in
set_option maxHeartbeats 8000000 in
theorem drule_type (m : Nat) (nm : ByteArray) (hnm : nm = ⟨#[116, 121, 112, 101]⟩) : DRuleFor m nm := by
  intro t hm hok hbk d n hd hn cs w ok C hC hr hc
  obtain ⟨k, i, s, ns, is⟩ := t
  have hr0 := hr
  rw [rep_mk] at hr
  obtain ⟨hkk, hii, _, an, cn, ai, ci, rfl, hcn, hci, hst, hit⟩ := hr
  unfold maxLen at hcn hci
  rw [okT] at hok
  have hisl := JV.len_le is
  have hbb : is.length ≤ 1099511627776 ∧ ∀ x ∈ is, x.bulk ≤ 1099511627776 := by
    rw [JV.bulk] at hbk
    refine ⟨?_, fun x hx => by have := JV.bulk_le hx; omega⟩
    have h1 : is.length ≤ JV.bulks is := by
      clear hit hisl hci hcn hbk hr0 hok hm
      induction is with
      | nil => simp
      | cons y r ih => cases y; simp only [JV.bulks, JV.bulk, List.length_cons]; omega
    omega
  have hsz : ∀ x ∈ is, x.size ≤ m := fun x hx => by have h1 := JV.size_le hx; rw [JV.size] at hm; omega
  have hb0 : Below w.heap.size w (w.alloc (.cells #[.int .i64 k, .int .i64 i, .string s, .slice an ns.length cn, .slice ai is.length ci] 25)) := (Below.refl _ _).alloc (Nat.le_refl _) _
  obtain ⟨a0, a1, a2, a3, a4⟩ := cells5' w (.int .i64 k) (.int .i64 i) (.string s) (.slice an ns.length cn) (.slice ai is.length ci) 25
  have HC0 := Lib.hid (hc.below hb0)
  have HST := Lib.hid (hst.below hb0)
  have HIT := Lib.hid (hit.below hb0)
  have HB0 := Lib.hid hb0
  have HOK := Lib.hid hok
  have HBB := Lib.hid hbb
  have HNC := Lib.hid hC
  have hCl := hc.cells.2.2
  have hCl0 : C < (w.alloc (.cells #[.int .i64 k, .int .i64 i, .string s, .slice an ns.length cn, .slice ai is.length ci] 25)).heap.size := by simp; omega
  have hCn : w.heap.size ≠ C := by omega
  obtain ⟨⟨c0, c1⟩, ⟨f0, f1⟩, _⟩ := HC0.out.cells
  have q0 : (nm.toList == ([116, 121, 112, 101] : List UInt8)) = true := lit_t hnm
  have HG := Lib.hid (show readRule (.mk k i s ns is) nm d n = given (leafOk nm (.mk k i s ns is)) n by rw [hnm, readRule, if_neg (by decide), if_neg (by decide), if_neg (by decide)])
  have HV := Lib.hid (show leafOk nm (.mk k i s ns is) = typesOk (typeL (.mk k i s ns is)) by rw [hnm]; unfold leafOk; rw [if_pos (by decide)])
  have HNM := Lib.hid hnm
  by_cases h4 : k = 4
  · subst h4
    have hty : typeL (.mk 4 i s ns is) = [.mk 4 i s ns is] := if_neg (show ¬ (4 : Int) = 5 by decide)
    rw [hty] at HV
    have hit1 := items_one (B := (w.alloc (.cells #[.int .i64 4, .int .i64 i, .string s, .slice an ns.length cn, .slice ai is.length ci] 25)).heap.size) (T := 25) ((hr0.below hb0).below ((Below.refl _ _).alloc (Nat.le_refl _) (.cells #[.int .i64 4, .int .i64 i, .string s, .slice an ns.length cn, .slice ai is.length ci] 25))) (heap_alloc_new (w.alloc (.cells #[.int .i64 4, .int .i64 i, .string s, .slice an ns.length cn, .slice ai is.length ci] 25)) (.cells #[.int .i64 4, .int .i64 i, .string s, .slice an ns.length cn, .slice ai is.length ci] 25))
    have HTY := Lib.hid (fun (W : World) (hbW : Below ((w.alloc (.cells #[.int .i64 4, .int .i64 i, .string s, .slice an ns.length cn, .slice ai is.length ci] 25)).alloc (.cells #[.int .i64 4, .int .i64 i, .string s, .slice an ns.length cn, .slice ai is.length ci] 25)).heap.size ((w.alloc (.cells #[.int .i64 4, .int .i64 i, .string s, .slice an ns.length cn, .slice ai is.length ci] 25)).alloc (.cells #[.int .i64 4, .int .i64 i, .string s, .slice an ns.length cn, .slice ai is.length ci] 25)) W) => (types_c [.mk 4 i s ns is] (some ⟨w.heap.size + 1, 0, none⟩) 1 (by simp) W _ (by have h := hit1.below hbW; simpa only [World.size_alloc] using h)).mono (R' := fun e w' => e = .returned (.bool (typesOk [.mk 4 i s ns is])) ∧ Below (w.alloc (.cells #[.int .i64 4, .int .i64 i, .string s, .slice an ns.length cn, .slice ai is.length ci] 25)).heap.size (w.alloc (.cells #[.int .i64 4, .int .i64 i, .string s, .slice an ns.length cn, .slice ai is.length ci] 25)) w') (fun e w' h => ⟨h.1, ((Below.refl _ _).alloc (Nat.le_refl _) (.cells #[.int .i64 4, .int .i64 i, .string s, .slice an ns.length cn, .slice ai is.length ci] 25)).trans ((hbW.trans (h.2.mono hbW.size)).mono (by simp))⟩))
    clear hit1 hty hr0 hnm
    clear hc hst hit hb0 hok hbb hsz hC hkk hii hm hbk
    generalize typesOk [.mk 4 i s ns is] = b at *
    cases b with
    | true =>
      have HT := Lib.hid (show readRule (.mk 4 i s ns is) nm d n = .ok n by rw [HG.out, HV.out]; rfl)
      clear HG HV
      go_enter Tryz.func28, Tryz.ntmps28
      go_wp2_with (go_at_call 36; refine (HTY.out _ (by repeat (first | with_reducible exact Below.refl _ _ | with_reducible refine below_drewN ?_ _ | with_reducible refine Below.drew ?_ | with_reducible refine Below.alloc ?_ (by first | (simp; done) | (simp; omega)) _ | with_reducible refine Below.setCell ?_ (by first | (simp; done) | (simp; omega)) _))).mono ?_; rintro e w1 ⟨rfl, hb1⟩; have x0 := cell_below hb1 a0; have HB1 := Lib.hid hb1; clear hb1)
      go_end0
      exact dpost_ok (HB0.out.trans (HB1.out.mono HB0.out.size)) (HC0.out.below HB1.out) HT.out hn
    | false =>
      have HT := Lib.hid (show readRule (.mk 4 i s ns is) nm d n = .bad 210 by rw [HG.out, HV.out]; rfl)
      clear HG HV
      go_enter Tryz.func28, Tryz.ntmps28
      go_wp2_with (first
        | (go_at_call 36; refine (HTY.out _ (by repeat (first | with_reducible exact Below.refl _ _ | with_reducible refine below_drewN ?_ _ | with_reducible refine Below.drew ?_ | with_reducible refine Below.alloc ?_ (by first | (simp; done) | (simp; omega)) _ | with_reducible refine Below.setCell ?_ (by first | (simp; done) | (simp; omega)) _))).mono ?_; rintro e w1 ⟨rfl, hb1⟩; have x0 := cell_below hb1 a0; have HB1 := Lib.hid hb1; clear hb1)
        | (go_at_call 27; refine (dfails_c C n 210 _ (HC0.out.below HB1.out)).mono ?_; rintro e w2 ⟨rfl, hw1⟩; have HW1 := Lib.hid hw1; clear hw1))
      go_end0
      exact dpost_bad (HB0.out.trans (HB1.out.mono HB0.out.size)) (HC0.out.below HB1.out) HT.out (by omega) (by omega) HW1.out
  · by_cases h5 : k = 5
    · subst h5
      have hty : typeL (.mk 5 i s ns is) = is := if_pos rfl
      rw [hty] at HV
      have HTY := Lib.hid (fun (W : World) (hbW : Below (w.alloc (.cells #[.int .i64 5, .int .i64 i, .string s, .slice an ns.length cn, .slice ai is.length ci] 25)).heap.size (w.alloc (.cells #[.int .i64 5, .int .i64 i, .string s, .slice an ns.length cn, .slice ai is.length ci] 25)) W) => types_c is ai ci hbb.1 W ok ((hit.below hb0).below hbW))
      have HTY := Lib.hid (fun (W : World) (hbW : Below (w.alloc (.cells #[.int .i64 5, .int .i64 i, .string s, .slice an ns.length cn, .slice ai is.length ci] 25)).heap.size (w.alloc (.cells #[.int .i64 5, .int .i64 i, .string s, .slice an ns.length cn, .slice ai is.length ci] 25)) W) => (HTY.out W hbW).mono (R' := fun e w' => e = .returned (.bool (typesOk is)) ∧ Below (w.alloc (.cells #[.int .i64 5, .int .i64 i, .string s, .slice an ns.length cn, .slice ai is.length ci] 25)).heap.size (w.alloc (.cells #[.int .i64 5, .int .i64 i, .string s, .slice an ns.length cn, .slice ai is.length ci] 25)) w') (fun e w' h => ⟨h.1, hbW.trans (h.2.mono hbW.size)⟩))
      clear hty hr0 hnm h4
      clear hc hst hit hb0 hok hbb hsz hC hkk hii hm hbk
      generalize typesOk is = b at *
      cases b with
      | true =>
        have HT := Lib.hid (show readRule (.mk 5 i s ns is) nm d n = .ok n by rw [HG.out, HV.out]; rfl)
        clear HG HV
        go_enter Tryz.func28, Tryz.ntmps28
        go_wp2_with (go_at_call 36; refine (HTY.out _ (by repeat (first | with_reducible exact Below.refl _ _ | with_reducible refine below_drewN ?_ _ | with_reducible refine Below.drew ?_ | with_reducible refine Below.alloc ?_ (by first | (simp; done) | (simp; omega)) _ | with_reducible refine Below.setCell ?_ (by first | (simp; done) | (simp; omega)) _))).mono ?_; rintro e w1 ⟨rfl, hb1⟩; have x0 := cell_below hb1 a0; have HB1 := Lib.hid hb1; clear hb1)
        go_end0
        exact dpost_ok (HB0.out.trans (HB1.out.mono HB0.out.size)) (HC0.out.below HB1.out) HT.out hn
      | false =>
        have HT := Lib.hid (show readRule (.mk 5 i s ns is) nm d n = .bad 210 by rw [HG.out, HV.out]; rfl)
        clear HG HV
        go_enter Tryz.func28, Tryz.ntmps28
        go_wp2_with (first
          | (go_at_call 36; refine (HTY.out _ (by repeat (first | with_reducible exact Below.refl _ _ | with_reducible refine below_drewN ?_ _ | with_reducible refine Below.drew ?_ | with_reducible refine Below.alloc ?_ (by first | (simp; done) | (simp; omega)) _ | with_reducible refine Below.setCell ?_ (by first | (simp; done) | (simp; omega)) _))).mono ?_; rintro e w1 ⟨rfl, hb1⟩; have x0 := cell_below hb1 a0; have HB1 := Lib.hid hb1; clear hb1)
          | (go_at_call 27; refine (dfails_c C n 210 _ (HC0.out.below HB1.out)).mono ?_; rintro e w2 ⟨rfl, hw1⟩; have HW1 := Lib.hid hw1; clear hw1))
        go_end0
        exact dpost_bad (HB0.out.trans (HB1.out.mono HB0.out.size)) (HC0.out.below HB1.out) HT.out (by omega) (by omega) HW1.out
    · have hty : typesOk (typeL (.mk k i s ns is)) = false := by
        rw [show typeL (.mk k i s ns is) = [.mk k i s ns is] from if_neg h5]
        unfold typesOk
        rw [List.all_cons, show kindsJ (.mk k i s ns is) = [] from if_neg h4]
        rfl
      rw [hty] at HV
      have e4 : (k == 4) = false := by simp [h4]
      have e5 : (k == 5) = false := by simp [h5]
      have HT := Lib.hid (show readRule (.mk k i s ns is) nm d n = .bad 210 by rw [HG.out, HV.out]; rfl)
      clear h4 h5 hty hnm hr0 HG HV
      clear hc hst hit hb0 hok hbb hsz hC hkk hii hm hbk
      go_enter Tryz.func28, Tryz.ntmps28
      go_wp2_with (go_at_call 27; refine (dfails_c C n 210 _ HC0.out).mono ?_; rintro e w1 ⟨rfl, hw1⟩; have HW1 := Lib.hid hw1; clear hw1)
      go_end0
      exact dpost_bad HB0.out HC0.out HT.out (by omega) (by omega) HW1.out
set_option maxRecDepth 20000 in
set_option maxHeartbeats 8000000 in
theorem drule_properties (m : Nat) (ih : DSchemaSaid m) (nm : ByteArray) (hnm : nm = ⟨#[112, 114, 111, 112, 101, 114, 116, 105, 101, 115]⟩) : DRuleFor m nm := by
  intro t hm hok hbk d n hd hn cs w ok C hC hr hc
  obtain ⟨k, i, s, ns, is⟩ := t
  have hr0 := hr
  rw [rep_mk] at hr
  obtain ⟨hkk, hii, _, an, cn, ai, ci, rfl, hcn, hci, hst, hit⟩ := hr
  unfold maxLen at hcn hci
  rw [okT] at hok
  have hisl := JV.len_le is
  have hbb : is.length ≤ 1099511627776 ∧ ∀ x ∈ is, x.bulk ≤ 1099511627776 := by
    rw [JV.bulk] at hbk
    refine ⟨?_, fun x hx => by have := JV.bulk_le hx; omega⟩
    have h1 : is.length ≤ JV.bulks is := by
      clear hit hisl hci hcn hbk hr0 hok hm
      induction is with
      | nil => simp
      | cons y r ih => cases y; simp only [JV.bulks, JV.bulk, List.length_cons]; omega
    omega
  have hsz : ∀ x ∈ is, x.size ≤ m := fun x hx => by have h1 := JV.size_le hx; rw [JV.size] at hm; omega
  have hb0 : Below w.heap.size w (w.alloc (.cells #[.int .i64 k, .int .i64 i, .string s, .slice an ns.length cn, .slice ai is.length ci] 25)) := (Below.refl _ _).alloc (Nat.le_refl _) _
  obtain ⟨a0, a1, a2, a3, a4⟩ := cells5' w (.int .i64 k) (.int .i64 i) (.string s) (.slice an ns.length cn) (.slice ai is.length ci) 25
  have HC0 := Lib.hid (hc.below hb0)
  have HST := Lib.hid (hst.below hb0)
  have HIT := Lib.hid (hit.below hb0)
  have HB0 := Lib.hid hb0
  have HIH := Lib.hid ih
  have HOK := Lib.hid hok
  have HBB := Lib.hid hbb
  have HSZ := Lib.hid hsz
  have HNC := Lib.hid hC
  have hCl := hc.cells.2.2
  have hCl0 : C < (w.alloc (.cells #[.int .i64 k, .int .i64 i, .string s, .slice an ns.length cn, .slice ai is.length ci] 25)).heap.size := by simp; omega
  have hCn : w.heap.size ≠ C := by omega
  obtain ⟨⟨c0, c1⟩, ⟨f0, f1⟩, _⟩ := HC0.out.cells
  have q0 : (nm.toList == ([116, 121, 112, 101] : List UInt8)) = false := lit_f (by rw [hnm]; decide)
  have q1 : (nm.toList == ([101, 110, 117, 109] : List UInt8)) = false := lit_f (by rw [hnm]; decide)
  have q2 : (nm.toList == ([114, 101, 113, 117, 105, 114, 101, 100] : List UInt8)) = false := lit_f (by rw [hnm]; decide)
  have q3 : (nm.toList == ([97, 100, 100, 105, 116, 105, 111, 110, 97, 108] : List UInt8)) = false := lit_f (by rw [hnm]; decide)
  have q4 : (nm.toList == ([109, 105, 110, 73, 116, 101, 109, 115] : List UInt8)) = false := lit_f (by rw [hnm]; decide)
  have q5 : (nm.toList == ([109, 97, 120, 73, 116, 101, 109, 115] : List UInt8)) = false := lit_f (by rw [hnm]; decide)
  have q6 : (nm.toList == ([109, 105, 110, 76, 101, 110, 103, 116, 104] : List UInt8)) = false := lit_f (by rw [hnm]; decide)
  have q7 : (nm.toList == ([109, 97, 120, 76, 101, 110, 103, 116, 104] : List UInt8)) = false := lit_f (by rw [hnm]; decide)
  have q8 : (nm.toList == ([109, 105, 110, 105, 109, 117, 109] : List UInt8)) = false := lit_f (by rw [hnm]; decide)
  have q9 : (nm.toList == ([109, 97, 120, 105, 109, 117, 109] : List UInt8)) = false := lit_f (by rw [hnm]; decide)
  have q10 : (nm.toList == ([100, 105, 118, 105, 115, 105, 98, 108, 101] : List UInt8)) = false := lit_f (by rw [hnm]; decide)
  have q11 : (nm.toList == ([112, 114, 111, 112, 101, 114, 116, 105, 101, 115] : List UInt8)) = true := lit_t hnm
  have HNM := Lib.hid hnm
  have hbnn : is.length ≤ 9223372036854775807 := by omega
  by_cases h6 : k = 6
  · have HT := Lib.hid (show readRule (.mk k i s ns is) nm d n = readList is (d + 1) n by rw [hnm, readRule, if_pos rfl, if_pos h6])
    have e6 : (k == 6) = true := by simp [h6]
    clear hnm hr0 h6 ih
    clear hc hst hit hb0 hok hbb hsz hC hkk hii hm hbk
    go_enter Tryz.func28, Tryz.ntmps28
    go_wp2
    have HX := Lib.hid (heap_alloc_new w (.cells #[.int .i64 k, .int .i64 i, .string s, .slice an ns.length cn, .slice ai is.length ci] 25))
    generalize hW0 : w.alloc (.cells #[.int .i64 k, .int .i64 i, .string s, .slice an ns.length cn, .slice ai is.length ci] 25) = W0 at *
    have HB := Lib.hid HB0.out
    have hXl : w.heap.size < W0.heap.size := by rw [← hW0]; simp
    have HCS := HC0
    have HUS0 := Lib.hid (Upd.refl W0 (some C))
    clear hW0 c0 c1 f0 f1 a0 a1 a2 a3 a4
    go_loopw [9] (fun i wr => ∃ (j p E : Nat), j ≤ is.length ∧ i = .int .i64 j ∧ Hid (ChkAt wr C p E) ∧ Hid (Upd W0 wr (some C) (some C)) ∧ p ≤ 128 ∧ Hid ((E = 0 ∧ readList is (d + 1) n = readList (is.drop j) (d + 1) p) ∨ (readList is (d + 1) n = .bad E ∧ (E = 210 ∨ E = 211)))) (fun i _ => is.length - (intOf i).toNat)
    case atStart => exact ⟨0, n, 0, by omega, rfl, HCS, HUS0, hn, Lib.hid (.inl ⟨rfl, rfl⟩)⟩
    case round =>
      clear HCS HUS0
      obtain ⟨j, p, E, hj, rfl, HCA, HU, hp, HQ⟩ := hrel
      obtain ⟨⟨q0, q1⟩, ⟨g0, g1⟩, hCr⟩ := HCA.out.cells
      have hx := (HU.out.block hXl (by intro e; injection e with e; omega)).trans HX.out
      obtain ⟨⟨a0, a1, a2, a3, a4⟩, _⟩ := cellsOf5 hx
      have HUS := HU.out.grown.size
      clear hx
      by_cases hlt : j < is.length
      · by_cases hE : E = 0
        · subst hE
          have HQ1 := Lib.hid (show readList is (d + 1) n = readList (is.drop j) (d + 1) p from by
            rcases HQ.out with h | h
            · exact h.2
            · rcases h.2 with h | h <;> cases h)
          have HQ3 := Lib.hid (show readList is (d + 1) n = match readS is[j] (d + 1) p with | .bad e => .bad e | .ok m => readList (is.drop (j + 1)) (d + 1) m by
            rw [HQ1.out, List.drop_eq_getElem_cons hlt, readList]
            rfl)
          clear HQ HQ1
          obtain ⟨b2, off2, an2, cn2, ai2, ci2, rfl, hrj, hlj⟩ := (HIT.out.upd HNC.out HU.out).at j hlt
          obtain ⟨l0, l1, l2, l3, l4⟩ := lie5 hlj
          have hb2 : b2 ≠ C := fun e => by
            rcases HIT.out with h | ⟨b', o', h, ho, _⟩
            · rw [h] at hlt; simp at hlt
            · injection h with h; injection h with h; exact HNC.out (by rw [← e, h]; exact ho)
          have HCL := Lib.hid (fun (W : World) (hbW : Below wr.heap.size wr W) => (HIH.out is[j] (HSZ.out _ (List.getElem_mem hlt)) (okTs_at HOK.out.2 j hlt) (HBB.out.2 _ (List.getElem_mem hlt)) (d + 1) p (by omega) hp _ W ok C HNC.out (hrj.below hbW) (HCA.out.below hbW)).mono (R' := fun e w2 => e = .returned (.tuple #[]) ∧ ∃ m E, Hid (ChkAt w2 C m E) ∧ Hid (CntAt (readS is[j] (d + 1) p) m E) ∧ Hid (Upd wr w2 (some C) (some C)) ∧ m ≤ 128) (fun e w2 ⟨h1, m2, E2, h2, h3, h4, h5⟩ => ⟨h1, m2, E2, h2, h3, Lib.hid ((Upd.of_below hbW _).trans h4.out), h5⟩))
          rw [show ((d + 1 : Nat) : Int) = (d : Int) + 1 by omega] at HCL
          clear hrj hlj
          generalize readS is[j] (d + 1) p = rr at *
          generalize is[j] = x at *
          go_wp2_with (go_at_call 22; refine (HCL.out _ (by repeat (first | with_reducible exact Below.refl _ _ | with_reducible refine below_drewN ?_ _ | with_reducible refine Below.drew ?_ | with_reducible refine Below.alloc ?_ (by first | (simp; done) | (simp; omega)) _ | with_reducible refine Below.setCell ?_ (by first | (simp; done) | (simp; omega)) _))).mono ?_; rintro ee w2 ⟨rfl, p2, E2, HC2, HN2, HU2, hp2⟩)
          have HQ4 := Lib.hid (show (E2 = 0 ∧ readList is (d + 1) n = readList (is.drop (j + 1)) (d + 1) p2) ∨ (readList is (d + 1) n = .bad E2 ∧ (E2 = 210 ∨ E2 = 211)) from by
            rcases HN2.out with ⟨e, h1, h2, h3⟩ | ⟨h1, h2, h3⟩
            · right
              rw [HQ3.out, h1]
              exact ⟨by rw [h2], h3⟩
            · left
              rw [HQ3.out, h1]
              exact ⟨h2, rfl⟩)
          have HU3 := Lib.hid (HU.out.trans HU2.out)
          go_roundw
          case rel => exact ⟨j + 1, p2, E2, by omega, by go_num, HC2, HU3, hp2, HQ4⟩
          case measure => simp [intOf]; omega
        · have hE2 : ((E : Int) == 0) = false := by rw [beq_eq_false_iff_ne]; omega
          have HT2 := Lib.hid (show CntAt (readRule (.mk k i s ns is) nm d n) p E from by
            rw [HT.out]
            rcases HQ.out with h | h
            · exact absurd h.1 hE
            · exact .of_bad h.1 h.2)
          clear HQ hE
          go_wp2
          go_end0
          exact dpost_upd HB.out HU.out HCA.out HT2.out hp
      · obtain rfl : j = is.length := by omega
        have HT2 := Lib.hid (show CntAt (readRule (.mk k i s ns is) nm d n) p E from by
          rw [HT.out]
          rcases HQ.out with h | h
          · rw [h.1, h.2, List.drop_length, readList]
            exact .of_ok rfl hp
          · exact .of_bad h.1 h.2)
        clear HQ
        go_wp2
        go_end0
        exact dpost_upd HB.out HU.out HCA.out HT2.out hp
  · have HT := Lib.hid (show readRule (.mk k i s ns is) nm d n = .bad 210 by rw [hnm, readRule, if_pos rfl, if_neg h6])
    have e6 : (k == 6) = false := by simp [h6]
    clear hnm hr0 h6 ih
    clear hc hst hit hb0 hok hbb hsz hC hkk hii hm hbk
    go_enter Tryz.func28, Tryz.ntmps28
    go_wp2
    go_loopw [9] (fun q wr => q = .int .i64 0 ∧ w.alloc (.cells #[.int .i64 k, .int .i64 i, .string s, .slice an ns.length cn, .slice ai is.length ci] 25) = wr) (fun _ _ => 0)
    case atStart => exact ⟨rfl, rfl⟩
    case round =>
      obtain ⟨rfl, rfl⟩ := hrel
      go_wp2_with (go_at_call 27; refine (dfails_c C n 210 _ HC0.out).mono ?_; rintro e w1 ⟨rfl, hw1⟩; have HW1 := Lib.hid hw1; clear hw1)
      go_end0
      exact dpost_bad HB0.out HC0.out HT.out (by omega) (by omega) HW1.out
set_option maxRecDepth 20000 in
set_option maxHeartbeats 8000000 in
theorem drule_anyOf (m : Nat) (ih : DSchemaSaid m) (nm : ByteArray) (hnm : nm = ⟨#[97, 110, 121, 79, 102]⟩) : DRuleFor m nm := by
  intro t hm hok hbk d n hd hn cs w ok C hC hr hc
  obtain ⟨k, i, s, ns, is⟩ := t
  have hr0 := hr
  rw [rep_mk] at hr
  obtain ⟨hkk, hii, _, an, cn, ai, ci, rfl, hcn, hci, hst, hit⟩ := hr
  unfold maxLen at hcn hci
  rw [okT] at hok
  have hisl := JV.len_le is
  have hbb : is.length ≤ 1099511627776 ∧ ∀ x ∈ is, x.bulk ≤ 1099511627776 := by
    rw [JV.bulk] at hbk
    refine ⟨?_, fun x hx => by have := JV.bulk_le hx; omega⟩
    have h1 : is.length ≤ JV.bulks is := by
      clear hit hisl hci hcn hbk hr0 hok hm
      induction is with
      | nil => simp
      | cons y r ih => cases y; simp only [JV.bulks, JV.bulk, List.length_cons]; omega
    omega
  have hsz : ∀ x ∈ is, x.size ≤ m := fun x hx => by have h1 := JV.size_le hx; rw [JV.size] at hm; omega
  have hb0 : Below w.heap.size w (w.alloc (.cells #[.int .i64 k, .int .i64 i, .string s, .slice an ns.length cn, .slice ai is.length ci] 25)) := (Below.refl _ _).alloc (Nat.le_refl _) _
  obtain ⟨a0, a1, a2, a3, a4⟩ := cells5' w (.int .i64 k) (.int .i64 i) (.string s) (.slice an ns.length cn) (.slice ai is.length ci) 25
  have HC0 := Lib.hid (hc.below hb0)
  have HST := Lib.hid (hst.below hb0)
  have HIT := Lib.hid (hit.below hb0)
  have HB0 := Lib.hid hb0
  have HIH := Lib.hid ih
  have HOK := Lib.hid hok
  have HBB := Lib.hid hbb
  have HSZ := Lib.hid hsz
  have HNC := Lib.hid hC
  have hCl := hc.cells.2.2
  have hCl0 : C < (w.alloc (.cells #[.int .i64 k, .int .i64 i, .string s, .slice an ns.length cn, .slice ai is.length ci] 25)).heap.size := by simp; omega
  have hCn : w.heap.size ≠ C := by omega
  obtain ⟨⟨c0, c1⟩, ⟨f0, f1⟩, _⟩ := HC0.out.cells
  have q0 : (nm.toList == ([116, 121, 112, 101] : List UInt8)) = false := lit_f (by rw [hnm]; decide)
  have q1 : (nm.toList == ([101, 110, 117, 109] : List UInt8)) = false := lit_f (by rw [hnm]; decide)
  have q2 : (nm.toList == ([114, 101, 113, 117, 105, 114, 101, 100] : List UInt8)) = false := lit_f (by rw [hnm]; decide)
  have q3 : (nm.toList == ([97, 100, 100, 105, 116, 105, 111, 110, 97, 108] : List UInt8)) = false := lit_f (by rw [hnm]; decide)
  have q4 : (nm.toList == ([109, 105, 110, 73, 116, 101, 109, 115] : List UInt8)) = false := lit_f (by rw [hnm]; decide)
  have q5 : (nm.toList == ([109, 97, 120, 73, 116, 101, 109, 115] : List UInt8)) = false := lit_f (by rw [hnm]; decide)
  have q6 : (nm.toList == ([109, 105, 110, 76, 101, 110, 103, 116, 104] : List UInt8)) = false := lit_f (by rw [hnm]; decide)
  have q7 : (nm.toList == ([109, 97, 120, 76, 101, 110, 103, 116, 104] : List UInt8)) = false := lit_f (by rw [hnm]; decide)
  have q8 : (nm.toList == ([109, 105, 110, 105, 109, 117, 109] : List UInt8)) = false := lit_f (by rw [hnm]; decide)
  have q9 : (nm.toList == ([109, 97, 120, 105, 109, 117, 109] : List UInt8)) = false := lit_f (by rw [hnm]; decide)
  have q10 : (nm.toList == ([100, 105, 118, 105, 115, 105, 98, 108, 101] : List UInt8)) = false := lit_f (by rw [hnm]; decide)
  have q11 : (nm.toList == ([112, 114, 111, 112, 101, 114, 116, 105, 101, 115] : List UInt8)) = false := lit_f (by rw [hnm]; decide)
  have q12 : (nm.toList == ([97, 110, 121, 79, 102] : List UInt8)) = true := lit_t hnm
  have HNM := Lib.hid hnm
  have hbnn : is.length ≤ 9223372036854775807 := by omega
  have HL := Lib.hid (fun (W : World) (hbW : Below (w.alloc (.cells #[.int .i64 k, .int .i64 i, .string s, .slice an ns.length cn, .slice ai is.length ci] 25)).heap.size (w.alloc (.cells #[.int .i64 k, .int .i64 i, .string s, .slice an ns.length cn, .slice ai is.length ci] 25)) W) => (list_c (.mk k i s ns is) _ 1 false hbk W ok ((hr0.below hb0).below hbW)).mono (R' := fun e w' => e = .returned (.bool (listOk (.mk k i s ns is) 1 false)) ∧ Below (w.alloc (.cells #[.int .i64 k, .int .i64 i, .string s, .slice an ns.length cn, .slice ai is.length ci] 25)).heap.size (w.alloc (.cells #[.int .i64 k, .int .i64 i, .string s, .slice an ns.length cn, .slice ai is.length ci] 25)) w') (fun e w' h => ⟨h.1, hbW.trans (h.2.mono hbW.size)⟩))
  have HVL := Lib.hid (show listOk (.mk k i s ns is) 1 false = decide (k = 5 ∧ is ≠ []) from by
    unfold listOk
    show ((!false || is.all (fun y => decide (y.kind = 4))) && (decide (k = 5) && decide ((1 : Int) ≤ (is.length : Int)))) = _
    cases is with
    | nil => simp
    | cons x r =>
      have h1 : (1 : Int) ≤ (((x :: r).length : Nat) : Int) := by rw [List.length_cons]; omega
      rw [decide_eq_true h1]
      simp)
  rw [HVL.out] at HL
  by_cases h6 : k = 5 ∧ is ≠ []
  · have HT := Lib.hid (show readRule (.mk k i s ns is) nm d n = readList is (d + 1) n by rw [hnm, readRule, if_neg (by decide), if_pos (by decide), if_pos h6])
    rw [decide_eq_true h6] at HL
    clear hnm hr0 h6 ih HVL
    clear hc hst hit hb0 hok hbb hsz hC hkk hii hm hbk
    go_enter Tryz.func28, Tryz.ntmps28
    go_wp2_with (go_at_call 37; refine (HL.out _ (by repeat (first | with_reducible exact Below.refl _ _ | with_reducible refine below_drewN ?_ _ | with_reducible refine Below.drew ?_ | with_reducible refine Below.alloc ?_ (by first | (simp; done) | (simp; omega)) _ | with_reducible refine Below.setCell ?_ (by first | (simp; done) | (simp; omega)) _))).mono ?_; rintro e w1 ⟨rfl, hb1⟩; have HB1 := Lib.hid hb1; clear hb1)
    have HX := Lib.hid (heap_alloc_new w (.cells #[.int .i64 k, .int .i64 i, .string s, .slice an ns.length cn, .slice ai is.length ci] 25))
    generalize hW0 : w.alloc (.cells #[.int .i64 k, .int .i64 i, .string s, .slice an ns.length cn, .slice ai is.length ci] 25) = W0 at *
    have HB := Lib.hid HB0.out
    have hXl : w.heap.size < W0.heap.size := by rw [← hW0]; simp
    have HCS := Lib.hid (HC0.out.below HB1.out)
    have HUS0 := Lib.hid (Upd.of_below HB1.out (some C))
    clear hW0 c0 c1 f0 f1 a0 a1 a2 a3 a4
    go_loopw [10] (fun i wr => ∃ (j p E : Nat), j ≤ is.length ∧ i = .int .i64 j ∧ Hid (ChkAt wr C p E) ∧ Hid (Upd W0 wr (some C) (some C)) ∧ p ≤ 128 ∧ Hid ((E = 0 ∧ readList is (d + 1) n = readList (is.drop j) (d + 1) p) ∨ (readList is (d + 1) n = .bad E ∧ (E = 210 ∨ E = 211)))) (fun i _ => is.length - (intOf i).toNat)
    case atStart => exact ⟨0, n, 0, by omega, rfl, HCS, HUS0, hn, Lib.hid (.inl ⟨rfl, rfl⟩)⟩
    case round =>
      clear HCS HUS0
      obtain ⟨j, p, E, hj, rfl, HCA, HU, hp, HQ⟩ := hrel
      obtain ⟨⟨q0, q1⟩, ⟨g0, g1⟩, hCr⟩ := HCA.out.cells
      have hx := (HU.out.block hXl (by intro e; injection e with e; omega)).trans HX.out
      obtain ⟨⟨a0, a1, a2, a3, a4⟩, _⟩ := cellsOf5 hx
      have HUS := HU.out.grown.size
      clear hx
      by_cases hlt : j < is.length
      · by_cases hE : E = 0
        · subst hE
          have HQ1 := Lib.hid (show readList is (d + 1) n = readList (is.drop j) (d + 1) p from by
            rcases HQ.out with h | h
            · exact h.2
            · rcases h.2 with h | h <;> cases h)
          have HQ3 := Lib.hid (show readList is (d + 1) n = match readS is[j] (d + 1) p with | .bad e => .bad e | .ok m => readList (is.drop (j + 1)) (d + 1) m by
            rw [HQ1.out, List.drop_eq_getElem_cons hlt, readList]
            rfl)
          clear HQ HQ1
          obtain ⟨b2, off2, an2, cn2, ai2, ci2, rfl, hrj, hlj⟩ := (HIT.out.upd HNC.out HU.out).at j hlt
          obtain ⟨l0, l1, l2, l3, l4⟩ := lie5 hlj
          have hb2 : b2 ≠ C := fun e => by
            rcases HIT.out with h | ⟨b', o', h, ho, _⟩
            · rw [h] at hlt; simp at hlt
            · injection h with h; injection h with h; exact HNC.out (by rw [← e, h]; exact ho)
          have HCL := Lib.hid (fun (W : World) (hbW : Below wr.heap.size wr W) => (HIH.out is[j] (HSZ.out _ (List.getElem_mem hlt)) (okTs_at HOK.out.2 j hlt) (HBB.out.2 _ (List.getElem_mem hlt)) (d + 1) p (by omega) hp _ W ok C HNC.out (hrj.below hbW) (HCA.out.below hbW)).mono (R' := fun e w2 => e = .returned (.tuple #[]) ∧ ∃ m E, Hid (ChkAt w2 C m E) ∧ Hid (CntAt (readS is[j] (d + 1) p) m E) ∧ Hid (Upd wr w2 (some C) (some C)) ∧ m ≤ 128) (fun e w2 ⟨h1, m2, E2, h2, h3, h4, h5⟩ => ⟨h1, m2, E2, h2, h3, Lib.hid ((Upd.of_below hbW _).trans h4.out), h5⟩))
          rw [show ((d + 1 : Nat) : Int) = (d : Int) + 1 by omega] at HCL
          clear hrj hlj
          generalize readS is[j] (d + 1) p = rr at *
          generalize is[j] = x at *
          go_wp2_with (go_at_call 22; refine (HCL.out _ (by repeat (first | with_reducible exact Below.refl _ _ | with_reducible refine below_drewN ?_ _ | with_reducible refine Below.drew ?_ | with_reducible refine Below.alloc ?_ (by first | (simp; done) | (simp; omega)) _ | with_reducible refine Below.setCell ?_ (by first | (simp; done) | (simp; omega)) _))).mono ?_; rintro ee w2 ⟨rfl, p2, E2, HC2, HN2, HU2, hp2⟩)
          have HQ4 := Lib.hid (show (E2 = 0 ∧ readList is (d + 1) n = readList (is.drop (j + 1)) (d + 1) p2) ∨ (readList is (d + 1) n = .bad E2 ∧ (E2 = 210 ∨ E2 = 211)) from by
            rcases HN2.out with ⟨e, h1, h2, h3⟩ | ⟨h1, h2, h3⟩
            · right
              rw [HQ3.out, h1]
              exact ⟨by rw [h2], h3⟩
            · left
              rw [HQ3.out, h1]
              exact ⟨h2, rfl⟩)
          have HU3 := Lib.hid (HU.out.trans HU2.out)
          go_roundw
          case rel => exact ⟨j + 1, p2, E2, by omega, by go_num, HC2, HU3, hp2, HQ4⟩
          case measure => simp [intOf]; omega
        · have hE2 : ((E : Int) == 0) = false := by rw [beq_eq_false_iff_ne]; omega
          have HT2 := Lib.hid (show CntAt (readRule (.mk k i s ns is) nm d n) p E from by
            rw [HT.out]
            rcases HQ.out with h | h
            · exact absurd h.1 hE
            · exact .of_bad h.1 h.2)
          clear HQ hE
          go_wp2
          go_end0
          exact dpost_upd HB.out HU.out HCA.out HT2.out hp
      · obtain rfl : j = is.length := by omega
        have HT2 := Lib.hid (show CntAt (readRule (.mk k i s ns is) nm d n) p E from by
          rw [HT.out]
          rcases HQ.out with h | h
          · rw [h.1, h.2, List.drop_length, readList]
            exact .of_ok rfl hp
          · exact .of_bad h.1 h.2)
        clear HQ
        go_wp2
        go_end0
        exact dpost_upd HB.out HU.out HCA.out HT2.out hp
  · have HT := Lib.hid (show readRule (.mk k i s ns is) nm d n = .bad 210 by rw [hnm, readRule, if_neg (by decide), if_pos (by decide), if_neg h6])
    rw [decide_eq_false h6] at HL
    clear hnm hr0 h6 ih HVL
    clear hc hst hit hb0 hok hbb hsz hC hkk hii hm hbk
    go_enter Tryz.func28, Tryz.ntmps28
    go_wp2_with (go_at_call 37; refine (HL.out _ (by repeat (first | with_reducible exact Below.refl _ _ | with_reducible refine below_drewN ?_ _ | with_reducible refine Below.drew ?_ | with_reducible refine Below.alloc ?_ (by first | (simp; done) | (simp; omega)) _ | with_reducible refine Below.setCell ?_ (by first | (simp; done) | (simp; omega)) _))).mono ?_; rintro e w1 ⟨rfl, hb1⟩; have HB1 := Lib.hid hb1; clear hb1)
    go_loopw [10] (fun q wr => q = .int .i64 0 ∧ w1 = wr) (fun _ _ => 0)
    case atStart => exact ⟨rfl, rfl⟩
    case round =>
      obtain ⟨rfl, rfl⟩ := hrel
      go_wp2_with (go_at_call 27; refine (dfails_c C n 210 _ (HC0.out.below HB1.out)).mono ?_; rintro e w3 ⟨rfl, hw1⟩; have HW1 := Lib.hid hw1; clear hw1)
      go_end0
      exact dpost_bad (HB0.out.trans (HB1.out.mono HB0.out.size)) (HC0.out.below HB1.out) HT.out (by omega) (by omega) HW1.out
set_option maxRecDepth 20000 in
set_option maxHeartbeats 8000000 in
theorem drule_allOf (m : Nat) (ih : DSchemaSaid m) (nm : ByteArray) (hnm : nm = ⟨#[97, 108, 108, 79, 102]⟩) : DRuleFor m nm := by
  intro t hm hok hbk d n hd hn cs w ok C hC hr hc
  obtain ⟨k, i, s, ns, is⟩ := t
  have hr0 := hr
  rw [rep_mk] at hr
  obtain ⟨hkk, hii, _, an, cn, ai, ci, rfl, hcn, hci, hst, hit⟩ := hr
  unfold maxLen at hcn hci
  rw [okT] at hok
  have hisl := JV.len_le is
  have hbb : is.length ≤ 1099511627776 ∧ ∀ x ∈ is, x.bulk ≤ 1099511627776 := by
    rw [JV.bulk] at hbk
    refine ⟨?_, fun x hx => by have := JV.bulk_le hx; omega⟩
    have h1 : is.length ≤ JV.bulks is := by
      clear hit hisl hci hcn hbk hr0 hok hm
      induction is with
      | nil => simp
      | cons y r ih => cases y; simp only [JV.bulks, JV.bulk, List.length_cons]; omega
    omega
  have hsz : ∀ x ∈ is, x.size ≤ m := fun x hx => by have h1 := JV.size_le hx; rw [JV.size] at hm; omega
  have hb0 : Below w.heap.size w (w.alloc (.cells #[.int .i64 k, .int .i64 i, .string s, .slice an ns.length cn, .slice ai is.length ci] 25)) := (Below.refl _ _).alloc (Nat.le_refl _) _
  obtain ⟨a0, a1, a2, a3, a4⟩ := cells5' w (.int .i64 k) (.int .i64 i) (.string s) (.slice an ns.length cn) (.slice ai is.length ci) 25
  have HC0 := Lib.hid (hc.below hb0)
  have HST := Lib.hid (hst.below hb0)
  have HIT := Lib.hid (hit.below hb0)
  have HB0 := Lib.hid hb0
  have HIH := Lib.hid ih
  have HOK := Lib.hid hok
  have HBB := Lib.hid hbb
  have HSZ := Lib.hid hsz
  have HNC := Lib.hid hC
  have hCl := hc.cells.2.2
  have hCl0 : C < (w.alloc (.cells #[.int .i64 k, .int .i64 i, .string s, .slice an ns.length cn, .slice ai is.length ci] 25)).heap.size := by simp; omega
  have hCn : w.heap.size ≠ C := by omega
  obtain ⟨⟨c0, c1⟩, ⟨f0, f1⟩, _⟩ := HC0.out.cells
  have q0 : (nm.toList == ([116, 121, 112, 101] : List UInt8)) = false := lit_f (by rw [hnm]; decide)
  have q1 : (nm.toList == ([101, 110, 117, 109] : List UInt8)) = false := lit_f (by rw [hnm]; decide)
  have q2 : (nm.toList == ([114, 101, 113, 117, 105, 114, 101, 100] : List UInt8)) = false := lit_f (by rw [hnm]; decide)
  have q3 : (nm.toList == ([97, 100, 100, 105, 116, 105, 111, 110, 97, 108] : List UInt8)) = false := lit_f (by rw [hnm]; decide)
  have q4 : (nm.toList == ([109, 105, 110, 73, 116, 101, 109, 115] : List UInt8)) = false := lit_f (by rw [hnm]; decide)
  have q5 : (nm.toList == ([109, 97, 120, 73, 116, 101, 109, 115] : List UInt8)) = false := lit_f (by rw [hnm]; decide)
  have q6 : (nm.toList == ([109, 105, 110, 76, 101, 110, 103, 116, 104] : List UInt8)) = false := lit_f (by rw [hnm]; decide)
  have q7 : (nm.toList == ([109, 97, 120, 76, 101, 110, 103, 116, 104] : List UInt8)) = false := lit_f (by rw [hnm]; decide)
  have q8 : (nm.toList == ([109, 105, 110, 105, 109, 117, 109] : List UInt8)) = false := lit_f (by rw [hnm]; decide)
  have q9 : (nm.toList == ([109, 97, 120, 105, 109, 117, 109] : List UInt8)) = false := lit_f (by rw [hnm]; decide)
  have q10 : (nm.toList == ([100, 105, 118, 105, 115, 105, 98, 108, 101] : List UInt8)) = false := lit_f (by rw [hnm]; decide)
  have q11 : (nm.toList == ([112, 114, 111, 112, 101, 114, 116, 105, 101, 115] : List UInt8)) = false := lit_f (by rw [hnm]; decide)
  have q12 : (nm.toList == ([97, 110, 121, 79, 102] : List UInt8)) = false := lit_f (by rw [hnm]; decide)
  have q13 : (nm.toList == ([97, 108, 108, 79, 102] : List UInt8)) = true := lit_t hnm
  have HNM := Lib.hid hnm
  have hbnn : is.length ≤ 9223372036854775807 := by omega
  have HL := Lib.hid (fun (W : World) (hbW : Below (w.alloc (.cells #[.int .i64 k, .int .i64 i, .string s, .slice an ns.length cn, .slice ai is.length ci] 25)).heap.size (w.alloc (.cells #[.int .i64 k, .int .i64 i, .string s, .slice an ns.length cn, .slice ai is.length ci] 25)) W) => (list_c (.mk k i s ns is) _ 1 false hbk W ok ((hr0.below hb0).below hbW)).mono (R' := fun e w' => e = .returned (.bool (listOk (.mk k i s ns is) 1 false)) ∧ Below (w.alloc (.cells #[.int .i64 k, .int .i64 i, .string s, .slice an ns.length cn, .slice ai is.length ci] 25)).heap.size (w.alloc (.cells #[.int .i64 k, .int .i64 i, .string s, .slice an ns.length cn, .slice ai is.length ci] 25)) w') (fun e w' h => ⟨h.1, hbW.trans (h.2.mono hbW.size)⟩))
  have HVL := Lib.hid (show listOk (.mk k i s ns is) 1 false = decide (k = 5 ∧ is ≠ []) from by
    unfold listOk
    show ((!false || is.all (fun y => decide (y.kind = 4))) && (decide (k = 5) && decide ((1 : Int) ≤ (is.length : Int)))) = _
    cases is with
    | nil => simp
    | cons x r =>
      have h1 : (1 : Int) ≤ (((x :: r).length : Nat) : Int) := by rw [List.length_cons]; omega
      rw [decide_eq_true h1]
      simp)
  rw [HVL.out] at HL
  by_cases h6 : k = 5 ∧ is ≠ []
  · have HT := Lib.hid (show readRule (.mk k i s ns is) nm d n = readList is (d + 1) n by rw [hnm, readRule, if_neg (by decide), if_pos (by decide), if_pos h6])
    rw [decide_eq_true h6] at HL
    clear hnm hr0 h6 ih HVL
    clear hc hst hit hb0 hok hbb hsz hC hkk hii hm hbk
    go_enter Tryz.func28, Tryz.ntmps28
    go_wp2_with (go_at_call 37; refine (HL.out _ (by repeat (first | with_reducible exact Below.refl _ _ | with_reducible refine below_drewN ?_ _ | with_reducible refine Below.drew ?_ | with_reducible refine Below.alloc ?_ (by first | (simp; done) | (simp; omega)) _ | with_reducible refine Below.setCell ?_ (by first | (simp; done) | (simp; omega)) _))).mono ?_; rintro e w1 ⟨rfl, hb1⟩; have HB1 := Lib.hid hb1; clear hb1)
    have HX := Lib.hid (heap_alloc_new w (.cells #[.int .i64 k, .int .i64 i, .string s, .slice an ns.length cn, .slice ai is.length ci] 25))
    generalize hW0 : w.alloc (.cells #[.int .i64 k, .int .i64 i, .string s, .slice an ns.length cn, .slice ai is.length ci] 25) = W0 at *
    have HB := Lib.hid HB0.out
    have hXl : w.heap.size < W0.heap.size := by rw [← hW0]; simp
    have HCS := Lib.hid (HC0.out.below HB1.out)
    have HUS0 := Lib.hid (Upd.of_below HB1.out (some C))
    clear hW0 c0 c1 f0 f1 a0 a1 a2 a3 a4
    go_loopw [10] (fun i wr => ∃ (j p E : Nat), j ≤ is.length ∧ i = .int .i64 j ∧ Hid (ChkAt wr C p E) ∧ Hid (Upd W0 wr (some C) (some C)) ∧ p ≤ 128 ∧ Hid ((E = 0 ∧ readList is (d + 1) n = readList (is.drop j) (d + 1) p) ∨ (readList is (d + 1) n = .bad E ∧ (E = 210 ∨ E = 211)))) (fun i _ => is.length - (intOf i).toNat)
    case atStart => exact ⟨0, n, 0, by omega, rfl, HCS, HUS0, hn, Lib.hid (.inl ⟨rfl, rfl⟩)⟩
    case round =>
      clear HCS HUS0
      obtain ⟨j, p, E, hj, rfl, HCA, HU, hp, HQ⟩ := hrel
      obtain ⟨⟨q0, q1⟩, ⟨g0, g1⟩, hCr⟩ := HCA.out.cells
      have hx := (HU.out.block hXl (by intro e; injection e with e; omega)).trans HX.out
      obtain ⟨⟨a0, a1, a2, a3, a4⟩, _⟩ := cellsOf5 hx
      have HUS := HU.out.grown.size
      clear hx
      by_cases hlt : j < is.length
      · by_cases hE : E = 0
        · subst hE
          have HQ1 := Lib.hid (show readList is (d + 1) n = readList (is.drop j) (d + 1) p from by
            rcases HQ.out with h | h
            · exact h.2
            · rcases h.2 with h | h <;> cases h)
          have HQ3 := Lib.hid (show readList is (d + 1) n = match readS is[j] (d + 1) p with | .bad e => .bad e | .ok m => readList (is.drop (j + 1)) (d + 1) m by
            rw [HQ1.out, List.drop_eq_getElem_cons hlt, readList]
            rfl)
          clear HQ HQ1
          obtain ⟨b2, off2, an2, cn2, ai2, ci2, rfl, hrj, hlj⟩ := (HIT.out.upd HNC.out HU.out).at j hlt
          obtain ⟨l0, l1, l2, l3, l4⟩ := lie5 hlj
          have hb2 : b2 ≠ C := fun e => by
            rcases HIT.out with h | ⟨b', o', h, ho, _⟩
            · rw [h] at hlt; simp at hlt
            · injection h with h; injection h with h; exact HNC.out (by rw [← e, h]; exact ho)
          have HCL := Lib.hid (fun (W : World) (hbW : Below wr.heap.size wr W) => (HIH.out is[j] (HSZ.out _ (List.getElem_mem hlt)) (okTs_at HOK.out.2 j hlt) (HBB.out.2 _ (List.getElem_mem hlt)) (d + 1) p (by omega) hp _ W ok C HNC.out (hrj.below hbW) (HCA.out.below hbW)).mono (R' := fun e w2 => e = .returned (.tuple #[]) ∧ ∃ m E, Hid (ChkAt w2 C m E) ∧ Hid (CntAt (readS is[j] (d + 1) p) m E) ∧ Hid (Upd wr w2 (some C) (some C)) ∧ m ≤ 128) (fun e w2 ⟨h1, m2, E2, h2, h3, h4, h5⟩ => ⟨h1, m2, E2, h2, h3, Lib.hid ((Upd.of_below hbW _).trans h4.out), h5⟩))
          rw [show ((d + 1 : Nat) : Int) = (d : Int) + 1 by omega] at HCL
          clear hrj hlj
          generalize readS is[j] (d + 1) p = rr at *
          generalize is[j] = x at *
          go_wp2_with (go_at_call 22; refine (HCL.out _ (by repeat (first | with_reducible exact Below.refl _ _ | with_reducible refine below_drewN ?_ _ | with_reducible refine Below.drew ?_ | with_reducible refine Below.alloc ?_ (by first | (simp; done) | (simp; omega)) _ | with_reducible refine Below.setCell ?_ (by first | (simp; done) | (simp; omega)) _))).mono ?_; rintro ee w2 ⟨rfl, p2, E2, HC2, HN2, HU2, hp2⟩)
          have HQ4 := Lib.hid (show (E2 = 0 ∧ readList is (d + 1) n = readList (is.drop (j + 1)) (d + 1) p2) ∨ (readList is (d + 1) n = .bad E2 ∧ (E2 = 210 ∨ E2 = 211)) from by
            rcases HN2.out with ⟨e, h1, h2, h3⟩ | ⟨h1, h2, h3⟩
            · right
              rw [HQ3.out, h1]
              exact ⟨by rw [h2], h3⟩
            · left
              rw [HQ3.out, h1]
              exact ⟨h2, rfl⟩)
          have HU3 := Lib.hid (HU.out.trans HU2.out)
          go_roundw
          case rel => exact ⟨j + 1, p2, E2, by omega, by go_num, HC2, HU3, hp2, HQ4⟩
          case measure => simp [intOf]; omega
        · have hE2 : ((E : Int) == 0) = false := by rw [beq_eq_false_iff_ne]; omega
          have HT2 := Lib.hid (show CntAt (readRule (.mk k i s ns is) nm d n) p E from by
            rw [HT.out]
            rcases HQ.out with h | h
            · exact absurd h.1 hE
            · exact .of_bad h.1 h.2)
          clear HQ hE
          go_wp2
          go_end0
          exact dpost_upd HB.out HU.out HCA.out HT2.out hp
      · obtain rfl : j = is.length := by omega
        have HT2 := Lib.hid (show CntAt (readRule (.mk k i s ns is) nm d n) p E from by
          rw [HT.out]
          rcases HQ.out with h | h
          · rw [h.1, h.2, List.drop_length, readList]
            exact .of_ok rfl hp
          · exact .of_bad h.1 h.2)
        clear HQ
        go_wp2
        go_end0
        exact dpost_upd HB.out HU.out HCA.out HT2.out hp
  · have HT := Lib.hid (show readRule (.mk k i s ns is) nm d n = .bad 210 by rw [hnm, readRule, if_neg (by decide), if_pos (by decide), if_neg h6])
    rw [decide_eq_false h6] at HL
    clear hnm hr0 h6 ih HVL
    clear hc hst hit hb0 hok hbb hsz hC hkk hii hm hbk
    go_enter Tryz.func28, Tryz.ntmps28
    go_wp2_with (go_at_call 37; refine (HL.out _ (by repeat (first | with_reducible exact Below.refl _ _ | with_reducible refine below_drewN ?_ _ | with_reducible refine Below.drew ?_ | with_reducible refine Below.alloc ?_ (by first | (simp; done) | (simp; omega)) _ | with_reducible refine Below.setCell ?_ (by first | (simp; done) | (simp; omega)) _))).mono ?_; rintro e w1 ⟨rfl, hb1⟩; have HB1 := Lib.hid hb1; clear hb1)
    go_loopw [10] (fun q wr => q = .int .i64 0 ∧ w1 = wr) (fun _ _ => 0)
    case atStart => exact ⟨rfl, rfl⟩
    case round =>
      obtain ⟨rfl, rfl⟩ := hrel
      go_wp2_with (go_at_call 27; refine (dfails_c C n 210 _ (HC0.out.below HB1.out)).mono ?_; rintro e w3 ⟨rfl, hw1⟩; have HW1 := Lib.hid hw1; clear hw1)
      go_end0
      exact dpost_bad (HB0.out.trans (HB1.out.mono HB0.out.size)) (HC0.out.below HB1.out) HT.out (by omega) (by omega) HW1.out
set_option maxRecDepth 20000 in
set_option maxHeartbeats 8000000 in
theorem drule_items (m : Nat) (ih : DSchemaSaid m) (nm : ByteArray) (hnm : nm = ⟨#[105, 116, 101, 109, 115]⟩) : DRuleFor m nm := by
  intro t hm hok hbk d n hd hn cs w ok C hC hr hc
  obtain ⟨k, i, s, ns, is⟩ := t
  have hr0 := hr
  rw [rep_mk] at hr
  obtain ⟨hkk, hii, _, an, cn, ai, ci, rfl, hcn, hci, hst, hit⟩ := hr
  unfold maxLen at hcn hci
  rw [okT] at hok
  have hisl := JV.len_le is
  have hbb : is.length ≤ 1099511627776 ∧ ∀ x ∈ is, x.bulk ≤ 1099511627776 := by
    rw [JV.bulk] at hbk
    refine ⟨?_, fun x hx => by have := JV.bulk_le hx; omega⟩
    have h1 : is.length ≤ JV.bulks is := by
      clear hit hisl hci hcn hbk hr0 hok hm
      induction is with
      | nil => simp
      | cons y r ih => cases y; simp only [JV.bulks, JV.bulk, List.length_cons]; omega
    omega
  have hsz : ∀ x ∈ is, x.size ≤ m := fun x hx => by have h1 := JV.size_le hx; rw [JV.size] at hm; omega
  have hb0 : Below w.heap.size w (w.alloc (.cells #[.int .i64 k, .int .i64 i, .string s, .slice an ns.length cn, .slice ai is.length ci] 25)) := (Below.refl _ _).alloc (Nat.le_refl _) _
  obtain ⟨a0, a1, a2, a3, a4⟩ := cells5' w (.int .i64 k) (.int .i64 i) (.string s) (.slice an ns.length cn) (.slice ai is.length ci) 25
  have HC0 := Lib.hid (hc.below hb0)
  have HST := Lib.hid (hst.below hb0)
  have HIT := Lib.hid (hit.below hb0)
  have HB0 := Lib.hid hb0
  have HIH := Lib.hid ih
  have HOK := Lib.hid hok
  have HBB := Lib.hid hbb
  have HSZ := Lib.hid hsz
  have HNC := Lib.hid hC
  have hCl := hc.cells.2.2
  have hCl0 : C < (w.alloc (.cells #[.int .i64 k, .int .i64 i, .string s, .slice an ns.length cn, .slice ai is.length ci] 25)).heap.size := by simp; omega
  have hCn : w.heap.size ≠ C := by omega
  obtain ⟨⟨c0, c1⟩, ⟨f0, f1⟩, _⟩ := HC0.out.cells
  have q0 : (nm.toList == ([116, 121, 112, 101] : List UInt8)) = false := lit_f (by rw [hnm]; decide)
  have q1 : (nm.toList == ([101, 110, 117, 109] : List UInt8)) = false := lit_f (by rw [hnm]; decide)
  have q2 : (nm.toList == ([114, 101, 113, 117, 105, 114, 101, 100] : List UInt8)) = false := lit_f (by rw [hnm]; decide)
  have q3 : (nm.toList == ([97, 100, 100, 105, 116, 105, 111, 110, 97, 108] : List UInt8)) = false := lit_f (by rw [hnm]; decide)
  have q4 : (nm.toList == ([109, 105, 110, 73, 116, 101, 109, 115] : List UInt8)) = false := lit_f (by rw [hnm]; decide)
  have q5 : (nm.toList == ([109, 97, 120, 73, 116, 101, 109, 115] : List UInt8)) = false := lit_f (by rw [hnm]; decide)
  have q6 : (nm.toList == ([109, 105, 110, 76, 101, 110, 103, 116, 104] : List UInt8)) = false := lit_f (by rw [hnm]; decide)
  have q7 : (nm.toList == ([109, 97, 120, 76, 101, 110, 103, 116, 104] : List UInt8)) = false := lit_f (by rw [hnm]; decide)
  have q8 : (nm.toList == ([109, 105, 110, 105, 109, 117, 109] : List UInt8)) = false := lit_f (by rw [hnm]; decide)
  have q9 : (nm.toList == ([109, 97, 120, 105, 109, 117, 109] : List UInt8)) = false := lit_f (by rw [hnm]; decide)
  have q10 : (nm.toList == ([100, 105, 118, 105, 115, 105, 98, 108, 101] : List UInt8)) = false := lit_f (by rw [hnm]; decide)
  have q11 : (nm.toList == ([112, 114, 111, 112, 101, 114, 116, 105, 101, 115] : List UInt8)) = false := lit_f (by rw [hnm]; decide)
  have q12 : (nm.toList == ([97, 110, 121, 79, 102] : List UInt8)) = false := lit_f (by rw [hnm]; decide)
  have q13 : (nm.toList == ([97, 108, 108, 79, 102] : List UInt8)) = false := lit_f (by rw [hnm]; decide)
  have q14 : (nm.toList == ([105, 116, 101, 109, 115] : List UInt8)) = true := lit_t hnm
  have HNM := Lib.hid hnm
  have HCL := Lib.hid (fun (W : World) (hbW : Below (w.alloc (.cells #[.int .i64 k, .int .i64 i, .string s, .slice an ns.length cn, .slice ai is.length ci] 25)).heap.size (w.alloc (.cells #[.int .i64 k, .int .i64 i, .string s, .slice an ns.length cn, .slice ai is.length ci] 25)) W) => ih (.mk k i s ns is) hm (by rw [okT]; exact hok) hbk (d + 1) n (by omega) hn _ W ok C hC ((hr0.below hb0).below hbW) (HC0.out.below hbW))
  rw [show ((d + 1 : Nat) : Int) = (d : Int) + 1 by omega] at HCL
  have HT := Lib.hid (show readRule (.mk k i s ns is) nm d n = readS (.mk k i s ns is) (d + 1) n by rw [hnm, readRule, if_neg (by decide), if_neg (by decide), if_pos (by decide), readS])
  clear hnm hr0 ih
  clear hc hst hit hb0 hok hbb hsz hC hkk hii hm hbk
  go_enter Tryz.func28, Tryz.ntmps28
  go_wp2_with (go_at_call 22; refine (HCL.out _ (by repeat (first | with_reducible exact Below.refl _ _ | with_reducible refine below_drewN ?_ _ | with_reducible refine Below.drew ?_ | with_reducible refine Below.alloc ?_ (by first | (simp; done) | (simp; omega)) _ | with_reducible refine Below.setCell ?_ (by first | (simp; done) | (simp; omega)) _))).mono ?_; rintro ee w2 ⟨rfl, p2, E2, HC2, HN2, HU2, hp2⟩)
  go_end0
  exact ⟨rfl, p2, E2, HC2, Lib.hid (by rw [HT.out]; exact HN2.out), Lib.hid ((Upd.of_below HB0.out _).trans HU2.out), hp2⟩
set_option maxRecDepth 20000 in
set_option maxHeartbeats 8000000 in
theorem drule_not (m : Nat) (ih : DSchemaSaid m) (nm : ByteArray) (hnm : nm = ⟨#[110, 111, 116]⟩) : DRuleFor m nm := by
  intro t hm hok hbk d n hd hn cs w ok C hC hr hc
  obtain ⟨k, i, s, ns, is⟩ := t
  have hr0 := hr
  rw [rep_mk] at hr
  obtain ⟨hkk, hii, _, an, cn, ai, ci, rfl, hcn, hci, hst, hit⟩ := hr
  unfold maxLen at hcn hci
  rw [okT] at hok
  have hisl := JV.len_le is
  have hbb : is.length ≤ 1099511627776 ∧ ∀ x ∈ is, x.bulk ≤ 1099511627776 := by
    rw [JV.bulk] at hbk
    refine ⟨?_, fun x hx => by have := JV.bulk_le hx; omega⟩
    have h1 : is.length ≤ JV.bulks is := by
      clear hit hisl hci hcn hbk hr0 hok hm
      induction is with
      | nil => simp
      | cons y r ih => cases y; simp only [JV.bulks, JV.bulk, List.length_cons]; omega
    omega
  have hsz : ∀ x ∈ is, x.size ≤ m := fun x hx => by have h1 := JV.size_le hx; rw [JV.size] at hm; omega
  have hb0 : Below w.heap.size w (w.alloc (.cells #[.int .i64 k, .int .i64 i, .string s, .slice an ns.length cn, .slice ai is.length ci] 25)) := (Below.refl _ _).alloc (Nat.le_refl _) _
  obtain ⟨a0, a1, a2, a3, a4⟩ := cells5' w (.int .i64 k) (.int .i64 i) (.string s) (.slice an ns.length cn) (.slice ai is.length ci) 25
  have HC0 := Lib.hid (hc.below hb0)
  have HST := Lib.hid (hst.below hb0)
  have HIT := Lib.hid (hit.below hb0)
  have HB0 := Lib.hid hb0
  have HIH := Lib.hid ih
  have HOK := Lib.hid hok
  have HBB := Lib.hid hbb
  have HSZ := Lib.hid hsz
  have HNC := Lib.hid hC
  have hCl := hc.cells.2.2
  have hCl0 : C < (w.alloc (.cells #[.int .i64 k, .int .i64 i, .string s, .slice an ns.length cn, .slice ai is.length ci] 25)).heap.size := by simp; omega
  have hCn : w.heap.size ≠ C := by omega
  obtain ⟨⟨c0, c1⟩, ⟨f0, f1⟩, _⟩ := HC0.out.cells
  have q0 : (nm.toList == ([116, 121, 112, 101] : List UInt8)) = false := lit_f (by rw [hnm]; decide)
  have q1 : (nm.toList == ([101, 110, 117, 109] : List UInt8)) = false := lit_f (by rw [hnm]; decide)
  have q2 : (nm.toList == ([114, 101, 113, 117, 105, 114, 101, 100] : List UInt8)) = false := lit_f (by rw [hnm]; decide)
  have q3 : (nm.toList == ([97, 100, 100, 105, 116, 105, 111, 110, 97, 108] : List UInt8)) = false := lit_f (by rw [hnm]; decide)
  have q4 : (nm.toList == ([109, 105, 110, 73, 116, 101, 109, 115] : List UInt8)) = false := lit_f (by rw [hnm]; decide)
  have q5 : (nm.toList == ([109, 97, 120, 73, 116, 101, 109, 115] : List UInt8)) = false := lit_f (by rw [hnm]; decide)
  have q6 : (nm.toList == ([109, 105, 110, 76, 101, 110, 103, 116, 104] : List UInt8)) = false := lit_f (by rw [hnm]; decide)
  have q7 : (nm.toList == ([109, 97, 120, 76, 101, 110, 103, 116, 104] : List UInt8)) = false := lit_f (by rw [hnm]; decide)
  have q8 : (nm.toList == ([109, 105, 110, 105, 109, 117, 109] : List UInt8)) = false := lit_f (by rw [hnm]; decide)
  have q9 : (nm.toList == ([109, 97, 120, 105, 109, 117, 109] : List UInt8)) = false := lit_f (by rw [hnm]; decide)
  have q10 : (nm.toList == ([100, 105, 118, 105, 115, 105, 98, 108, 101] : List UInt8)) = false := lit_f (by rw [hnm]; decide)
  have q11 : (nm.toList == ([112, 114, 111, 112, 101, 114, 116, 105, 101, 115] : List UInt8)) = false := lit_f (by rw [hnm]; decide)
  have q12 : (nm.toList == ([97, 110, 121, 79, 102] : List UInt8)) = false := lit_f (by rw [hnm]; decide)
  have q13 : (nm.toList == ([97, 108, 108, 79, 102] : List UInt8)) = false := lit_f (by rw [hnm]; decide)
  have q14 : (nm.toList == ([105, 116, 101, 109, 115] : List UInt8)) = false := lit_f (by rw [hnm]; decide)
  have q15 : (nm.toList == ([110, 111, 116] : List UInt8)) = true := lit_t hnm
  have HNM := Lib.hid hnm
  have HCL := Lib.hid (fun (W : World) (hbW : Below (w.alloc (.cells #[.int .i64 k, .int .i64 i, .string s, .slice an ns.length cn, .slice ai is.length ci] 25)).heap.size (w.alloc (.cells #[.int .i64 k, .int .i64 i, .string s, .slice an ns.length cn, .slice ai is.length ci] 25)) W) => ih (.mk k i s ns is) hm (by rw [okT]; exact hok) hbk (d + 1) n (by omega) hn _ W ok C hC ((hr0.below hb0).below hbW) (HC0.out.below hbW))
  rw [show ((d + 1 : Nat) : Int) = (d : Int) + 1 by omega] at HCL
  have HT := Lib.hid (show readRule (.mk k i s ns is) nm d n = readS (.mk k i s ns is) (d + 1) n by rw [hnm, readRule, if_neg (by decide), if_neg (by decide), if_pos (by decide), readS])
  clear hnm hr0 ih
  clear hc hst hit hb0 hok hbb hsz hC hkk hii hm hbk
  go_enter Tryz.func28, Tryz.ntmps28
  go_wp2_with (go_at_call 22; refine (HCL.out _ (by repeat (first | with_reducible exact Below.refl _ _ | with_reducible refine below_drewN ?_ _ | with_reducible refine Below.drew ?_ | with_reducible refine Below.alloc ?_ (by first | (simp; done) | (simp; omega)) _ | with_reducible refine Below.setCell ?_ (by first | (simp; done) | (simp; omega)) _))).mono ?_; rintro ee w2 ⟨rfl, p2, E2, HC2, HN2, HU2, hp2⟩)
  go_end0
  exact ⟨rfl, p2, E2, HC2, Lib.hid (by rw [HT.out]; exact HN2.out), Lib.hid ((Upd.of_below HB0.out _).trans HU2.out), hp2⟩
set_option maxRecDepth 20000 in
set_option maxHeartbeats 8000000 in
theorem drule_none (m : Nat) (nm : ByteArray) (hnm : nm ≠ ⟨#[116, 121, 112, 101]⟩ ∧ nm ≠ ⟨#[101, 110, 117, 109]⟩ ∧ nm ≠ ⟨#[114, 101, 113, 117, 105, 114, 101, 100]⟩ ∧ nm ≠ ⟨#[97, 100, 100, 105, 116, 105, 111, 110, 97, 108]⟩ ∧ nm ≠ ⟨#[109, 105, 110, 73, 116, 101, 109, 115]⟩ ∧ nm ≠ ⟨#[109, 97, 120, 73, 116, 101, 109, 115]⟩ ∧ nm ≠ ⟨#[109, 105, 110, 76, 101, 110, 103, 116, 104]⟩ ∧ nm ≠ ⟨#[109, 97, 120, 76, 101, 110, 103, 116, 104]⟩ ∧ nm ≠ ⟨#[109, 105, 110, 105, 109, 117, 109]⟩ ∧ nm ≠ ⟨#[109, 97, 120, 105, 109, 117, 109]⟩ ∧ nm ≠ ⟨#[100, 105, 118, 105, 115, 105, 98, 108, 101]⟩ ∧ nm ≠ ⟨#[112, 114, 111, 112, 101, 114, 116, 105, 101, 115]⟩ ∧ nm ≠ ⟨#[97, 110, 121, 79, 102]⟩ ∧ nm ≠ ⟨#[97, 108, 108, 79, 102]⟩ ∧ nm ≠ ⟨#[105, 116, 101, 109, 115]⟩ ∧ nm ≠ ⟨#[110, 111, 116]⟩) : DRuleFor m nm := by
  intro t hm hok hbk d n hd hn cs w ok C hC hr hc
  obtain ⟨k, i, s, ns, is⟩ := t
  have hr0 := hr
  rw [rep_mk] at hr
  obtain ⟨hkk, hii, _, an, cn, ai, ci, rfl, hcn, hci, hst, hit⟩ := hr
  unfold maxLen at hcn hci
  rw [okT] at hok
  have hisl := JV.len_le is
  have hbb : is.length ≤ 1099511627776 ∧ ∀ x ∈ is, x.bulk ≤ 1099511627776 := by
    rw [JV.bulk] at hbk
    refine ⟨?_, fun x hx => by have := JV.bulk_le hx; omega⟩
    have h1 : is.length ≤ JV.bulks is := by
      clear hit hisl hci hcn hbk hr0 hok hm
      induction is with
      | nil => simp
      | cons y r ih => cases y; simp only [JV.bulks, JV.bulk, List.length_cons]; omega
    omega
  have hsz : ∀ x ∈ is, x.size ≤ m := fun x hx => by have h1 := JV.size_le hx; rw [JV.size] at hm; omega
  have hb0 : Below w.heap.size w (w.alloc (.cells #[.int .i64 k, .int .i64 i, .string s, .slice an ns.length cn, .slice ai is.length ci] 25)) := (Below.refl _ _).alloc (Nat.le_refl _) _
  obtain ⟨a0, a1, a2, a3, a4⟩ := cells5' w (.int .i64 k) (.int .i64 i) (.string s) (.slice an ns.length cn) (.slice ai is.length ci) 25
  have HC0 := Lib.hid (hc.below hb0)
  have HST := Lib.hid (hst.below hb0)
  have HIT := Lib.hid (hit.below hb0)
  have HB0 := Lib.hid hb0
  have HOK := Lib.hid hok
  have HBB := Lib.hid hbb
  have HNC := Lib.hid hC
  have hCl := hc.cells.2.2
  have hCl0 : C < (w.alloc (.cells #[.int .i64 k, .int .i64 i, .string s, .slice an ns.length cn, .slice ai is.length ci] 25)).heap.size := by simp; omega
  have hCn : w.heap.size ≠ C := by omega
  obtain ⟨⟨c0, c1⟩, ⟨f0, f1⟩, _⟩ := HC0.out.cells
  have q0 : (nm.toList == ([116, 121, 112, 101] : List UInt8)) = false := lit_f hnm.1
  have q1 : (nm.toList == ([101, 110, 117, 109] : List UInt8)) = false := lit_f hnm.2.1
  have q2 : (nm.toList == ([114, 101, 113, 117, 105, 114, 101, 100] : List UInt8)) = false := lit_f hnm.2.2.1
  have q3 : (nm.toList == ([97, 100, 100, 105, 116, 105, 111, 110, 97, 108] : List UInt8)) = false := lit_f hnm.2.2.2.1
  have q4 : (nm.toList == ([109, 105, 110, 73, 116, 101, 109, 115] : List UInt8)) = false := lit_f hnm.2.2.2.2.1
  have q5 : (nm.toList == ([109, 97, 120, 73, 116, 101, 109, 115] : List UInt8)) = false := lit_f hnm.2.2.2.2.2.1
  have q6 : (nm.toList == ([109, 105, 110, 76, 101, 110, 103, 116, 104] : List UInt8)) = false := lit_f hnm.2.2.2.2.2.2.1
  have q7 : (nm.toList == ([109, 97, 120, 76, 101, 110, 103, 116, 104] : List UInt8)) = false := lit_f hnm.2.2.2.2.2.2.2.1
  have q8 : (nm.toList == ([109, 105, 110, 105, 109, 117, 109] : List UInt8)) = false := lit_f hnm.2.2.2.2.2.2.2.2.1
  have q9 : (nm.toList == ([109, 97, 120, 105, 109, 117, 109] : List UInt8)) = false := lit_f hnm.2.2.2.2.2.2.2.2.2.1
  have q10 : (nm.toList == ([100, 105, 118, 105, 115, 105, 98, 108, 101] : List UInt8)) = false := lit_f hnm.2.2.2.2.2.2.2.2.2.2.1
  have q11 : (nm.toList == ([112, 114, 111, 112, 101, 114, 116, 105, 101, 115] : List UInt8)) = false := lit_f hnm.2.2.2.2.2.2.2.2.2.2.2.1
  have q12 : (nm.toList == ([97, 110, 121, 79, 102] : List UInt8)) = false := lit_f hnm.2.2.2.2.2.2.2.2.2.2.2.2.1
  have q13 : (nm.toList == ([97, 108, 108, 79, 102] : List UInt8)) = false := lit_f hnm.2.2.2.2.2.2.2.2.2.2.2.2.2.1
  have q14 : (nm.toList == ([105, 116, 101, 109, 115] : List UInt8)) = false := lit_f hnm.2.2.2.2.2.2.2.2.2.2.2.2.2.2.1
  have q15 : (nm.toList == ([110, 111, 116] : List UInt8)) = false := lit_f hnm.2.2.2.2.2.2.2.2.2.2.2.2.2.2.2
  have HT := Lib.hid (show readRule (.mk k i s ns is) nm d n = .bad 210 by
    obtain ⟨n0, n1, n2, n3, n4, n5, n6, n7, n8, n9, n10, n11, n12, n13, n14, n15⟩ := hnm
    rw [readRule, if_neg n11, if_neg (by simp only [not_or]; exact ⟨n12, n13⟩), if_neg (by simp only [not_or]; exact ⟨n14, n15⟩)]
    unfold leafOk
    rw [if_neg n0, if_neg n1, if_neg n2, if_neg n3, if_neg (by simp only [not_or]; exact ⟨n4, n5, n6, n7⟩), if_neg (by simp only [not_or]; exact ⟨n8, n9⟩), if_neg n10]
    rfl)
  clear hnm hr0
  clear hc hst hit hb0 hok hbb hsz hC hkk hii hm hbk
  go_enter Tryz.func28, Tryz.ntmps28
  go_wp2_with (go_at_call 27; refine (dfails_c C n 210 _ HC0.out).mono ?_; rintro e w1 ⟨rfl, hw1⟩; have HW1 := Lib.hid hw1; clear hw1)
  go_end0
  exact dpost_bad HB0.out HC0.out HT.out (by omega) (by omega) HW1.out
theorem drule_step (m : Nat) (ih : DSchemaSaid m) : DRuleSaid m := by
  intro t hm hok hbk nm
  have key : DRuleFor m nm := by
    by_cases h0 : nm = ⟨#[116, 121, 112, 101]⟩
    · exact drule_type m nm h0
    by_cases h1 : nm = ⟨#[101, 110, 117, 109]⟩
    · exact drule_enum m nm h1
    by_cases h2 : nm = ⟨#[114, 101, 113, 117, 105, 114, 101, 100]⟩
    · exact drule_required m nm h2
    by_cases h3 : nm = ⟨#[97, 100, 100, 105, 116, 105, 111, 110, 97, 108]⟩
    · exact drule_additional m nm h3
    by_cases h4 : nm = ⟨#[109, 105, 110, 73, 116, 101, 109, 115]⟩
    · exact drule_minItems m nm h4
    by_cases h5 : nm = ⟨#[109, 97, 120, 73, 116, 101, 109, 115]⟩
    · exact drule_maxItems m nm h5
    by_cases h6 : nm = ⟨#[109, 105, 110, 76, 101, 110, 103, 116, 104]⟩
    · exact drule_minLength m nm h6
    by_cases h7 : nm = ⟨#[109, 97, 120, 76, 101, 110, 103, 116, 104]⟩
    · exact drule_maxLength m nm h7
    by_cases h8 : nm = ⟨#[109, 105, 110, 105, 109, 117, 109]⟩
    · exact drule_minimum m nm h8
    by_cases h9 : nm = ⟨#[109, 97, 120, 105, 109, 117, 109]⟩
    · exact drule_maximum m nm h9
    by_cases h10 : nm = ⟨#[100, 105, 118, 105, 115, 105, 98, 108, 101]⟩
    · exact drule_divisible m nm h10
    by_cases h11 : nm = ⟨#[112, 114, 111, 112, 101, 114, 116, 105, 101, 115]⟩
    · exact drule_properties m ih nm h11
    by_cases h12 : nm = ⟨#[97, 110, 121, 79, 102]⟩
    · exact drule_anyOf m ih nm h12
    by_cases h13 : nm = ⟨#[97, 108, 108, 79, 102]⟩
    · exact drule_allOf m ih nm h13
    by_cases h14 : nm = ⟨#[105, 116, 101, 109, 115]⟩
    · exact drule_items m ih nm h14
    by_cases h15 : nm = ⟨#[110, 111, 116]⟩
    · exact drule_not m ih nm h15
    exact drule_none m nm ⟨h0, h1, h2, h3, h4, h5, h6, h7, h8, h9, h10, h11, h12, h13, h14, h15⟩
  exact key t hm hok hbk
theorem dschema_all (m : Nat) : DSchemaSaid m := by
  induction m with
  | zero => intro t hm; have := JV.size_pos t; omega
  | succ m ih => exact dschema_step m (drule_step m ih)
end Go.Proofs.YtnmojmmgkipjcaaGreatDoor
namespace Go.Proofs.YtnmojmmgkipjcaaGreatDoor
open Go.RowKit
/-- what Read answers: the error's number -/
def readE (t : JV) : Int := if chk t 0 = 0 then ((readS t 0 0).err : Int) else chk t 0
def RdPost (t : JV) (w : World) (e : Ending) (w' : World) : Prop := ∃ N : Nat, e = .returned (.tuple #[.int .i64 (readE t), .int .i64 (N : Int)]) ∧ N ≤ 128 ∧ (chk t 0 = 0 → ∀ m, readS t 0 0 = .ok m → N = m) ∧ Below w.heap.size w w'
set_option maxRecDepth 20000 in
set_option maxHeartbeats 4000000 in
theorem refRead_c (t : JV) (hbk : t.bulk ≤ 1099511627776) (cs : List Value) (w : World) (ok : Nat → Prop) (hr : Rep w ok t cs) : Calls Tryz.prog 8 #[.agg cs.toArray] w (RdPost t w) := by
  obtain ⟨an, cn, ai, ci, rfl⟩ := hr.form
  have hb0 : Below w.heap.size w (w.alloc (.cells #[.int .i64 t.kind, .int .i64 t.int, .string t.text, .slice an t.names.length cn, .slice ai t.items.length ci] 25)) := (Below.refl _ _).alloc (Nat.le_refl _) _
  have HCK := Lib.hid (refCheck_c t hbk _ _ ok (hr.below hb0))
  obtain ⟨a0, a1, a2, a3, a4⟩ := cells5 w (.int .i64 t.kind) (.int .i64 t.int) (.string t.text) (.slice an t.names.length cn) (.slice ai t.items.length ci) 25
  have HR := Lib.hid ((Rep.kept (ok' := fun b => b < w.heap.size) (fun b hlt _ => ⟨hlt, rfl⟩) t _ hr).below hb0)
  have HB0 := Lib.hid hb0
  have hvals := chk_vals t 0
  by_cases h0 : chk t 0 = 0
  · have HE := Lib.hid (show readE t = ((readS t 0 0).err : Int) from if_pos h0)
    have HT := Lib.hid (ok_chk t 0 h0)
    rw [h0] at HCK
    have HH := Lib.hid h0
    clear hr hb0 hvals h0
    go_enter Tryz.func8, Tryz.ntmps8
    go_wp2_with fail
    refine HCK.out.mono ?_; rintro e w1 ⟨rfl, hb1⟩
    have HB1 := Lib.hid hb1
    have x0 := cell_below hb1 a0
    have x1 := cell_below hb1 a1
    have x2 := cell_below hb1 a2
    have x3 := cell_below hb1 a3
    have x4 := cell_below hb1 a4
    have hX1 : w.heap.size < w1.heap.size := by have := hb1.size; simp only [World.size_alloc] at this; omega
    clear hb1 a0 a1 a2 a3 a4 HCK
    have HRD := Lib.hid (fun (W : World) (hbW : Below (w1.alloc (.cells #[.int .i64 0, .int .i64 0] 55)).heap.size (w1.alloc (.cells #[.int .i64 0, .int .i64 0] 55)) W) => dschema_all t.size t (Nat.le_refl _) HT.out hbk 0 0 (by omega) (by omega) _ W (fun b => b < w.heap.size) w1.heap.size (by have := HB1.out.size; simp only [World.size_alloc] at this; omega) (((HR.out.below HB1.out).below ((Below.refl _ _).alloc (Nat.le_refl _) _)).below hbW) ((show ChkAt (w1.alloc (.cells #[.int .i64 0, .int .i64 0] 55)) w1.heap.size 0 0 from heap_alloc_new w1 _).below hbW))
    go_wp2_with fail
    refine (HRD.out _ (by repeat (first | with_reducible exact Below.refl _ _ | with_reducible refine below_drewN ?_ _ | with_reducible refine Below.drew ?_ | with_reducible refine Below.alloc ?_ (by first | (simp; done) | (simp; omega)) _ | with_reducible refine Below.setCell ?_ (by first | (simp; done) | (simp; omega)) _))).mono ?_; rintro e w2 ⟨rfl, m2, E2, HC2, HN2, HU2, hm2⟩
    obtain ⟨⟨q0, q1⟩, _, hCl⟩ := HC2.out.cells
    clear HRD x0 x1 x2 x3 x4
    go_wp2
    go_quiet (fail)
    go_wp2
    refine bodyPost_ret (results_tmp2 rfl _ _ _) rfl ?_
    have hbl : Below w.heap.size w (w2.drewN nq) := below_drewN ((HB0.out.trans (HB1.out.mono HB0.out.size)).trans (((Below.refl w1.heap.size w1).alloc (Nat.le_refl _) _ |>.mono (by omega)).trans (HU2.out.below (by simp only [World.size_alloc]; omega) (fun g hg => by injection hg with hg; omega)))) nq
    rcases HN2.out with ⟨e, h1, h2, h3⟩ | ⟨h1, h2, h3⟩
    · refine ⟨m2, ?_, hm2, fun _ m hm => ?_, hbl⟩
      · rw [HE.out, h1, h2]; rfl
      · rw [h1] at hm; cases hm
    · refine ⟨m2, ?_, hm2, fun _ m hm => ?_, hbl⟩
      · rw [HE.out, h1, h2]; rfl
      · rw [h1] at hm; injection hm
  · have HE := Lib.hid (show readE t = chk t 0 from if_neg h0)
    have HH := Lib.hid (show ¬ chk t 0 = 0 from h0)
    have HPO := Lib.hid (fun (W : World) (h : Below w.heap.size w W) => (show RdPost t w (.returned (.tuple #[.int .i64 (chk t 0), .int .i64 ((0 : Nat) : Int)])) W from ⟨0, by rw [HE.out], by omega, fun h2 => absurd h2 HH.out, h⟩))
    have hne : (chk t 0 != 0) = true := by simp [h0]
    generalize chk t 0 = z at *
    clear hr hb0 h0
    go_enter Tryz.func8, Tryz.ntmps8
    go_wp2_with (go_at_call 21; refine HCK.out.mono ?_; rintro e w1 ⟨rfl, hb1⟩; have HB1 := Lib.hid hb1; clear hb1)
    refine bodyPost_ret (results_tmp2 rfl _ _ _) rfl ?_
    exact HPO.out _ (HB0.out.trans (HB1.out.mono HB0.out.size))
end Go.Proofs.YtnmojmmgkipjcaaGreatDoor
