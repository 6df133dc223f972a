/- The walks of the document's plain, check and Check. Conditions: what a tree holds is at most 2 to the 40. -/
import Derived.Test.YtnmojmmgkipjcaaGreatDoorCheckw
import Derived.Test.YtnmojmmgkipjcaaGreatDoorChrw
namespace Go.Proofs.YtnmojmmgkipjcaaGreatDoor
open Go.RowKit
def plainB (k n : Int) (s : ByteArray) (ln li : Nat) : Bool :=
  if k = 3 then s.toList.isEmpty && ((ln : Int) == 0) && ((li : Int) == 0)
  else if k = 4 then (n == 0) && ((ln : Int) == 0) && ((li : Int) == 0)
  else if k = 5 then (n == 0) && s.toList.isEmpty && ((ln : Int) == 0)
  else if k = 6 then (n == 0) && s.toList.isEmpty && ((ln : Int) == (li : Int))
  else (n == 0) && s.toList.isEmpty && ((ln : Int) == 0) && ((li : Int) == 0)
theorem fits_plain (k n : Int) (s : ByteArray) (ln li : Nat) (h : 0 ≤ k ∧ k ≤ 6) : fitsB k n s ln li = (plainB k n s ln li && Lib.validD s.data.toList) := by
  have he : s.toList.isEmpty = true → Lib.validD s.data.toList = true := fun h => by
    rw [ByteArray.toList_eq, List.isEmpty_iff] at h
    rw [h]; rfl
  unfold fitsB plainB
  rcases (show k = 0 ∨ k = 1 ∨ k = 2 ∨ k = 3 ∨ k = 4 ∨ k = 5 ∨ k = 6 by omega) with rfl | rfl | rfl | rfl | rfl | rfl | rfl
  all_goals simp
  all_goals (cases hh : s.toList.isEmpty <;> simp_all)
  all_goals (try cases hv : Lib.validD s.data.toList <;> simp_all)
set_option maxHeartbeats 2000000 in
theorem plain3_c (n : Int) (s : ByteArray) (an ai : Option Addr) (ln cn li ci : Nat) (w : World) :
    Calls Tryz.prog 33 #[.agg #[.int .i64 3, .int .i64 n, .string s, .slice an ln cn, .slice ai li ci]] w fun e w' => e = .returned (.bool (plainB 3 n s ln li)) ∧ Below w.heap.size w w' := by
  obtain ⟨a0, a1, a2, a3, a4⟩ := cells5 w (.int .i64 3) (.int .i64 n) (.string s) (.slice an ln cn) (.slice ai li ci) 25
  have hb0 : Below w.heap.size w (w.alloc (.cells #[.int .i64 3, .int .i64 n, .string s, .slice an ln cn, .slice ai li ci] 25)) := (Below.refl _ _).alloc (Nat.le_refl _) _
  have HB := Lib.hid hb0
  clear hb0
  go_enter Tryz.func33, Tryz.ntmps33
  go_wp2
  all_goals go_ret
  all_goals refine ⟨ret_bool ?_, (Below.refl _ _).alloc (Nat.le_refl _) _⟩
  all_goals (clear a0 a1 a2 a3 a4 HB; simp_all [plainB])
set_option maxHeartbeats 2000000 in
theorem plain4_c (n : Int) (s : ByteArray) (an ai : Option Addr) (ln cn li ci : Nat) (w : World) :
    Calls Tryz.prog 33 #[.agg #[.int .i64 4, .int .i64 n, .string s, .slice an ln cn, .slice ai li ci]] w fun e w' => e = .returned (.bool (plainB 4 n s ln li)) ∧ Below w.heap.size w w' := by
  obtain ⟨a0, a1, a2, a3, a4⟩ := cells5 w (.int .i64 4) (.int .i64 n) (.string s) (.slice an ln cn) (.slice ai li ci) 25
  have hb0 : Below w.heap.size w (w.alloc (.cells #[.int .i64 4, .int .i64 n, .string s, .slice an ln cn, .slice ai li ci] 25)) := (Below.refl _ _).alloc (Nat.le_refl _) _
  have HB := Lib.hid hb0
  clear hb0
  go_enter Tryz.func33, Tryz.ntmps33
  go_wp2
  all_goals go_ret
  all_goals refine ⟨ret_bool ?_, (Below.refl _ _).alloc (Nat.le_refl _) _⟩
  all_goals (clear a0 a1 a2 a3 a4 HB; simp_all [plainB])
set_option maxHeartbeats 2000000 in
theorem plain5_c (n : Int) (s : ByteArray) (an ai : Option Addr) (ln cn li ci : Nat) (w : World) :
    Calls Tryz.prog 33 #[.agg #[.int .i64 5, .int .i64 n, .string s, .slice an ln cn, .slice ai li ci]] w fun e w' => e = .returned (.bool (plainB 5 n s ln li)) ∧ Below w.heap.size w w' := by
  obtain ⟨a0, a1, a2, a3, a4⟩ := cells5 w (.int .i64 5) (.int .i64 n) (.string s) (.slice an ln cn) (.slice ai li ci) 25
  have hb0 : Below w.heap.size w (w.alloc (.cells #[.int .i64 5, .int .i64 n, .string s, .slice an ln cn, .slice ai li ci] 25)) := (Below.refl _ _).alloc (Nat.le_refl _) _
  have HB := Lib.hid hb0
  clear hb0
  go_enter Tryz.func33, Tryz.ntmps33
  go_wp2
  all_goals go_ret
  all_goals refine ⟨ret_bool ?_, (Below.refl _ _).alloc (Nat.le_refl _) _⟩
  all_goals (clear a0 a1 a2 a3 a4 HB; simp_all [plainB])
set_option maxHeartbeats 2000000 in
theorem plain6_c (n : Int) (s : ByteArray) (an ai : Option Addr) (ln cn li ci : Nat) (w : World) :
    Calls Tryz.prog 33 #[.agg #[.int .i64 6, .int .i64 n, .string s, .slice an ln cn, .slice ai li ci]] w fun e w' => e = .returned (.bool (plainB 6 n s ln li)) ∧ Below w.heap.size w w' := by
  obtain ⟨a0, a1, a2, a3, a4⟩ := cells5 w (.int .i64 6) (.int .i64 n) (.string s) (.slice an ln cn) (.slice ai li ci) 25
  have hb0 : Below w.heap.size w (w.alloc (.cells #[.int .i64 6, .int .i64 n, .string s, .slice an ln cn, .slice ai li ci] 25)) := (Below.refl _ _).alloc (Nat.le_refl _) _
  have HB := Lib.hid hb0
  clear hb0
  go_enter Tryz.func33, Tryz.ntmps33
  go_wp2
  all_goals go_ret
  all_goals refine ⟨ret_bool ?_, (Below.refl _ _).alloc (Nat.le_refl _) _⟩
  all_goals (clear a0 a1 a2 a3 a4 HB; simp_all [plainB])
set_option maxHeartbeats 2000000 in
theorem plainO_c (k n : Int) (h3 : k ≠ 3) (h4 : k ≠ 4) (h5 : k ≠ 5) (h6 : k ≠ 6) (s : ByteArray) (an ai : Option Addr) (ln cn li ci : Nat) (w : World) :
    Calls Tryz.prog 33 #[.agg #[.int .i64 k, .int .i64 n, .string s, .slice an ln cn, .slice ai li ci]] w fun e w' => e = .returned (.bool (plainB k n s ln li)) ∧ Below w.heap.size w w' := by
  obtain ⟨a0, a1, a2, a3, a4⟩ := cells5 w (.int .i64 k) (.int .i64 n) (.string s) (.slice an ln cn) (.slice ai li ci) 25
  have hb0 : Below w.heap.size w (w.alloc (.cells #[.int .i64 k, .int .i64 n, .string s, .slice an ln cn, .slice ai li ci] 25)) := (Below.refl _ _).alloc (Nat.le_refl _) _
  have HB := Lib.hid hb0
  clear hb0
  have b3 : (k == 3) = false := by simpa using h3
  have b4 : (k == 4) = false := by simpa using h4
  have b5 : (k == 5) = false := by simpa using h5
  have b6 : (k == 6) = false := by simpa using h6
  go_enter Tryz.func33, Tryz.ntmps33
  go_wp2
  all_goals go_ret
  all_goals refine ⟨ret_bool ?_, (Below.refl _ _).alloc (Nat.le_refl _) _⟩
  all_goals (clear a0 a1 a2 a3 a4 HB; simp_all [plainB])
theorem refPlain_c (k n : Int) (s : ByteArray) (an ai : Option Addr) (ln cn li ci : Nat) (w : World) :
    Calls Tryz.prog 33 #[.agg #[.int .i64 k, .int .i64 n, .string s, .slice an ln cn, .slice ai li ci]] w fun e w' => e = .returned (.bool (plainB k n s ln li)) ∧ Below w.heap.size w w' := by
  rcases (show k = 3 ∨ k = 4 ∨ k = 5 ∨ k = 6 ∨ (k ≠ 3 ∧ k ≠ 4 ∧ k ≠ 5 ∧ k ≠ 6) by omega) with rfl | rfl | rfl | rfl | ⟨h3, h4, h5, h6⟩
  · exact plain3_c n s an ai ln cn li ci w
  · exact plain4_c n s an ai ln cn li ci w
  · exact plain5_c n s an ai ln cn li ci w
  · exact plain6_c n s an ai ln cn li ci w
  · exact plainO_c k n h3 h4 h5 h6 s an ai ln cn li ci w
def RefChkSaid (m : Nat) : Prop := ∀ (t : JV), t.size ≤ m → t.bulk ≤ 1099511627776 → ∀ (d : Int), 0 ≤ d → d ≤ 65 → ∀ (cs : List Value) (w : World) (ok : Nat → Prop), Rep w ok t cs →
    Calls Tryz.prog 26 #[.agg cs.toArray, .int .i64 d] w fun e w' => e = .returned (.int .i64 (chk t d)) ∧ Below w.heap.size w w'
set_option maxRecDepth 20000 in
set_option maxHeartbeats 8000000 in
theorem refCheck5 (m : Nat) (ih : RefChkSaid m) (n : Int) (s : ByteArray) (ns : List ByteArray) (is : List JV) (hm : (JV.mk 5 n s ns is).size ≤ m + 1) (hbk : (JV.mk 5 n s ns is).bulk ≤ 1099511627776) (d : Int) (hd0 : 0 ≤ d) (hd1 : d ≤ 65) (cs : List Value) (w : World) (ok : Nat → Prop) (hr : Rep w ok (.mk 5 n s ns is) cs) :
    Calls Tryz.prog 26 #[.agg cs.toArray, .int .i64 d] w fun e w' => e = .returned (.int .i64 (chk (.mk 5 n s ns is) d)) ∧ Below w.heap.size w w' := by
  rw [rep_mk] at hr
  obtain ⟨hk, hn, hs, an, cn, ai, ci, rfl, hcn, hci, hst, hit⟩ := hr
  have HE := Lib.hid (show chk (.mk 5 n s ns is) d = if 63 < d then 17 else if fitsB 5 n s ns.length is.length = false then 18 else chkL false ns [] is d by rw [chk]; rfl)
  obtain ⟨a0, a1, a2, a3, a4⟩ := cells5 w (.int .i64 5) (.int .i64 n) (.string s) (.slice an ns.length cn) (.slice ai is.length ci) 25
  have hb0 : Below w.heap.size w (w.alloc (.cells #[.int .i64 5, .int .i64 n, .string s, .slice an ns.length cn, .slice ai is.length ci] 25)) := (Below.refl _ _).alloc (Nat.le_refl _) _
  have HFP := Lib.hid (fun h => fits_plain 5 n s ns.length is.length h)
  have hsm : s.size ≤ maxLen := hs
  unfold maxLen at hcn hci hs
  have hft := refPlain_c 5 n s an ai ns.length cn is.length ci (w.alloc (.cells #[.int .i64 5, .int .i64 n, .string s, .slice an ns.length cn, .slice ai is.length ci] 25))
  have hcl := fun (W : World) => refClean_c s hsm W
  have HFL := Lib.hid (fun h => @fits_len 5 n s ns.length is.length h)
  have HIH := Lib.hid ih
  have HIT := Lib.hid (hit.below hb0)
  have HST := Lib.hid (hst.below hb0)
  have HSZ := Lib.hid (show ∀ t ∈ is, t.size ≤ m from fun t ht => by have h1 := JV.size_le ht; rw [JV.size] at hm; omega)
  have HB0 := Lib.hid hb0
  have HBK := Lib.hid (show ∀ t ∈ is, t.bulk ≤ 1099511627776 from fun t ht => by have h1 := JV.bulk_le ht; rw [JV.bulk] at hbk; omega)

  have HCL := Lib.hid hcl
  clear hit hst ih hb0 hm hbk hcl
  by_cases hdm : 63 < d
  · have HV := Lib.hid (HE.out.trans (if_pos hdm))
    clear hft
    obtain rfl | rfl : d = 64 ∨ d = 65 := by omega
    all_goals go_enter Tryz.func26, Tryz.ntmps26
    all_goals go_wp2
    all_goals go_ret
    all_goals exact ⟨by rw [HV.out]; rfl, HB0.out⟩
  have HE2 := Lib.hid (HE.out.trans (if_neg hdm))
  clear HE
  have hd64 : ¬ 64 < d := by omega
  have hd63 : (d == 64) = false := by rw [beq_eq_false_iff_ne]; omega
  have HF2 := Lib.hid (HFP.out ⟨by omega, by omega⟩)
  generalize plainB 5 n s ns.length is.length = ft at *
  go_enter Tryz.func26, Tryz.ntmps26
  go_wp2_with fail
  refine hft.mono ?_; rintro e w1 ⟨rfl, hb1⟩
  cases ft with
  | false =>
    have HV := Lib.hid (HE2.out.trans (if_pos (by rw [HF2.out]; rfl)))
    have HB1 := Lib.hid (below_trans HB0.out hb1)
    clear hb1 hft
    go_wp2
    go_ret
    exact ⟨by rw [HV.out]; rfl, HB1.out⟩
  | true =>
    have b2 := cell_below hb1 a2
    have hcl1 := HCL.out w1
    have HV1 := Lib.hid (fun (h : Lib.validD s.data.toList = false) => HE2.out.trans (if_pos (by rw [HF2.out, h]; rfl)))
    have HV2 := Lib.hid (fun (h : Lib.validD s.data.toList = true) => And.intro (HF2.out.trans (by rw [h])) (HE2.out.trans (if_neg (by rw [HF2.out, h]; decide))))
    clear HE2 HF2
    generalize Lib.validD s.data.toList = vd at *
    go_wp2_with fail
    refine hcl1.mono ?_; rintro e w2 ⟨rfl, hb2⟩
    have hbt := below_trans hb1 hb2
    have HB2 := Lib.hid hbt
    have b0 := cell_below hbt a0
    have b3 := cell_below hbt a3
    have b4 := cell_below hbt a4
    clear b2 hcl1 hb1 hb2 hbt a0 a1 a2 a3 a4 hft HCL HFP
    cases vd with
    | false =>
      have HV := Lib.hid (HV1.out rfl)
      clear HV1 HV2
      go_wp2
      go_ret
      exact ⟨by rw [HV.out]; rfl, below_trans HB0.out HB2.out⟩
    | true =>
    have HV := Lib.hid (HV2.out rfl).2
    have HFT := Lib.hid (HV2.out rfl).1
    clear HV1 HV2
    go_wp2
    go_loopw [6] (fun i wr => ∃ j : Nat, j ≤ is.length ∧ i = .int .i64 j ∧ Hid (chk (.mk 5 n s ns is) d = chkL false (ns.drop j) [] (is.drop j) d) ∧ Hid (Below ((w.alloc (.cells #[.int .i64 5, .int .i64 n, .string s, .slice an ns.length cn, .slice ai is.length ci] 25))).heap.size (w.alloc (.cells #[.int .i64 5, .int .i64 n, .string s, .slice an ns.length cn, .slice ai is.length ci] 25)) wr)) (fun i _ => is.length - (intOf i).toNat)
    case atStart => exact ⟨0, by omega, rfl, by have := HV.out; simpa using Lib.hid this, HB2⟩
    case round =>
      clear HV b0 b3 b4 HB2
      obtain ⟨j, hj, rfl, HR, HU⟩ := hrel
      have HIW := Lib.hid (HIT.out.below HU.out)
      have HSW := Lib.hid (HST.out.below HU.out)
      have HBW := Lib.hid (below_trans HB0.out HU.out)
      obtain ⟨a0, a1, a2, a3, a4⟩ := cells5 w (.int .i64 5) (.int .i64 n) (.string s) (.slice an ns.length cn) (.slice ai is.length ci) 25
      have c0 := cell_below HU.out a0
      have c3 := cell_below HU.out a3
      have c4 := cell_below HU.out a4
      clear a0 a1 a2 a3 a4
      by_cases hlt : j < is.length
      · rcases HIW.out with rfl | ⟨bI, oI, rfl, hoI, hall⟩
        · simp at hlt
        obtain ⟨xs, hrj, hlj⟩ := hall.at j hlt
        have hszj := HSZ.out is[j] (List.getElem_mem hlt)
        have hbkj := HBK.out is[j] (List.getElem_mem hlt)
        obtain ⟨xan, xcn, xai, xci, rfl⟩ := hrj.form
        obtain ⟨l0, l1, l2, l3, l4⟩ := lie5 hlj
        have HS := Lib.hid (HR.out.trans ((chkL_false _ _ _ _ (ns.take j) _).trans (chkL_step false ns is d j hlt (fun h => by cases h))))
        have HLT := Lib.hid hlt
        have HRJ := Lib.hid hrj
        clear hall hlj hrj HR
        generalize is[j] = x at *
        have R0 := cell_regrown c0
        go_wp2_with fail
        refine wp_region_quiet_below (by kernel_rfl) (by kernel_rfl) ?_
        repeat (go_big_quiet_step (fail))
        refine wpQuiet_nil ?_
        intro _ hw'
        obtain ⟨⟨dq, osq⟩, hw''⟩ := hw'
        subst hw''
        have hbq := below_regrown wr dq osq
        have p0 := cell_below hbq c0
        have p4 := cell_below hbq c4
        have z0 := cell_below hbq l0
        have z1 := cell_below hbq l1
        have z2 := cell_below hbq l2
        have z3 := cell_below hbq l3
        have z4 := cell_below hbq l4
        have HB3 := Lib.hid hbq
        clear R0 hbq c0 c3 c4 l0 l1 l2 l3 l4
        generalize Sort.grow (redrawn wr dq) osq = w3 at *
        have hd65 : d + 1 ≤ 65 := by omega
        have hch := HIH.out x hszj hbkj (d + 1) (by omega) hd65 _ w3 _ (Rep.below HRJ.out HB3.out)
        have HCV := Lib.hid (chk_vals x (d + 1))
        generalize chk x (d + 1) = cv at *
        go_wp2_with fail
        refine hch.mono ?_; rintro e w4 ⟨rfl, hb4⟩
        have HB4 := Lib.hid (HB3.out.trans (hb4.mono HB3.out.size))
        have HS2 := Lib.hid ((HS.out.trans (if_neg (by simp))).trans (if_neg (by simp)))
        clear HS hch hb4 z0 z1 z2 z3 z4 p0 p4
        by_cases hz : cv = 0
        · subst hz
          have HV := Lib.hid ((HS2.out.trans (if_pos rfl)).trans ((if_neg (by simp)).trans (chkL_false _ _ _ (ns.drop (j + 1)) [] _)))
          clear HS2
          go_wp2
          go_roundw
          case rel => exact ⟨j + 1, HLT.out, by go_num, HV, Lib.hid (HU.out.trans (HB4.out.mono HU.out.size))⟩
          case measure => have := HLT.out; simp [intOf]; omega
        · have HV := Lib.hid (HS2.out.trans (if_neg hz))
          have hzb : (cv == 0) = false := by simpa using hz
          clear HS2
          go_wp2
          go_ret
          exact ⟨by rw [HV.out]; rfl, HBW.out.trans (HB4.out.mono HBW.out.size)⟩
      · obtain rfl : j = is.length := by omega
        have HV := Lib.hid (HR.out.trans (by rw [List.drop_length, chkL]))
        clear HR
        go_wp2
        go_ret
        exact ⟨by rw [HV.out]; rfl, HBW.out⟩
set_option maxRecDepth 20000 in
set_option maxHeartbeats 8000000 in
theorem refCheckO (m : Nat) (ih : RefChkSaid m) (k : Int) (hk5 : k ≠ 5) (hk6 : k ≠ 6) (n : Int) (s : ByteArray) (ns : List ByteArray) (is : List JV) (hm : (JV.mk k n s ns is).size ≤ m + 1) (hbk : (JV.mk k n s ns is).bulk ≤ 1099511627776) (d : Int) (hd0 : 0 ≤ d) (hd1 : d ≤ 65) (cs : List Value) (w : World) (ok : Nat → Prop) (hr : Rep w ok (.mk k n s ns is) cs) :
    Calls Tryz.prog 26 #[.agg cs.toArray, .int .i64 d] w fun e w' => e = .returned (.int .i64 (chk (.mk k n s ns is) d)) ∧ Below w.heap.size w w' := by
  rw [rep_mk] at hr
  obtain ⟨hk, hn, hs, an, cn, ai, ci, rfl, hcn, hci, hst, hit⟩ := hr
  have HE := Lib.hid (show chk (.mk k n s ns is) d = if 64 < d then 17 else if fitsB k n s ns.length is.length = false then 18 else chkL false ns [] is d by rw [chk]; rw [show mostD k = 64 from if_neg (by omega), decide_eq_false hk6])
  obtain ⟨a0, a1, a2, a3, a4⟩ := cells5 w (.int .i64 k) (.int .i64 n) (.string s) (.slice an ns.length cn) (.slice ai is.length ci) 25
  have hb0 : Below w.heap.size w (w.alloc (.cells #[.int .i64 k, .int .i64 n, .string s, .slice an ns.length cn, .slice ai is.length ci] 25)) := (Below.refl _ _).alloc (Nat.le_refl _) _
  have HFP := Lib.hid (fun h => fits_plain k n s ns.length is.length h)
  have hsm : s.size ≤ maxLen := hs
  unfold maxLen at hcn hci hs
  have hft := refPlain_c k n s an ai ns.length cn is.length ci (w.alloc (.cells #[.int .i64 k, .int .i64 n, .string s, .slice an ns.length cn, .slice ai is.length ci] 25))
  have hcl := fun (W : World) => refClean_c s hsm W
  have HFL := Lib.hid (fun h => @fits_len k n s ns.length is.length h)
  have HIH := Lib.hid ih
  have HIT := Lib.hid (hit.below hb0)
  have HST := Lib.hid (hst.below hb0)
  have HSZ := Lib.hid (show ∀ t ∈ is, t.size ≤ m from fun t ht => by have h1 := JV.size_le ht; rw [JV.size] at hm; omega)
  have HB0 := Lib.hid hb0
  have HBK := Lib.hid (show ∀ t ∈ is, t.bulk ≤ 1099511627776 from fun t ht => by have h1 := JV.bulk_le ht; rw [JV.bulk] at hbk; omega)
  have e5 : (k == 5) = false := by simpa using hk5
  have e6 : (k == 6) = false := by simpa using hk6
  have HCL := Lib.hid hcl
  clear hit hst ih hb0 hm hbk hcl
  by_cases hdm : 64 < d
  · have HV := Lib.hid (HE.out.trans (if_pos hdm))
    clear hft
    all_goals go_enter Tryz.func26, Tryz.ntmps26
    all_goals go_wp2
    all_goals go_ret
    all_goals exact ⟨by rw [HV.out]; rfl, HB0.out⟩
  have HE2 := Lib.hid (HE.out.trans (if_neg hdm))
  clear HE
  rcases (show k < 0 ∨ 6 < k ∨ (0 ≤ k ∧ k ≤ 6) by omega) with hlo | hhi | ⟨hlo, hhi⟩
  · have HV := Lib.hid (HE2.out.trans (if_pos (by unfold fitsB; rw [if_neg (by omega), if_neg (by omega), if_neg (by omega), if_neg (by omega), if_neg (by omega)])))
    clear hft
    go_enter Tryz.func26, Tryz.ntmps26
    go_wp2
    go_ret
    exact ⟨by rw [HV.out]; rfl, HB0.out⟩
  · have HV := Lib.hid (HE2.out.trans (if_pos (by unfold fitsB; rw [if_neg (by omega), if_neg (by omega), if_neg (by omega), if_neg (by omega), if_neg (by omega)])))
    have hlo : ¬ k < 0 := by omega
    clear hft
    go_enter Tryz.func26, Tryz.ntmps26
    go_wp2
    go_ret
    exact ⟨by rw [HV.out]; rfl, HB0.out⟩
  have hlo2 : ¬ k < 0 := by omega
  have hhi2 : ¬ 6 < k := by omega
  have HF2 := Lib.hid (HFP.out ⟨by omega, by omega⟩)
  generalize plainB k n s ns.length is.length = ft at *
  go_enter Tryz.func26, Tryz.ntmps26
  go_wp2_with fail
  refine hft.mono ?_; rintro e w1 ⟨rfl, hb1⟩
  cases ft with
  | false =>
    have HV := Lib.hid (HE2.out.trans (if_pos (by rw [HF2.out]; rfl)))
    have HB1 := Lib.hid (below_trans HB0.out hb1)
    clear hb1 hft
    go_wp2
    go_ret
    exact ⟨by rw [HV.out]; rfl, HB1.out⟩
  | true =>
    have b2 := cell_below hb1 a2
    have hcl1 := HCL.out w1
    have HV1 := Lib.hid (fun (h : Lib.validD s.data.toList = false) => HE2.out.trans (if_pos (by rw [HF2.out, h]; rfl)))
    have HV2 := Lib.hid (fun (h : Lib.validD s.data.toList = true) => And.intro (HF2.out.trans (by rw [h])) (HE2.out.trans (if_neg (by rw [HF2.out, h]; decide))))
    clear HE2 HF2
    generalize Lib.validD s.data.toList = vd at *
    go_wp2_with fail
    refine hcl1.mono ?_; rintro e w2 ⟨rfl, hb2⟩
    have hbt := below_trans hb1 hb2
    have HB2 := Lib.hid hbt
    have b0 := cell_below hbt a0
    have b3 := cell_below hbt a3
    have b4 := cell_below hbt a4
    clear b2 hcl1 hb1 hb2 hbt a0 a1 a2 a3 a4 hft HCL HFP
    cases vd with
    | false =>
      have HV := Lib.hid (HV1.out rfl)
      clear HV1 HV2
      go_wp2
      go_ret
      exact ⟨by rw [HV.out]; rfl, below_trans HB0.out HB2.out⟩
    | true =>
    have HV := Lib.hid (HV2.out rfl).2
    have HFT := Lib.hid (HV2.out rfl).1
    clear HV1 HV2
    go_wp2
    go_loopw [6] (fun i wr => ∃ j : Nat, j ≤ is.length ∧ i = .int .i64 j ∧ Hid (chk (.mk k n s ns is) d = chkL false (ns.drop j) [] (is.drop j) d) ∧ Hid (Below ((w.alloc (.cells #[.int .i64 k, .int .i64 n, .string s, .slice an ns.length cn, .slice ai is.length ci] 25))).heap.size (w.alloc (.cells #[.int .i64 k, .int .i64 n, .string s, .slice an ns.length cn, .slice ai is.length ci] 25)) wr)) (fun i _ => is.length - (intOf i).toNat)
    case atStart => exact ⟨0, by omega, rfl, by have := HV.out; simpa using Lib.hid this, HB2⟩
    case round =>
      clear HV b0 b3 b4 HB2
      obtain ⟨j, hj, rfl, HR, HU⟩ := hrel
      have HIW := Lib.hid (HIT.out.below HU.out)
      have HSW := Lib.hid (HST.out.below HU.out)
      have HBW := Lib.hid (below_trans HB0.out HU.out)
      obtain ⟨a0, a1, a2, a3, a4⟩ := cells5 w (.int .i64 k) (.int .i64 n) (.string s) (.slice an ns.length cn) (.slice ai is.length ci) 25
      have c0 := cell_below HU.out a0
      have c3 := cell_below HU.out a3
      have c4 := cell_below HU.out a4
      clear a0 a1 a2 a3 a4
      by_cases hlt : j < is.length
      · rcases HIW.out with rfl | ⟨bI, oI, rfl, hoI, hall⟩
        · simp at hlt
        obtain ⟨xs, hrj, hlj⟩ := hall.at j hlt
        have hszj := HSZ.out is[j] (List.getElem_mem hlt)
        have hbkj := HBK.out is[j] (List.getElem_mem hlt)
        obtain ⟨xan, xcn, xai, xci, rfl⟩ := hrj.form
        obtain ⟨l0, l1, l2, l3, l4⟩ := lie5 hlj
        have HS := Lib.hid (HR.out.trans ((chkL_false _ _ _ _ (ns.take j) _).trans (chkL_step false ns is d j hlt (fun h => by cases h))))
        have HLT := Lib.hid hlt
        have HRJ := Lib.hid hrj
        clear hall hlj hrj HR
        generalize is[j] = x at *
        have R0 := cell_regrown c0
        go_wp2_with fail
        refine wp_region_quiet_below (by kernel_rfl) (by kernel_rfl) ?_
        repeat (go_big_quiet_step (fail))
        refine wpQuiet_nil ?_
        intro _ hw'
        obtain ⟨⟨dq, osq⟩, hw''⟩ := hw'
        subst hw''
        have hbq := below_regrown wr dq osq
        have p0 := cell_below hbq c0
        have p4 := cell_below hbq c4
        have z0 := cell_below hbq l0
        have z1 := cell_below hbq l1
        have z2 := cell_below hbq l2
        have z3 := cell_below hbq l3
        have z4 := cell_below hbq l4
        have HB3 := Lib.hid hbq
        clear R0 hbq c0 c3 c4 l0 l1 l2 l3 l4
        generalize Sort.grow (redrawn wr dq) osq = w3 at *
        have hd65 : d + 1 ≤ 65 := by omega
        have hch := HIH.out x hszj hbkj (d + 1) (by omega) hd65 _ w3 _ (Rep.below HRJ.out HB3.out)
        have HCV := Lib.hid (chk_vals x (d + 1))
        generalize chk x (d + 1) = cv at *
        go_wp2_with fail
        refine hch.mono ?_; rintro e w4 ⟨rfl, hb4⟩
        have HB4 := Lib.hid (HB3.out.trans (hb4.mono HB3.out.size))
        have HS2 := Lib.hid ((HS.out.trans (if_neg (by simp))).trans (if_neg (by simp)))
        clear HS hch hb4 z0 z1 z2 z3 z4 p0 p4
        by_cases hz : cv = 0
        · subst hz
          have HV := Lib.hid ((HS2.out.trans (if_pos rfl)).trans ((if_neg (by simp)).trans (chkL_false _ _ _ (ns.drop (j + 1)) [] _)))
          clear HS2
          go_wp2
          go_roundw
          case rel => exact ⟨j + 1, HLT.out, by go_num, HV, Lib.hid (HU.out.trans (HB4.out.mono HU.out.size))⟩
          case measure => have := HLT.out; simp [intOf]; omega
        · have HV := Lib.hid (HS2.out.trans (if_neg hz))
          have hzb : (cv == 0) = false := by simpa using hz
          clear HS2
          go_wp2
          go_ret
          exact ⟨by rw [HV.out]; rfl, HBW.out.trans (HB4.out.mono HBW.out.size)⟩
      · obtain rfl : j = is.length := by omega
        have HV := Lib.hid (HR.out.trans (by rw [List.drop_length, chkL]))
        clear HR
        go_wp2
        go_ret
        exact ⟨by rw [HV.out]; rfl, HBW.out⟩
set_option maxRecDepth 20000 in
set_option maxHeartbeats 8000000 in
theorem refCheck6 (m : Nat) (ih : RefChkSaid m) (n : Int) (s : ByteArray) (ns : List ByteArray) (is : List JV) (hm : (JV.mk 6 n s ns is).size ≤ m + 1) (hbk : (JV.mk 6 n s ns is).bulk ≤ 1099511627776) (d : Int) (hd0 : 0 ≤ d) (hd1 : d ≤ 65) (cs : List Value) (w : World) (ok : Nat → Prop) (hr : Rep w ok (.mk 6 n s ns is) cs) :
    Calls Tryz.prog 26 #[.agg cs.toArray, .int .i64 d] w fun e w' => e = .returned (.int .i64 (chk (.mk 6 n s ns is) d)) ∧ Below w.heap.size w w' := by
  rw [rep_mk] at hr
  obtain ⟨hk, hn, hs, an, cn, ai, ci, rfl, hcn, hci, hst, hit⟩ := hr
  have HE := Lib.hid (show chk (.mk 6 n s ns is) d = if 63 < d then 17 else if fitsB 6 n s ns.length is.length = false then 18 else chkL true ns [] is d by rw [chk]; rfl)
  obtain ⟨a0, a1, a2, a3, a4⟩ := cells5 w (.int .i64 6) (.int .i64 n) (.string s) (.slice an ns.length cn) (.slice ai is.length ci) 25
  have hb0 : Below w.heap.size w (w.alloc (.cells #[.int .i64 6, .int .i64 n, .string s, .slice an ns.length cn, .slice ai is.length ci] 25)) := (Below.refl _ _).alloc (Nat.le_refl _) _
  have HFP := Lib.hid (fun h => fits_plain 6 n s ns.length is.length h)
  have hsm : s.size ≤ maxLen := hs
  unfold maxLen at hcn hci hs
  have hft := refPlain_c 6 n s an ai ns.length cn is.length ci (w.alloc (.cells #[.int .i64 6, .int .i64 n, .string s, .slice an ns.length cn, .slice ai is.length ci] 25))
  have hcl := fun (W : World) => refClean_c s hsm W
  have HFL := Lib.hid (fun h => @fits_len 6 n s ns.length is.length h)
  have HIH := Lib.hid ih
  have HIT := Lib.hid (hit.below hb0)
  have HST := Lib.hid (hst.below hb0)
  have HSZ := Lib.hid (show ∀ t ∈ is, t.size ≤ m from fun t ht => by have h1 := JV.size_le ht; rw [JV.size] at hm; omega)
  have HB0 := Lib.hid hb0
  have HBK := Lib.hid (show ∀ t ∈ is, t.bulk ≤ 1099511627776 from fun t ht => by have h1 := JV.bulk_le ht; rw [JV.bulk] at hbk; omega)
  have HNS := Lib.hid (show ∀ x ∈ ns, x.size ≤ maxLen from fun x hx => by have h1 := strs_mem hx; rw [JV.bulk] at hbk; unfold maxLen; omega)
  have HCL := Lib.hid hcl
  clear hit hst ih hb0 hm hbk hcl
  by_cases hdm : 63 < d
  · have HV := Lib.hid (HE.out.trans (if_pos hdm))
    clear hft
    obtain rfl | rfl : d = 64 ∨ d = 65 := by omega
    all_goals go_enter Tryz.func26, Tryz.ntmps26
    all_goals go_wp2
    all_goals go_ret
    all_goals exact ⟨by rw [HV.out]; rfl, HB0.out⟩
  have HE2 := Lib.hid (HE.out.trans (if_neg hdm))
  clear HE
  have hd64 : ¬ 64 < d := by omega
  have hd63 : (d == 64) = false := by rw [beq_eq_false_iff_ne]; omega
  have HF2 := Lib.hid (HFP.out ⟨by omega, by omega⟩)
  generalize plainB 6 n s ns.length is.length = ft at *
  go_enter Tryz.func26, Tryz.ntmps26
  go_wp2_with fail
  refine hft.mono ?_; rintro e w1 ⟨rfl, hb1⟩
  cases ft with
  | false =>
    have HV := Lib.hid (HE2.out.trans (if_pos (by rw [HF2.out]; rfl)))
    have HB1 := Lib.hid (below_trans HB0.out hb1)
    clear hb1 hft
    go_wp2
    go_ret
    exact ⟨by rw [HV.out]; rfl, HB1.out⟩
  | true =>
    have b2 := cell_below hb1 a2
    have hcl1 := HCL.out w1
    have HV1 := Lib.hid (fun (h : Lib.validD s.data.toList = false) => HE2.out.trans (if_pos (by rw [HF2.out, h]; rfl)))
    have HV2 := Lib.hid (fun (h : Lib.validD s.data.toList = true) => And.intro (HF2.out.trans (by rw [h])) (HE2.out.trans (if_neg (by rw [HF2.out, h]; decide))))
    clear HE2 HF2
    generalize Lib.validD s.data.toList = vd at *
    go_wp2_with fail
    refine hcl1.mono ?_; rintro e w2 ⟨rfl, hb2⟩
    have hbt := below_trans hb1 hb2
    have HB2 := Lib.hid hbt
    have b0 := cell_below hbt a0
    have b3 := cell_below hbt a3
    have b4 := cell_below hbt a4
    clear b2 hcl1 hb1 hb2 hbt a0 a1 a2 a3 a4 hft HCL HFP
    cases vd with
    | false =>
      have HV := Lib.hid (HV1.out rfl)
      clear HV1 HV2
      go_wp2
      go_ret
      exact ⟨by rw [HV.out]; rfl, below_trans HB0.out HB2.out⟩
    | true =>
    have HV := Lib.hid (HV2.out rfl).2
    have HFT := Lib.hid (HV2.out rfl).1
    clear HV1 HV2
    go_wp2
    go_loopw [6] (fun i wr => ∃ j : Nat, j ≤ is.length ∧ i = .int .i64 j ∧ Hid (chk (.mk 6 n s ns is) d = chkL true (ns.drop j) (ns.take j) (is.drop j) d) ∧ Hid (Below ((w.alloc (.cells #[.int .i64 6, .int .i64 n, .string s, .slice an ns.length cn, .slice ai is.length ci] 25))).heap.size (w.alloc (.cells #[.int .i64 6, .int .i64 n, .string s, .slice an ns.length cn, .slice ai is.length ci] 25)) wr)) (fun i _ => is.length - (intOf i).toNat)
    case atStart => exact ⟨0, by omega, rfl, by have := HV.out; simpa using Lib.hid this, HB2⟩
    case round =>
      clear HV b0 b3 b4 HB2
      obtain ⟨j, hj, rfl, HR, HU⟩ := hrel
      have HIW := Lib.hid (HIT.out.below HU.out)
      have HSW := Lib.hid (HST.out.below HU.out)
      have HBW := Lib.hid (below_trans HB0.out HU.out)
      obtain ⟨a0, a1, a2, a3, a4⟩ := cells5 w (.int .i64 6) (.int .i64 n) (.string s) (.slice an ns.length cn) (.slice ai is.length ci) 25
      have c0 := cell_below HU.out a0
      have c3 := cell_below HU.out a3
      have c4 := cell_below HU.out a4
      clear a0 a1 a2 a3 a4
      by_cases hlt : j < is.length
      · rcases HIW.out with rfl | ⟨bI, oI, rfl, hoI, hall⟩
        · simp at hlt
        obtain ⟨xs, hrj, hlj⟩ := hall.at j hlt
        have hszj := HSZ.out is[j] (List.getElem_mem hlt)
        have hbkj := HBK.out is[j] (List.getElem_mem hlt)
        obtain ⟨xan, xcn, xai, xci, rfl⟩ := hrj.form
        obtain ⟨l0, l1, l2, l3, l4⟩ := lie5 hlj
        have hltN : j < ns.length := by have := HFL.out HFT.out (by trivial); omega
        have hnsz : ns[j].size ≤ maxLen := HNS.out _ (List.getElem_mem hltN)
        obtain ⟨bN, oN, rfl, hN3⟩ : ∃ bN oN, an = some ⟨bN, oN, none⟩ ∧ wr.cell? ⟨bN, oN + j, none⟩ = some (.string ns[j]) := by
          rcases HSW.out with rfl | ⟨b, o, h1, h2, h3⟩
          · exact absurd hltN (by simp)
          · exact ⟨b, o, h1, h3 j _ (by simp [hltN])⟩
        have hsub : StrsAt wr (fun _ => True) (some ⟨bN, oN, none⟩) (ns.take j) := by
          rcases HSW.out with h | ⟨b, o, h1, h2, h3⟩
          · left; rw [h]; simp
          · right; exact ⟨b, o, h1, trivial, fun q v hq => h3 q v (by rw [List.map_take, List.getElem?_take] at hq; split at hq; exact hq; cases hq)⟩
        have hlk : (ns.take j).length = j := by rw [List.length_take]; omega
        have hhas := fun (W : World) (hW : Below wr.heap.size wr W) => refHas_c (ns.take j) ns[j] (some ⟨bN, oN, none⟩) cn (by omega) W (hsub.below hW)
        rw [hlk] at hhas
        have HS := Lib.hid (HR.out.trans (chkL_step true ns is d j hlt (fun _ => hltN)))
        have HLT := Lib.hid hlt
        have HRJ := Lib.hid hrj
        clear hall hlj hrj HR
        generalize is[j] = x at *
        have HNE := Lib.hid (show ns[j]?.getD ByteArray.empty = ns[j] by rw [List.getElem?_eq_getElem hltN, Option.getD_some])
        have HTK := Lib.hid (show ns.take (j + 1) = ns.take j ++ [ns[j]] from List.take_succ_eq_append_getElem hltN)
        have hcl1 := refClean_c ns[j] hnsz wr
        have HHAS := Lib.hid hhas
        clear hsub hhas
        generalize ns[j] = nm at *
        go_wp2_with fail
        refine hcl1.mono ?_; rintro e w2 ⟨rfl, hb2⟩
        have q0 := cell_below hb2 c0
        have q3 := cell_below hb2 c3
        have q4 := cell_below hb2 c4
        have q8 := cell_below hb2 hN3
        have y0 := cell_below hb2 l0
        have y1 := cell_below hb2 l1
        have y2 := cell_below hb2 l2
        have y3 := cell_below hb2 l3
        have y4 := cell_below hb2 l4
        have HB2 := Lib.hid hb2
        clear hcl1 hb2 c0 c3 c4 hN3 l0 l1 l2 l3 l4
        by_cases hvd : Lib.validD nm.data.toList = false
        · have HV := Lib.hid (HS.out.trans (if_pos ⟨by trivial, by rw [HNE.out]; exact hvd⟩))
          clear HS
          go_wp2
          go_ret
          exact ⟨by rw [HV.out]; rfl, HBW.out.trans (HB2.out.mono HBW.out.size)⟩
        · have hvt : Lib.validD nm.data.toList = true := by simpa using hvd
          have HS2 := Lib.hid (HS.out.trans (if_neg (fun h => by rw [HNE.out] at h; exact hvd h.2)))
          clear HS hvd
          have hcall := fun (d : Nat) (os : Array Obj) => regB (HHAS.out (Sort.grow (redrawn w2 d) os) (HB2.out.trans ((below_regrown w2 d os).mono HB2.out.size)))
          have R0 := cell_regrown q0
          have R3 := cell_regrown q3
          have R8 := cell_regrown q8
          generalize hB' : hasB (ns.take j) nm = hb at *
          go_wp2_with fail
          refine wp_region_quiet_below (by kernel_rfl) (by kernel_rfl) ?_
          repeat (go_big_quiet_step ((go_at_call 35; exact hcall _ _)))
          refine wpQuiet_nil ?_
          intro _ hw'
          obtain ⟨⟨dq, osq⟩, hw''⟩ := hw'
          subst hw''
          have hbq := below_regrown w2 dq osq
          have p0 := cell_below hbq q0
          have p4 := cell_below hbq q4
          have z0 := cell_below hbq y0
          have z1 := cell_below hbq y1
          have z2 := cell_below hbq y2
          have z3 := cell_below hbq y3
          have z4 := cell_below hbq y4
          have HB3 := Lib.hid (HB2.out.trans (hbq.mono HB2.out.size))
          clear R0 R3 R8 hcall hbq q0 q3 q4 q8 y0 y1 y2 y3 y4
          generalize Sort.grow (redrawn w2 dq) osq = w3 at *
          cases hb with
          | true =>
            have HV := Lib.hid (HS2.out.trans (if_pos ⟨by trivial, by rw [HNE.out]; exact hB'⟩))
            clear HS2
            go_wp2
            go_ret
            exact ⟨by rw [HV.out]; rfl, HBW.out.trans (HB3.out.mono HBW.out.size)⟩
          | false =>
            have HS3 := Lib.hid (HS2.out.trans (if_neg (fun h => by rw [HNE.out, hB'] at h; exact absurd h.2 (by decide))))
            clear HS2
            have hd65 : d + 1 ≤ 65 := by omega
            have hch := HIH.out x hszj hbkj (d + 1) (by omega) hd65 _ w3 _ (Rep.below HRJ.out HB3.out)
            have HCV := Lib.hid (chk_vals x (d + 1))
            generalize chk x (d + 1) = cv at *
            go_wp2_with fail
            refine hch.mono ?_; rintro e w4 ⟨rfl, hb4⟩
            have HB4 := Lib.hid (HB3.out.trans (hb4.mono HB3.out.size))
            clear hch hb4 z0 z1 z2 z3 z4 p0 p4
            by_cases hz : cv = 0
            · subst hz
              have HV2 := Lib.hid ((HS3.out.trans (if_pos rfl)).trans (if_pos (by trivial)))
              clear HS3
              go_wp2
              go_roundw
              case rel => exact ⟨j + 1, HLT.out, by go_num, HV2, Lib.hid (HU.out.trans (HB4.out.mono HU.out.size))⟩
              case measure => have := HLT.out; simp [intOf]; omega
            · have HV2 := Lib.hid (HS3.out.trans (if_neg hz))
              have hzb : (cv == 0) = false := by simpa using hz
              clear HS3
              go_wp2
              go_ret
              exact ⟨by rw [HV2.out]; rfl, HBW.out.trans (HB4.out.mono HBW.out.size)⟩
      · obtain rfl : j = is.length := by omega
        have HV := Lib.hid (HR.out.trans (by rw [List.drop_length, chkL]))
        clear HR
        go_wp2
        go_ret
        exact ⟨by rw [HV.out]; rfl, HBW.out⟩
theorem refCheck_all (m : Nat) : RefChkSaid m := by
  induction m with
  | zero => intro t hm; have := JV.size_pos t; omega
  | succ m ih =>
    intro t hm hbk d hd0 hd1 cs w ok hr
    cases t with
    | mk k n s ns is =>
    rcases (show k = 5 ∨ k = 6 ∨ (k ≠ 5 ∧ k ≠ 6) by omega) with rfl | rfl | ⟨h5, h6⟩
    · exact refCheck5 m ih n s ns is hm hbk d hd0 hd1 cs w ok hr
    · exact refCheck6 m ih n s ns is hm hbk d hd0 hd1 cs w ok hr
    · exact refCheckO m ih k h5 h6 n s ns is hm hbk d hd0 hd1 cs w ok hr
/-- The document's Check says the first fault. -/
theorem refCheck_c (t : JV) (hbk : t.bulk ≤ 1099511627776) (cs : List Value) (w : World) (ok : Nat → Prop) (hr : Rep w ok t cs) :
    Calls Tryz.prog 21 #[.agg cs.toArray] w fun e w' => e = .returned (.int .i64 (chk t 0)) ∧ Below w.heap.size w w' := by
  obtain ⟨an, cn, ai, ci, rfl⟩ := hr.form
  have hb0 : Below w.heap.size w (w.alloc (.cells #[.int .i64 t.kind, .int .i64 t.int, .string t.text, .slice an t.names.length cn, .slice ai t.items.length ci] 25)) := (Below.refl _ _).alloc (Nat.le_refl _) _
  have h1 := refCheck_all t.size t (Nat.le_refl _) hbk 0 (by omega) (by omega) _ _ ok (hr.below hb0)
  obtain ⟨a0, a1, a2, a3, a4⟩ := cells5 w (.int .i64 t.kind) (.int .i64 t.int) (.string t.text) (.slice an t.names.length cn) (.slice ai t.items.length ci) 25
  have HB0 := Lib.hid hb0
  clear hr hb0
  go_enter Tryz.func21, Tryz.ntmps21
  go_wp2_with fail
  refine h1.mono ?_; rintro e w1 ⟨rfl, hb1⟩
  have HB1 := Lib.hid (below_trans HB0.out hb1)
  clear h1 hb1
  go_wp2
  go_ret
  exact ⟨rfl, HB1.out⟩
end Go.Proofs.YtnmojmmgkipjcaaGreatDoor
