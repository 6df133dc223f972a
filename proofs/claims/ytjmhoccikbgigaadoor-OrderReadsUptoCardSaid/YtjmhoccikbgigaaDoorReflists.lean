/- The walks of the order of values, document: lists and objects. Conditions: what a tree holds is at most 2 to the 40. -/
import Derived.Test.YtjmhoccikbgigaaDoorCmpmem
import Derived.Test.YtjmhoccikbgigaaDoorCopyl
namespace Go.Proofs.YtjmhoccikbgigaaDoor
open Go.RowKit
theorem strs_mem {x : ByteArray} {l : List ByteArray} (h : x ∈ l) : x.size ≤ strsBulk l := by
  induction l with
  | nil => cases h
  | cons y r ih =>
    rcases List.mem_cons.1 h with rfl | h
    · simp only [strsBulk]; omega
    · have := ih h; simp only [strsBulk]; omega
def RefSaid (m : Nat) : Prop := ∀ (t u : JV), t.size ≤ m → t.bulk ≤ 1099511627776 → u.bulk ≤ 1099511627776 → ∀ (cs ds : List Value) (w : World) (ok ok' : Nat → Prop), Rep w ok t cs → Rep w ok' u ds →
    Calls Tryd.prog 16 #[.agg cs.toArray, .agg ds.toArray] w fun e w' => e = .returned (.int .i64 (ord t u)) ∧ Below w.heap.size w w'
set_option maxHeartbeats 1000000 in
theorem refMem_c (k n : Int) (s : ByteArray) (ns : List ByteArray) (is : List JV) (cs : List Value) (w : World) (ok : Nat → Prop) (hr : Rep w ok (.mk k n s ns is) cs) :
    Calls Tryd.prog 59 #[.agg cs.toArray] w fun e w' => e = .returned (.int .i64 ((JV.mk k n s ns is).mem : Nat)) ∧ Below w.heap.size w w' := by
  rw [rep_mk] at hr
  obtain ⟨_, _, _, an, cn, ai, ci, rfl, hcn, hci, _, _⟩ := hr
  unfold maxLen at hcn hci
  obtain ⟨a0, a1, a2, a3, a4⟩ := cells5 w (.int .i64 k) (.int .i64 n) (.string s) (.slice an ns.length cn) (.slice ai is.length ci) 28
  have hb0 : Below w.heap.size w (w.alloc (.cells #[.int .i64 k, .int .i64 n, .string s, .slice an ns.length cn, .slice ai is.length ci] 28)) := (Below.refl _ _).alloc (Nat.le_refl _) _
  by_cases hk : k = 6
  · subst hk
    have HM := Lib.hid (show (JV.mk 6 n s ns is).mem = min ns.length is.length from rfl)
    by_cases hlt : ns.length < is.length
    · have HV := Lib.hid (HM.out.trans (Nat.min_eq_left (Nat.le_of_lt hlt)))
      clear HM
      have hd : decide (ns.length < is.length) = true := by simpa using hlt
      go_enter Tryd.func59, Tryd.ntmps59
      go_wp2
      go_ret
      exact ⟨by rw [HV.out]; rfl, hb0⟩
    · have HV := Lib.hid (HM.out.trans (Nat.min_eq_right (by omega)))
      clear HM
      have hd : decide (ns.length < is.length) = false := by simpa using hlt
      go_enter Tryd.func59, Tryd.ntmps59
      go_wp2
      go_ret
      exact ⟨by rw [HV.out]; rfl, hb0⟩
  · have HV := Lib.hid (show (JV.mk k n s ns is).mem = is.length from if_neg hk)
    have hkb : (k == 6) = false := by simp [hk]
    clear hk
    go_enter Tryd.func59, Tryd.ntmps59
    go_wp2
    go_ret
    exact ⟨by rw [HV.out]; rfl, hb0⟩
set_option maxHeartbeats 4000000 in
theorem refLists5_c (m : Nat) (ih : RefSaid m) (n : Int) (s : ByteArray) (ns : List ByteArray) (is : List JV) (n' : Int) (s' : ByteArray) (ns' : List ByteArray) (is' : List JV) (hsz : ∀ t ∈ is, t.size ≤ m) (hbk : (JV.mk 5 n s ns is).bulk ≤ 1099511627776) (hbk' : (JV.mk 5 n' s' ns' is').bulk ≤ 1099511627776) (cs ds : List Value) (w : World) (ok ok' : Nat → Prop)
    (hr : Rep w ok (.mk 5 n s ns is) cs) (hu : Rep w ok' (.mk 5 n' s' ns' is') ds) :
    Calls Tryd.prog 41 #[.agg cs.toArray, .agg ds.toArray] w fun e w' => e = .returned (.int .i64 (ordL is is')) ∧ Below w.heap.size w w' := by
  have hr0 := hr
  have hu0 := hu
  rw [rep_mk] at hr hu
  obtain ⟨_, _, _, an, cn, ai, ci, rfl, hcn, hci, hst, hit⟩ := hr
  obtain ⟨_, _, _, an', cn', ai', ci', rfl, hcn', hci', hst', hit'⟩ := hu
  unfold maxLen at hcn hci hcn' hci'
  have IH := Lib.hid ih
  clear ih
  rw [JV.bulk] at hbk hbk'
  have HSZ := Lib.hid hsz
  clear hsz
  have hlb := JV.len_bulks is
  have hlb' := JV.len_bulks is'
  have hsb := strs_len ns
  have hsb' := strs_len ns'
  obtain ⟨a0, a1, a2, a3, a4⟩ := cells5 w (.int .i64 5) (.int .i64 n) (.string s) (.slice an ns.length cn) (.slice ai is.length ci) 28
  have hb0 : Below w.heap.size w (w.alloc (.cells #[.int .i64 5, .int .i64 n, .string s, .slice an ns.length cn, .slice ai is.length ci] 28)) := (Below.refl _ _).alloc (Nat.le_refl _) _
  obtain ⟨b0, b1, b2, b3, b4⟩ := cells5 (w.alloc (.cells #[.int .i64 5, .int .i64 n, .string s, .slice an ns.length cn, .slice ai is.length ci] 28)) (.int .i64 5) (.int .i64 n') (.string s') (.slice an' ns'.length cn') (.slice ai' is'.length ci') 28
  have hb1 : Below ((w.alloc (.cells #[.int .i64 5, .int .i64 n, .string s, .slice an ns.length cn, .slice ai is.length ci] 28))).heap.size (w.alloc (.cells #[.int .i64 5, .int .i64 n, .string s, .slice an ns.length cn, .slice ai is.length ci] 28)) ((w.alloc (.cells #[.int .i64 5, .int .i64 n, .string s, .slice an ns.length cn, .slice ai is.length ci] 28)).alloc (.cells #[.int .i64 5, .int .i64 n', .string s', .slice an' ns'.length cn', .slice ai' is'.length ci'] 28)) := (Below.refl _ _).alloc (Nat.le_refl _) _
  have hB := below_trans hb0 hb1
  have A0 := cell_below hb1 a0
  have A1 := cell_below hb1 a1
  have A2 := cell_below hb1 a2
  have A3 := cell_below hb1 a3
  have A4 := cell_below hb1 a4
  clear a0 a1 a2 a3 a4
  simp only [World.size_alloc] at b0 b1 b2 b3 b4
  have hm1 := refMem_c 5 n s ns is _ (((w.alloc (.cells #[.int .i64 5, .int .i64 n, .string s, .slice an ns.length cn, .slice ai is.length ci] 28)).alloc (.cells #[.int .i64 5, .int .i64 n', .string s', .slice an' ns'.length cn', .slice ai' is'.length ci'] 28))) ok (hr0.below hB)
  have hm2 := fun (W : World) (hW : Below w.heap.size w W) => refMem_c 5 n' s' ns' is' _ W ok' (hu0.below hW)
  have HEND := Lib.hid (fun (j : Nat) (h : j = is.length ∨ j = is'.length) (h1 : j ≤ is.length) (h2 : j ≤ is'.length) => ordL_end (a := is) (b := is') h h1 h2)
  have hp0 : ∃ p : Nat, p = (JV.mk 5 n s ns is).mem ∧ p = is.length := ⟨_, rfl, rfl⟩
  have hq0 : ∃ q : Nat, q = (JV.mk 5 n' s' ns' is').mem ∧ q = is'.length := ⟨_, rfl, rfl⟩
  obtain ⟨p, hpm, hpp⟩ := hp0
  obtain ⟨q, hqm, hqq⟩ := hq0
  rw [← hpm] at hm1
  rw [← hqm] at hm2
  rw [← hpp, ← hqq] at HEND
  have hpl : p ≤ is.length := by omega
  have hql : q ≤ is'.length := by omega
  have hp9 : p ≤ 1099511627776 := by omega
  have hq9 : q ≤ 1099511627776 := by omega
  clear hpm hqm hpp hqq hr0 hu0
  go_enter Tryd.func41, Tryd.ntmps41
  go_wp2_with fail
  refine hm1.mono ?_; rintro e w1 ⟨rfl, hb2⟩
  have B0 := cell_below hb2 A0
  have B3 := cell_below hb2 A3
  have B4 := cell_below hb2 A4
  have D0 := cell_below hb2 b0
  have D1 := cell_below hb2 b1
  have D2 := cell_below hb2 b2
  have D3 := cell_below hb2 b3
  have D4 := cell_below hb2 b4
  have hm3 := hm2 w1 (below_trans hB hb2)
  clear hm1 hm2 A0 A1 A2 A3 A4 b0 b1 b2 b3 b4
  have hBw := below_trans hB hb2
  clear hb0 hb1 hb2 hB
  go_wp2_with fail
  refine hm3.mono ?_; rintro e w2 ⟨rfl, hb2⟩
  have A0 := cell_below hb2 B0
  have A3 := cell_below hb2 B3
  have A4 := cell_below hb2 B4
  have b3 := cell_below hb2 D3
  have b4 := cell_below hb2 D4
  have hB := below_trans hBw hb2
  clear hm3 B0 B3 B4 D0 D1 D2 D3 D4 hBw hb2
  go_wp2
  go_loopw [7] (fun i wr => ∃ j : Nat, j ≤ p ∧ j ≤ q ∧ i = .int .i64 j ∧ Hid (ordL is is' = ordL (is.drop j) (is'.drop j)) ∧ Below w2.heap.size w2 wr) (fun i _ => p - (intOf i).toNat)
  case atStart => exact ⟨0, by omega, by omega, rfl, rfl, Below.refl _ _⟩
  case round =>
    obtain ⟨j, hj, hj', rfl, HQ, hbl⟩ := hrel
    have c0 := cell_below hbl A0
    have c3 := cell_below hbl A3
    have c4 := cell_below hbl A4
    have d3 := cell_below hbl b3
    have d4 := cell_below hbl b4
    by_cases hlt : j < p ∧ j < q
    · obtain ⟨hltp, hltq⟩ := hlt
      have hlt2 : j < is.length := by omega
      have hlt4 : j < is'.length := by omega
      rcases (hit.below hB).below hbl with rfl | ⟨e, eff, rfl, _, hall⟩
      · simp at hlt2
      rcases (hit'.below hB).below hbl with rfl | ⟨e', eff', rfl, _, hall'⟩
      · simp at hlt4
      obtain ⟨cs, hrj, hlj⟩ := hall.at j hlt2
      obtain ⟨ds, hrj', hlj'⟩ := hall'.at j hlt4
      have hszj := HSZ.out is[j] (List.getElem_mem hlt2)
      have hbj := JV.bulk_le (List.getElem_mem hlt2)
      have hbj' := JV.bulk_le (List.getElem_mem hlt4)
      have HSt := Lib.hid (HQ.out.trans (ordL_step hlt2 hlt4))
      have HLT := Lib.hid (And.intro hltp hltq)
      have hcall := fun (wr : World) (hrj : Rep wr ok is[j] cs) (hrj' : Rep wr ok' is'[j] ds) (d : Nat) (os : Array Obj) => regB (IH.out is[j] is'[j] hszj (by omega) (by omega) cs ds (Sort.grow (redrawn wr d) os) ok ok' (hrj.below (below_regrown wr d os)) (hrj'.below (below_regrown wr d os)))
      clear HQ hall hall' hszj hbj hbj' 
      obtain ⟨xan, xcn, xai, xci, rfl⟩ := hrj.form
      obtain ⟨yan, ycn, yai, yci, rfl⟩ := hrj'.form
      obtain ⟨l0, l1, l2, l3, l4⟩ := lie5 hlj
      obtain ⟨m0, m1, m2, m3, m4⟩ := lie5 hlj'
      clear hlj hlj'
      generalize is[j] = x at *
      generalize is'[j] = y at *
      generalize ord x y = o at *
      go_wp2_with fail
      have hblq := hbl
      have hcall2 := hcall wr hrj hrj'
      have R4 := cell_regrown (w := wr) c4
      have S4 := cell_regrown (w := wr) d4
      have R0 := cell_regrown (w := wr) c0
      have L0 := cell_regrown (w := wr) l0
      have L1 := cell_regrown (w := wr) l1
      have L2 := cell_regrown (w := wr) l2
      have L3 := cell_regrown (w := wr) l3
      have L4 := cell_regrown (w := wr) l4
      have M0 := cell_regrown (w := wr) m0
      have M1 := cell_regrown (w := wr) m1
      have M2 := cell_regrown (w := wr) m2
      have M3 := cell_regrown (w := wr) m3
      have M4 := cell_regrown (w := wr) m4
      clear hcall hrj hrj' c3 d3 c0 c4 d4 l0 l1 l2 l3 l4 m0 m1 m2 m3 m4 hbl
      refine wp_region_quiet_below (by kernel_rfl) (by kernel_rfl) ?_
      repeat (go_big_quiet_step ((go_at_call 16; exact hcall2 _ _)))
      refine wpQuiet_nil ?_
      intro _ hw'
      obtain ⟨⟨dq, osq⟩, hw''⟩ := hw'
      subst hw''
      clear R0 R4 S4 L0 L1 L2 L3 L4 M0 M1 M2 M3 M4 hcall2
      have hbl2 := hblq.trans ((below_regrown wr dq osq).mono hblq.size)
      clear hblq
      by_cases ho : o = 0
      · have hob : (o != 0) = false := by simp [ho]
        have HQ2 := Lib.hid (HSt.out.trans (if_neg (by simp [ho])))
        clear ho HSt
        go_wp2
        go_roundw
        case rel => exact ⟨j + 1, HLT.out.1, HLT.out.2, by go_num, HQ2, hbl2⟩
        case measure => have := HLT.out.1; simp [intOf]; omega
      · have hob : (o != 0) = true := by simp [ho]
        have HF := Lib.hid (HSt.out.trans (if_pos ho))
        clear ho HSt
        go_wp2
        go_ret
        exact ⟨by rw [HF.out]; rfl, below_trans hB hbl2⟩
    · have HV := Lib.hid (HQ.out.trans (HEND.out j (by omega) hj hj'))
      clear HQ
      rcases (show j = p ∨ (j < p ∧ j = q) by omega) with h | ⟨h1, h⟩
      · have e1 : decide (j < p) = false := by simp; omega
        clear hlt h
        go_wp2_with fail
        refine (refInts_c _ _ _).mono ?_; rintro e w3 ⟨rfl, rfl⟩
        go_wp2
        go_ret
        exact ⟨by rw [HV.out]; rfl, below_trans hB hbl⟩
      · have e1 : decide (j < p) = true := by simp; omega
        have e2 : decide (j < q) = false := by simp; omega
        clear hlt h h1
        go_wp2_with fail
        refine (refInts_c _ _ _).mono ?_; rintro e w3 ⟨rfl, rfl⟩
        go_wp2
        go_ret
        exact ⟨by rw [HV.out]; rfl, below_trans hB hbl⟩
set_option maxHeartbeats 4000000 in
theorem refLists6_c (m : Nat) (ih : RefSaid m) (n : Int) (s : ByteArray) (ns : List ByteArray) (is : List JV) (n' : Int) (s' : ByteArray) (ns' : List ByteArray) (is' : List JV) (hsz : ∀ t ∈ is, t.size ≤ m) (hbk : (JV.mk 6 n s ns is).bulk ≤ 1099511627776) (hbk' : (JV.mk 6 n' s' ns' is').bulk ≤ 1099511627776) (cs ds : List Value) (w : World) (ok ok' : Nat → Prop)
    (hr : Rep w ok (.mk 6 n s ns is) cs) (hu : Rep w ok' (.mk 6 n' s' ns' is') ds) :
    Calls Tryd.prog 41 #[.agg cs.toArray, .agg ds.toArray] w fun e w' => e = .returned (.int .i64 (ordM ns is ns' is')) ∧ Below w.heap.size w w' := by
  have hr0 := hr
  have hu0 := hu
  rw [rep_mk] at hr hu
  obtain ⟨_, _, _, an, cn, ai, ci, rfl, hcn, hci, hst, hit⟩ := hr
  obtain ⟨_, _, _, an', cn', ai', ci', rfl, hcn', hci', hst', hit'⟩ := hu
  unfold maxLen at hcn hci hcn' hci'
  have IH := Lib.hid ih
  clear ih
  rw [JV.bulk] at hbk hbk'
  have HSZ := Lib.hid hsz
  clear hsz
  have hlb := JV.len_bulks is
  have hlb' := JV.len_bulks is'
  have hsb := strs_len ns
  have hsb' := strs_len ns'
  obtain ⟨a0, a1, a2, a3, a4⟩ := cells5 w (.int .i64 6) (.int .i64 n) (.string s) (.slice an ns.length cn) (.slice ai is.length ci) 28
  have hb0 : Below w.heap.size w (w.alloc (.cells #[.int .i64 6, .int .i64 n, .string s, .slice an ns.length cn, .slice ai is.length ci] 28)) := (Below.refl _ _).alloc (Nat.le_refl _) _
  obtain ⟨b0, b1, b2, b3, b4⟩ := cells5 (w.alloc (.cells #[.int .i64 6, .int .i64 n, .string s, .slice an ns.length cn, .slice ai is.length ci] 28)) (.int .i64 6) (.int .i64 n') (.string s') (.slice an' ns'.length cn') (.slice ai' is'.length ci') 28
  have hb1 : Below ((w.alloc (.cells #[.int .i64 6, .int .i64 n, .string s, .slice an ns.length cn, .slice ai is.length ci] 28))).heap.size (w.alloc (.cells #[.int .i64 6, .int .i64 n, .string s, .slice an ns.length cn, .slice ai is.length ci] 28)) ((w.alloc (.cells #[.int .i64 6, .int .i64 n, .string s, .slice an ns.length cn, .slice ai is.length ci] 28)).alloc (.cells #[.int .i64 6, .int .i64 n', .string s', .slice an' ns'.length cn', .slice ai' is'.length ci'] 28)) := (Below.refl _ _).alloc (Nat.le_refl _) _
  have hB := below_trans hb0 hb1
  have A0 := cell_below hb1 a0
  have A1 := cell_below hb1 a1
  have A2 := cell_below hb1 a2
  have A3 := cell_below hb1 a3
  have A4 := cell_below hb1 a4
  clear a0 a1 a2 a3 a4
  simp only [World.size_alloc] at b0 b1 b2 b3 b4
  have hm1 := refMem_c 6 n s ns is _ (((w.alloc (.cells #[.int .i64 6, .int .i64 n, .string s, .slice an ns.length cn, .slice ai is.length ci] 28)).alloc (.cells #[.int .i64 6, .int .i64 n', .string s', .slice an' ns'.length cn', .slice ai' is'.length ci'] 28))) ok (hr0.below hB)
  have hm2 := fun (W : World) (hW : Below w.heap.size w W) => refMem_c 6 n' s' ns' is' _ W ok' (hu0.below hW)
  have HEND := Lib.hid (fun (j : Nat) (h : j = min ns.length is.length ∨ j = min ns'.length is'.length) (h1 : j ≤ min ns.length is.length) (h2 : j ≤ min ns'.length is'.length) => ordM_end (ns := ns) (a := is) (ns' := ns') (b := is') h h1 h2)
  have hp0 : ∃ p : Nat, p = (JV.mk 6 n s ns is).mem ∧ p = min ns.length is.length := ⟨_, rfl, rfl⟩
  have hq0 : ∃ q : Nat, q = (JV.mk 6 n' s' ns' is').mem ∧ q = min ns'.length is'.length := ⟨_, rfl, rfl⟩
  obtain ⟨p, hpm, hpp⟩ := hp0
  obtain ⟨q, hqm, hqq⟩ := hq0
  rw [← hpm] at hm1
  rw [← hqm] at hm2
  rw [← hpp, ← hqq] at HEND
  have hpl : p ≤ is.length ∧ p ≤ ns.length := by omega
  have hql : q ≤ is'.length ∧ q ≤ ns'.length := by omega
  have hp9 : p ≤ 1099511627776 := by omega
  have hq9 : q ≤ 1099511627776 := by omega
  clear hpm hqm hpp hqq hr0 hu0
  go_enter Tryd.func41, Tryd.ntmps41
  go_wp2_with fail
  refine hm1.mono ?_; rintro e w1 ⟨rfl, hb2⟩
  have B0 := cell_below hb2 A0
  have B3 := cell_below hb2 A3
  have B4 := cell_below hb2 A4
  have D0 := cell_below hb2 b0
  have D1 := cell_below hb2 b1
  have D2 := cell_below hb2 b2
  have D3 := cell_below hb2 b3
  have D4 := cell_below hb2 b4
  have hm3 := hm2 w1 (below_trans hB hb2)
  clear hm1 hm2 A0 A1 A2 A3 A4 b0 b1 b2 b3 b4
  have hBw := below_trans hB hb2
  clear hb0 hb1 hb2 hB
  go_wp2_with fail
  refine hm3.mono ?_; rintro e w2 ⟨rfl, hb2⟩
  have A0 := cell_below hb2 B0
  have A3 := cell_below hb2 B3
  have A4 := cell_below hb2 B4
  have b3 := cell_below hb2 D3
  have b4 := cell_below hb2 D4
  have hB := below_trans hBw hb2
  clear hm3 B0 B3 B4 D0 D1 D2 D3 D4 hBw hb2
  go_wp2
  go_loopw [7] (fun i wr => ∃ j : Nat, j ≤ p ∧ j ≤ q ∧ i = .int .i64 j ∧ Hid (ordM ns is ns' is' = ordM (ns.drop j) (is.drop j) (ns'.drop j) (is'.drop j)) ∧ Below w2.heap.size w2 wr) (fun i _ => p - (intOf i).toNat)
  case atStart => exact ⟨0, by omega, by omega, rfl, rfl, Below.refl _ _⟩
  case round =>
    obtain ⟨j, hj, hj', rfl, HQ, hbl⟩ := hrel
    have c0 := cell_below hbl A0
    have c3 := cell_below hbl A3
    have c4 := cell_below hbl A4
    have d3 := cell_below hbl b3
    have d4 := cell_below hbl b4
    by_cases hlt : j < p ∧ j < q
    · obtain ⟨hltp, hltq⟩ := hlt
      have hlt2 : j < is.length := by omega
      have hlt4 : j < is'.length := by omega
      have hlt1 : j < ns.length := by omega
      have hlt3 : j < ns'.length := by omega
      rcases (hst.below hB).below hbl with rfl | ⟨b, off, rfl, _, hl⟩
      · simp at hlt1
      rcases (hst'.below hB).below hbl with rfl | ⟨b', off', rfl, _, hl'⟩
      · simp at hlt3
      rcases (hit.below hB).below hbl with rfl | ⟨e, eff, rfl, _, hall⟩
      · simp at hlt2
      rcases (hit'.below hB).below hbl with rfl | ⟨e', eff', rfl, _, hall'⟩
      · simp at hlt4
      have n1 := hl j (.string ns[j]) (by simp [hlt1])
      have n2 := hl' j (.string ns'[j]) (by simp [hlt3])
      have hx1 : ns[j].size ≤ maxLen := by have := strs_mem (List.getElem_mem hlt1); unfold maxLen; omega
      have hx2 : ns'[j].size ≤ maxLen := by have := strs_mem (List.getElem_mem hlt3); unfold maxLen; omega
      obtain ⟨cs, hrj, hlj⟩ := hall.at j hlt2
      obtain ⟨ds, hrj', hlj'⟩ := hall'.at j hlt4
      have hszj := HSZ.out is[j] (List.getElem_mem hlt2)
      have hbj := JV.bulk_le (List.getElem_mem hlt2)
      have hbj' := JV.bulk_le (List.getElem_mem hlt4)
      have HSt := Lib.hid (HQ.out.trans (ordM_step hlt1 hlt2 hlt3 hlt4))
      have HLT := Lib.hid (And.intro hltp hltq)
      have hcall := fun (wr : World) (hrj : Rep wr ok is[j] cs) (hrj' : Rep wr ok' is'[j] ds) (d : Nat) (os : Array Obj) => regB (IH.out is[j] is'[j] hszj (by omega) (by omega) cs ds (Sort.grow (redrawn wr d) os) ok ok' (hrj.below (below_regrown wr d os)) (hrj'.below (below_regrown wr d os)))
      clear HQ hall hall' hszj hbj hbj' hl hl'
      obtain ⟨xan, xcn, xai, xci, rfl⟩ := hrj.form
      obtain ⟨yan, ycn, yai, yci, rfl⟩ := hrj'.form
      obtain ⟨l0, l1, l2, l3, l4⟩ := lie5 hlj
      obtain ⟨m0, m1, m2, m3, m4⟩ := lie5 hlj'
      clear hlj hlj'
      generalize is[j] = x at *
      generalize is'[j] = y at *
      generalize ord x y = o at *
      generalize ns[j] = nx at *
      generalize ns'[j] = ny at *
      have hcmp := fun (d : Nat) => quietD (refTexts_c nx ny hx1 hx2 (wr.drewN d))
      generalize txt nx.data.toList ny.data.toList = tt at *
      by_cases ht : tt = 0
      case neg =>
        have htb : (tt != 0) = true := by simp [ht]
        have HF := Lib.hid (HSt.out.trans (if_pos ht))
        clear ht HSt hcall hrj hrj'
        go_wp2
        go_quiet ((go_at_call 24; exact hcmp _))
        go_wp2
        go_ret
        exact ⟨by rw [HF.out]; rfl, below_trans hB (below_drewN hbl _)⟩
      case pos =>
        have htb : (tt != 0) = false := by simp [ht]
        have HSt2 := Lib.hid (HSt.out.trans (if_neg (by simp [ht])))
        clear ht HSt
        go_wp2
        go_quiet ((go_at_call 24; exact hcmp _))
        go_wp2_with fail
        have hblq := below_drewN hbl nq
        have hcall2 := hcall (wr.drewN nq) (hrj.below (below_drewN' wr nq)) (hrj'.below (below_drewN' wr nq))
        have R4 := cell_regrown (w := wr.drewN nq) c4
        have S4 := cell_regrown (w := wr.drewN nq) d4
        have R0 := cell_regrown (w := wr.drewN nq) c0
        have L0 := cell_regrown (w := wr.drewN nq) l0
        have L1 := cell_regrown (w := wr.drewN nq) l1
        have L2 := cell_regrown (w := wr.drewN nq) l2
        have L3 := cell_regrown (w := wr.drewN nq) l3
        have L4 := cell_regrown (w := wr.drewN nq) l4
        have M0 := cell_regrown (w := wr.drewN nq) m0
        have M1 := cell_regrown (w := wr.drewN nq) m1
        have M2 := cell_regrown (w := wr.drewN nq) m2
        have M3 := cell_regrown (w := wr.drewN nq) m3
        have M4 := cell_regrown (w := wr.drewN nq) m4
        clear hcall hrj hrj' c3 d3 c0 c4 d4 l0 l1 l2 l3 l4 m0 m1 m2 m3 m4 hbl hcmp n1 n2 hx1 hx2
        generalize wr.drewN nq = W at *
        refine wp_region_quiet_below (by kernel_rfl) (by kernel_rfl) ?_
        repeat (go_big_quiet_step ((go_at_call 16; exact hcall2 _ _)))
        refine wpQuiet_nil ?_
        intro _ hw'
        obtain ⟨⟨dq, osq⟩, hw''⟩ := hw'
        subst hw''
        clear R0 R4 S4 L0 L1 L2 L3 L4 M0 M1 M2 M3 M4 hcall2
        have hbl2 := hblq.trans ((below_regrown W dq osq).mono hblq.size)
        clear hblq
        by_cases ho : o = 0
        · have hob : (o != 0) = false := by simp [ho]
          have HQ2 := Lib.hid (HSt2.out.trans (if_neg (by simp [ho])))
          clear ho HSt2
          go_wp2
          go_roundw
          case rel => exact ⟨j + 1, HLT.out.1, HLT.out.2, by go_num, HQ2, hbl2⟩
          case measure => have := HLT.out.1; simp [intOf]; omega
        · have hob : (o != 0) = true := by simp [ho]
          have HF := Lib.hid (HSt2.out.trans (if_pos ho))
          clear ho HSt2
          go_wp2
          go_ret
          exact ⟨by rw [HF.out]; rfl, below_trans hB hbl2⟩
    · have HV := Lib.hid (HQ.out.trans (HEND.out j (by omega) hj hj'))
      clear HQ
      rcases (show j = p ∨ (j < p ∧ j = q) by omega) with h | ⟨h1, h⟩
      · have e1 : decide (j < p) = false := by simp; omega
        clear hlt h
        go_wp2_with fail
        refine (refInts_c _ _ _).mono ?_; rintro e w3 ⟨rfl, rfl⟩
        go_wp2
        go_ret
        exact ⟨by rw [HV.out]; rfl, below_trans hB hbl⟩
      · have e1 : decide (j < p) = true := by simp; omega
        have e2 : decide (j < q) = false := by simp; omega
        clear hlt h h1
        go_wp2_with fail
        refine (refInts_c _ _ _).mono ?_; rintro e w3 ⟨rfl, rfl⟩
        go_wp2
        go_ret
        exact ⟨by rw [HV.out]; rfl, below_trans hB hbl⟩
end Go.Proofs.YtjmhoccikbgigaaDoor
