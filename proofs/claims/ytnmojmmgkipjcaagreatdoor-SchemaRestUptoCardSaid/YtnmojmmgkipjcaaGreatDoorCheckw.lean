/- The walk of jsonval.check and Check. Conditions: the tables of package utf8 lie as their texts lay them. -/
import Derived.Test.YtnmojmmgkipjcaaGreatDoorChka
import Derived.Test.YtnmojmmgkipjcaaGreatDoorSeen
import Derived.Test.YtnmojmmgkipjcaaGreatDoorBasea
import Derived.Test.YtnmojmmgkipjcaaGreatDoorJkit
namespace Go.Proofs.YtnmojmmgkipjcaaGreatDoor
open Go.RowKit Go.Maps
theorem some_ne {a b : Nat} (h : b < a) : (some a : Option Nat) ≠ some b := fun e => by have := Option.some.inj e; omega
theorem some_ne' {a b : Nat} (h : a < b) : (some a : Option Nat) ≠ some b := fun e => by have := Option.some.inj e; omega
theorem drop_cons' {α : Type} {l : List α} {j : Nat} (h : j < l.length) : l.drop j = l[j] :: l.drop (j + 1) := List.drop_eq_getElem_cons h
theorem chkL_step (o : Bool) (ns : List ByteArray) (is : List JV) (d : Int) (j : Nat) (h : j < is.length) (hn : o = true → j < ns.length) :
    chkL o (ns.drop j) (ns.take j) (is.drop j) d =
      if o = true ∧ Lib.validD (ns[j]?.getD ByteArray.empty).data.toList = false then 18
      else if o = true ∧ hasB (ns.take j) (ns[j]?.getD ByteArray.empty) = true then 16
      else if chk is[j] (d + 1) = 0 then (if o = true then chkL o (ns.drop (j + 1)) (ns.take (j + 1)) (is.drop (j + 1)) d else chkL o (ns.drop (j + 1)) (ns.take j ++ [ns[j]?.getD ByteArray.empty]) (is.drop (j + 1)) d) else chk is[j] (d + 1) := by
  rw [drop_cons' h, chkL]
  have hh : (ns.drop j).headD ByteArray.empty = ns[j]?.getD ByteArray.empty := by
    rw [List.headD_eq_head?_getD, List.head?_drop]
  have ht : (ns.drop j).tail = ns.drop (j + 1) := by rw [List.tail_drop]
  rw [hh, ht]
  cases o with
  | true =>
    have hn' := hn rfl
    rw [if_pos rfl, List.take_succ_eq_append_getElem hn', List.getElem?_eq_getElem hn', Option.getD_some]
  | false => simp
theorem chkL_false : ∀ (is : List JV) (a b c e : List ByteArray) (d : Int), chkL false a b is d = chkL false c e is d
  | [], _, _, _, _, _ => by simp [chkL]
  | t :: r, a, b, c, e, d => by
    rw [chkL, chkL]
    simp only [Bool.false_eq_true, false_and, if_false]
    rw [chkL_false r _ _ c.tail (e ++ [c.headD ByteArray.empty]) d]
def ChkSaid (m : Nat) : Prop := ∀ (t : JV), t.size ≤ m → t.bulk ≤ 1099511627776 → ∀ (d : Int), 0 ≤ d → d ≤ 65 → ∀ (cs : List Value) (w : World) (ok : Nat → Prop), Rep w ok t cs → Lib.Utf8Tabs 0 1 w →
    Calls Tryz.prog 29 #[.agg cs.toArray, .int .i64 d] w fun e w' => e = .returned (.int .i64 (chk t d)) ∧ Below w.heap.size w w'
set_option maxRecDepth 20000 in
set_option maxHeartbeats 8000000 in
theorem check5 (m : Nat) (ih : ChkSaid m) (n : Int) (s : ByteArray) (ns : List ByteArray) (is : List JV) (hm : (JV.mk 5 n s ns is).size ≤ m + 1) (hbk : (JV.mk 5 n s ns is).bulk ≤ 1099511627776) (d : Int) (hd0 : 0 ≤ d) (hd1 : d ≤ 65) (cs : List Value) (w : World) (ok : Nat → Prop) (hr : Rep w ok (.mk 5 n s ns is) cs) (hT : Lib.Utf8Tabs 0 1 w) :
    Calls Tryz.prog 29 #[.agg cs.toArray, .int .i64 d] w fun e w' => e = .returned (.int .i64 (chk (.mk 5 n s ns is) d)) ∧ Below w.heap.size w w' := by
  rw [rep_mk] at hr
  obtain ⟨hk, hn, hs, an, cn, ai, ci, rfl, hcn, hci, hst, hit⟩ := hr
  have HE := Lib.hid (show chk (.mk 5 n s ns is) d = if 63 < d then 17 else if fitsB 5 n s ns.length is.length = false then 18 else chkL false ns [] is d by rw [chk]; rfl)
  obtain ⟨a0, a1, a2, a3, a4⟩ := cells5 w (.int .i64 5) (.int .i64 n) (.string s) (.slice an ns.length cn) (.slice ai is.length ci) 25
  have hb0 : Below w.heap.size w (w.alloc (.cells #[.int .i64 5, .int .i64 n, .string s, .slice an ns.length cn, .slice ai is.length ci] 25)) := (Below.refl _ _).alloc (Nat.le_refl _) _
  unfold maxLen at hcn hci hs
  have hft := fits_c 5 n s an ai ns.length cn is.length ci (by omega) (by omega) hs (w.alloc (.cells #[.int .i64 5, .int .i64 n, .string s, .slice an ns.length cn, .slice ai is.length ci] 25)) (utf8_below hT hb0)
  have HFL := Lib.hid (fun h => @fits_len 5 n s ns.length is.length h)
  have HIH := Lib.hid ih
  have HTB := Lib.hid hT
  have HIT := Lib.hid hit
  have HST := Lib.hid hst
  have HSZ := Lib.hid (show ∀ t ∈ is, t.size ≤ m from fun t ht => by have h1 := JV.size_le ht; rw [JV.size] at hm; omega)
  have HB0 := Lib.hid hb0
  have HBK := Lib.hid (show ∀ t ∈ is, t.bulk ≤ 1099511627776 from fun t ht => by have h1 := JV.bulk_le ht; rw [JV.bulk] at hbk; omega)

  clear hT hit hst ih hb0 hm hbk
  by_cases hdm : 63 < d
  · have HV := Lib.hid (HE.out.trans (if_pos hdm))
    clear hft
    go_enter Tryz.func29, Tryz.ntmps29
    go_wp2
    go_ret
    exact ⟨by rw [HV.out]; rfl, HB0.out⟩
  have HE2 := Lib.hid (HE.out.trans (if_neg hdm))
  clear HE
  generalize fitsB 5 n s ns.length is.length = ft at *
  have hmm := @run_makeMap Tryz.prog
  go_enter Tryz.func29, Tryz.ntmps29
  go_wp2_with fail
  refine hft.mono ?_; rintro e w1 ⟨rfl, hb1⟩
  cases ft with
  | false =>
    have HV := Lib.hid (HE2.out.trans (if_pos rfl))
    have HB1 := Lib.hid (below_trans HB0.out hb1)
    clear hb1 hft hmm
    go_wp2
    go_ret
    exact ⟨by rw [HV.out]; rfl, HB1.out⟩
  | true =>
    have HV := Lib.hid (HE2.out.trans (if_neg (by decide)))
    have hbm : Below w1.heap.size w1 (w1.alloc (.map #[] 0)) := (Below.refl _ _).alloc (Nat.le_refl _) _
    have hbt := below_trans hb1 hbm
    have HMP := Lib.hid (And.intro (below_trans HB0.out hbt) (And.intro hb1 (seen_new w1)))
    have b0 := cell_below hbt a0
    have b3 := cell_below hbt a3
    have b4 := cell_below hbt a4
    have HBX := Lib.hid (show w.heap.size < w1.heap.size by have := hb1.size; simp only [World.size_alloc] at this; omega)
    clear hb1 hbm hbt a0 a1 a2 a3 a4 HE2 hft
    go_wp2
    go_loopw [30] (fun i wr => ∃ j : Nat, j ≤ is.length ∧ i = .int .i64 j ∧ Hid (chk (.mk 5 n s ns is) d = chkL false (ns.drop j) [] (is.drop j) d) ∧ Hid (True ∧ Upd (w1.alloc (.map #[] 0)) wr (some w1.heap.size) (some w1.heap.size))) (fun i _ => is.length - (intOf i).toNat)
    case atStart => exact ⟨0, by omega, rfl, by have := HV.out; simpa using Lib.hid this, Lib.hid ⟨trivial, Upd.refl _ _⟩⟩
    case round =>
      clear HV hmm
      obtain ⟨j, hj, rfl, HR, HU⟩ := hrel
      have hbw : Below w.heap.size w wr := HMP.out.1.trans (HU.out.2.below HMP.out.1.size (fun g hg => by have := Option.some.inj hg; have := HBX.out; omega))
      have HIW := Lib.hid (HIT.out.kept (ok' := fun b => b ≠ w1.heap.size) (fun b hlt _ => ⟨by have := HBX.out; omega, hbw.block b hlt⟩))
      have HSW := Lib.hid (HST.out.below hbw)
      have HTW := Lib.hid (utf8_below HTB.out hbw)
      have HBW := Lib.hid hbw
      have c0 := HU.out.2.cell b0 (some_ne HBX.out)
      have c3 := HU.out.2.cell b3 (some_ne HBX.out)
      have c4 := HU.out.2.cell b4 (some_ne HBX.out)
      clear b0 b3 b4 hbw
      by_cases hlt : j < is.length
      · rcases HIW.out with rfl | ⟨bI, oI, rfl, hoI, hall⟩
        · simp at hlt
        obtain ⟨xs, hrj, hlj⟩ := hall.at j hlt
        have hszj := HSZ.out is[j] (List.getElem_mem hlt)
        have hbkj := HBK.out is[j] (List.getElem_mem hlt)
        obtain ⟨xan, xcn, xai, xci, rfl⟩ := hrj.form
        obtain ⟨l0, l1, l2, l3, l4⟩ := lie5 hlj
        have HS := Lib.hid (HR.out.trans ((chkL_false _ _ _ _ (ns.take j) _).trans (chkL_step false ns is d j hlt (fun h => by cases h))))
        have HLT := Lib.hid hlt
        have HRJ := Lib.hid hrj
        clear hall hlj hrj HR
        generalize is[j] = x at *
        have hbx : Below wr.heap.size wr (wr.alloc (.cells #[.int .i64 x.kind, .int .i64 x.int, .string x.text, .slice xan x.names.length xcn, .slice xai x.items.length xci] 25)) := (Below.refl _ _).alloc (Nat.le_refl _) _
        obtain ⟨x0, x1, x2, x3, x4⟩ := cells5 wr (.int .i64 x.kind) (.int .i64 x.int) (.string x.text) (.slice xan x.names.length xcn) (.slice xai x.items.length xci) 25
        have k0 := cell_below hbx c0
        have k3 := cell_below hbx c3
        have HBX2 := Lib.hid hbx
        clear hbx c0 c3 c4
        have hd65 : d + 1 ≤ 65 := by omega
        have hch := HIH.out x hszj hbkj (d + 1) (by omega) hd65 _ (wr.alloc (.cells #[.int .i64 x.kind, .int .i64 x.int, .string x.text, .slice xan x.names.length xcn, .slice xai x.items.length xci] 25)) _ (Rep.below HRJ.out HBX2.out) (utf8_below HTW.out HBX2.out)
        have HCV := Lib.hid (chk_vals x (d + 1))
        generalize chk x (d + 1) = cv at *
        go_wp2_with fail
        refine hch.mono ?_; rintro e w2 ⟨rfl, hb2⟩
        have HB2 := Lib.hid (below_trans HBX2.out hb2)
        have HS2 := Lib.hid ((HS.out.trans (if_neg (by simp))).trans (if_neg (by simp)))
        clear HS hch hb2 x0 x1 x2 x3 x4 k0 k3
        by_cases hz : cv = 0
        · subst hz
          have HV := Lib.hid ((HS2.out.trans (if_pos rfl)).trans ((if_neg (by simp)).trans (chkL_false _ _ _ (ns.drop (j + 1)) [] _)))
          clear HS2
          go_wp2
          go_roundw
          case rel => exact ⟨j + 1, HLT.out, by go_num, HV, Lib.hid ⟨trivial, HU.out.2.trans (Upd.of_below HB2.out _)⟩⟩
          case measure => have := HLT.out; simp [intOf]; omega
        · have HV := Lib.hid (HS2.out.trans (if_neg hz))
          have hzb : (cv == 0) = false := by simpa using hz
          clear HS2
          go_wp2
          go_ret
          exact ⟨by rw [HV.out]; rfl, HBW.out.trans (HB2.out.mono HBW.out.size)⟩
      · obtain rfl : j = is.length := by omega
        have HV := Lib.hid (HR.out.trans (by rw [List.drop_length, chkL]))
        clear HR
        go_wp2
        go_ret
        exact ⟨by rw [HV.out]; rfl, HBW.out⟩
set_option maxRecDepth 20000 in
set_option maxHeartbeats 8000000 in
theorem checkO (m : Nat) (ih : ChkSaid m) (k : Int) (hk5 : k ≠ 5) (hk6 : k ≠ 6) (n : Int) (s : ByteArray) (ns : List ByteArray) (is : List JV) (hm : (JV.mk k n s ns is).size ≤ m + 1) (hbk : (JV.mk k n s ns is).bulk ≤ 1099511627776) (d : Int) (hd0 : 0 ≤ d) (hd1 : d ≤ 65) (cs : List Value) (w : World) (ok : Nat → Prop) (hr : Rep w ok (.mk k n s ns is) cs) (hT : Lib.Utf8Tabs 0 1 w) :
    Calls Tryz.prog 29 #[.agg cs.toArray, .int .i64 d] w fun e w' => e = .returned (.int .i64 (chk (.mk k n s ns is) d)) ∧ Below w.heap.size w w' := by
  rw [rep_mk] at hr
  obtain ⟨hk, hn, hs, an, cn, ai, ci, rfl, hcn, hci, hst, hit⟩ := hr
  have HE := Lib.hid (show chk (.mk k n s ns is) d = if 64 < d then 17 else if fitsB k n s ns.length is.length = false then 18 else chkL false ns [] is d by rw [chk]; rw [show mostD k = 64 from if_neg (by omega), decide_eq_false hk6])
  obtain ⟨a0, a1, a2, a3, a4⟩ := cells5 w (.int .i64 k) (.int .i64 n) (.string s) (.slice an ns.length cn) (.slice ai is.length ci) 25
  have hb0 : Below w.heap.size w (w.alloc (.cells #[.int .i64 k, .int .i64 n, .string s, .slice an ns.length cn, .slice ai is.length ci] 25)) := (Below.refl _ _).alloc (Nat.le_refl _) _
  unfold maxLen at hcn hci hs
  have hft := fits_c k n s an ai ns.length cn is.length ci (by omega) (by omega) hs (w.alloc (.cells #[.int .i64 k, .int .i64 n, .string s, .slice an ns.length cn, .slice ai is.length ci] 25)) (utf8_below hT hb0)
  have HFL := Lib.hid (fun h => @fits_len k n s ns.length is.length h)
  have HIH := Lib.hid ih
  have HTB := Lib.hid hT
  have HIT := Lib.hid hit
  have HST := Lib.hid hst
  have HSZ := Lib.hid (show ∀ t ∈ is, t.size ≤ m from fun t ht => by have h1 := JV.size_le ht; rw [JV.size] at hm; omega)
  have HB0 := Lib.hid hb0
  have HBK := Lib.hid (show ∀ t ∈ is, t.bulk ≤ 1099511627776 from fun t ht => by have h1 := JV.bulk_le ht; rw [JV.bulk] at hbk; omega)
  have e5 : (k == 5) = false := by simpa using hk5
  have e6 : (k == 6) = false := by simpa using hk6
  clear hT hit hst ih hb0 hm hbk
  by_cases hdm : 64 < d
  · have HV := Lib.hid (HE.out.trans (if_pos hdm))
    clear hft
    go_enter Tryz.func29, Tryz.ntmps29
    go_wp2
    go_ret
    exact ⟨by rw [HV.out]; rfl, HB0.out⟩
  have HE2 := Lib.hid (HE.out.trans (if_neg hdm))
  clear HE
  generalize fitsB k n s ns.length is.length = ft at *
  have hmm := @run_makeMap Tryz.prog
  go_enter Tryz.func29, Tryz.ntmps29
  go_wp2_with fail
  refine hft.mono ?_; rintro e w1 ⟨rfl, hb1⟩
  cases ft with
  | false =>
    have HV := Lib.hid (HE2.out.trans (if_pos rfl))
    have HB1 := Lib.hid (below_trans HB0.out hb1)
    clear hb1 hft hmm
    go_wp2
    go_ret
    exact ⟨by rw [HV.out]; rfl, HB1.out⟩
  | true =>
    have HV := Lib.hid (HE2.out.trans (if_neg (by decide)))
    have hbm : Below w1.heap.size w1 (w1.alloc (.map #[] 0)) := (Below.refl _ _).alloc (Nat.le_refl _) _
    have hbt := below_trans hb1 hbm
    have HMP := Lib.hid (And.intro (below_trans HB0.out hbt) (And.intro hb1 (seen_new w1)))
    have b0 := cell_below hbt a0
    have b3 := cell_below hbt a3
    have b4 := cell_below hbt a4
    have HBX := Lib.hid (show w.heap.size < w1.heap.size by have := hb1.size; simp only [World.size_alloc] at this; omega)
    clear hb1 hbm hbt a0 a1 a2 a3 a4 HE2 hft
    go_wp2
    go_loopw [30] (fun i wr => ∃ j : Nat, j ≤ is.length ∧ i = .int .i64 j ∧ Hid (chk (.mk k n s ns is) d = chkL false (ns.drop j) [] (is.drop j) d) ∧ Hid (True ∧ Upd (w1.alloc (.map #[] 0)) wr (some w1.heap.size) (some w1.heap.size))) (fun i _ => is.length - (intOf i).toNat)
    case atStart => exact ⟨0, by omega, rfl, by have := HV.out; simpa using Lib.hid this, Lib.hid ⟨trivial, Upd.refl _ _⟩⟩
    case round =>
      clear HV hmm
      obtain ⟨j, hj, rfl, HR, HU⟩ := hrel
      have hbw : Below w.heap.size w wr := HMP.out.1.trans (HU.out.2.below HMP.out.1.size (fun g hg => by have := Option.some.inj hg; have := HBX.out; omega))
      have HIW := Lib.hid (HIT.out.kept (ok' := fun b => b ≠ w1.heap.size) (fun b hlt _ => ⟨by have := HBX.out; omega, hbw.block b hlt⟩))
      have HSW := Lib.hid (HST.out.below hbw)
      have HTW := Lib.hid (utf8_below HTB.out hbw)
      have HBW := Lib.hid hbw
      have c0 := HU.out.2.cell b0 (some_ne HBX.out)
      have c3 := HU.out.2.cell b3 (some_ne HBX.out)
      have c4 := HU.out.2.cell b4 (some_ne HBX.out)
      clear b0 b3 b4 hbw
      by_cases hlt : j < is.length
      · rcases HIW.out with rfl | ⟨bI, oI, rfl, hoI, hall⟩
        · simp at hlt
        obtain ⟨xs, hrj, hlj⟩ := hall.at j hlt
        have hszj := HSZ.out is[j] (List.getElem_mem hlt)
        have hbkj := HBK.out is[j] (List.getElem_mem hlt)
        obtain ⟨xan, xcn, xai, xci, rfl⟩ := hrj.form
        obtain ⟨l0, l1, l2, l3, l4⟩ := lie5 hlj
        have HS := Lib.hid (HR.out.trans ((chkL_false _ _ _ _ (ns.take j) _).trans (chkL_step false ns is d j hlt (fun h => by cases h))))
        have HLT := Lib.hid hlt
        have HRJ := Lib.hid hrj
        clear hall hlj hrj HR
        generalize is[j] = x at *
        have hbx : Below wr.heap.size wr (wr.alloc (.cells #[.int .i64 x.kind, .int .i64 x.int, .string x.text, .slice xan x.names.length xcn, .slice xai x.items.length xci] 25)) := (Below.refl _ _).alloc (Nat.le_refl _) _
        obtain ⟨x0, x1, x2, x3, x4⟩ := cells5 wr (.int .i64 x.kind) (.int .i64 x.int) (.string x.text) (.slice xan x.names.length xcn) (.slice xai x.items.length xci) 25
        have k0 := cell_below hbx c0
        have k3 := cell_below hbx c3
        have HBX2 := Lib.hid hbx
        clear hbx c0 c3 c4
        have hd65 : d + 1 ≤ 65 := by omega
        have hch := HIH.out x hszj hbkj (d + 1) (by omega) hd65 _ (wr.alloc (.cells #[.int .i64 x.kind, .int .i64 x.int, .string x.text, .slice xan x.names.length xcn, .slice xai x.items.length xci] 25)) _ (Rep.below HRJ.out HBX2.out) (utf8_below HTW.out HBX2.out)
        have HCV := Lib.hid (chk_vals x (d + 1))
        generalize chk x (d + 1) = cv at *
        go_wp2_with fail
        refine hch.mono ?_; rintro e w2 ⟨rfl, hb2⟩
        have HB2 := Lib.hid (below_trans HBX2.out hb2)
        have HS2 := Lib.hid ((HS.out.trans (if_neg (by simp))).trans (if_neg (by simp)))
        clear HS hch hb2 x0 x1 x2 x3 x4 k0 k3
        by_cases hz : cv = 0
        · subst hz
          have HV := Lib.hid ((HS2.out.trans (if_pos rfl)).trans ((if_neg (by simp)).trans (chkL_false _ _ _ (ns.drop (j + 1)) [] _)))
          clear HS2
          go_wp2
          go_roundw
          case rel => exact ⟨j + 1, HLT.out, by go_num, HV, Lib.hid ⟨trivial, HU.out.2.trans (Upd.of_below HB2.out _)⟩⟩
          case measure => have := HLT.out; simp [intOf]; omega
        · have HV := Lib.hid (HS2.out.trans (if_neg hz))
          have hzb : (cv == 0) = false := by simpa using hz
          clear HS2
          go_wp2
          go_ret
          exact ⟨by rw [HV.out]; rfl, HBW.out.trans (HB2.out.mono HBW.out.size)⟩
      · obtain rfl : j = is.length := by omega
        have HV := Lib.hid (HR.out.trans (by rw [List.drop_length, chkL]))
        clear HR
        go_wp2
        go_ret
        exact ⟨by rw [HV.out]; rfl, HBW.out⟩
set_option maxRecDepth 20000 in
set_option maxHeartbeats 8000000 in
theorem check6 (m : Nat) (ih : ChkSaid m) (n : Int) (s : ByteArray) (ns : List ByteArray) (is : List JV) (hm : (JV.mk 6 n s ns is).size ≤ m + 1) (hbk : (JV.mk 6 n s ns is).bulk ≤ 1099511627776) (d : Int) (hd0 : 0 ≤ d) (hd1 : d ≤ 65) (cs : List Value) (w : World) (ok : Nat → Prop) (hr : Rep w ok (.mk 6 n s ns is) cs) (hT : Lib.Utf8Tabs 0 1 w) :
    Calls Tryz.prog 29 #[.agg cs.toArray, .int .i64 d] w fun e w' => e = .returned (.int .i64 (chk (.mk 6 n s ns is) d)) ∧ Below w.heap.size w w' := by
  rw [rep_mk] at hr
  obtain ⟨hk, hn, hs, an, cn, ai, ci, rfl, hcn, hci, hst, hit⟩ := hr
  have HE := Lib.hid (show chk (.mk 6 n s ns is) d = if 63 < d then 17 else if fitsB 6 n s ns.length is.length = false then 18 else chkL true ns [] is d by rw [chk]; rfl)
  obtain ⟨a0, a1, a2, a3, a4⟩ := cells5 w (.int .i64 6) (.int .i64 n) (.string s) (.slice an ns.length cn) (.slice ai is.length ci) 25
  have hb0 : Below w.heap.size w (w.alloc (.cells #[.int .i64 6, .int .i64 n, .string s, .slice an ns.length cn, .slice ai is.length ci] 25)) := (Below.refl _ _).alloc (Nat.le_refl _) _
  unfold maxLen at hcn hci hs
  have hft := fits_c 6 n s an ai ns.length cn is.length ci (by omega) (by omega) hs (w.alloc (.cells #[.int .i64 6, .int .i64 n, .string s, .slice an ns.length cn, .slice ai is.length ci] 25)) (utf8_below hT hb0)
  have HFL := Lib.hid (fun h => @fits_len 6 n s ns.length is.length h)
  have HIH := Lib.hid ih
  have HTB := Lib.hid hT
  have HIT := Lib.hid hit
  have HST := Lib.hid hst
  have HSZ := Lib.hid (show ∀ t ∈ is, t.size ≤ m from fun t ht => by have h1 := JV.size_le ht; rw [JV.size] at hm; omega)
  have HB0 := Lib.hid hb0
  have HBK := Lib.hid (show ∀ t ∈ is, t.bulk ≤ 1099511627776 from fun t ht => by have h1 := JV.bulk_le ht; rw [JV.bulk] at hbk; omega)
  have HNS := Lib.hid (show ∀ x ∈ ns, x.size ≤ maxLen from fun x hx => by have h1 := strs_mem hx; rw [JV.bulk] at hbk; unfold maxLen; omega)
  clear hT hit hst ih hb0 hm hbk
  by_cases hdm : 63 < d
  · have HV := Lib.hid (HE.out.trans (if_pos hdm))
    clear hft
    go_enter Tryz.func29, Tryz.ntmps29
    go_wp2
    go_ret
    exact ⟨by rw [HV.out]; rfl, HB0.out⟩
  have HE2 := Lib.hid (HE.out.trans (if_neg hdm))
  clear HE
  generalize fitsB 6 n s ns.length is.length = ft at *
  have hmm := @run_makeMap Tryz.prog
  go_enter Tryz.func29, Tryz.ntmps29
  go_wp2_with fail
  refine hft.mono ?_; rintro e w1 ⟨rfl, hb1⟩
  cases ft with
  | false =>
    have HV := Lib.hid (HE2.out.trans (if_pos rfl))
    have HB1 := Lib.hid (below_trans HB0.out hb1)
    clear hb1 hft hmm
    go_wp2
    go_ret
    exact ⟨by rw [HV.out]; rfl, HB1.out⟩
  | true =>
    have HV := Lib.hid (HE2.out.trans (if_neg (by decide)))
    have hbm : Below w1.heap.size w1 (w1.alloc (.map #[] 0)) := (Below.refl _ _).alloc (Nat.le_refl _) _
    have hbt := below_trans hb1 hbm
    have HMP := Lib.hid (And.intro (below_trans HB0.out hbt) (And.intro hb1 (seen_new w1)))
    have b0 := cell_below hbt a0
    have b3 := cell_below hbt a3
    have b4 := cell_below hbt a4
    have HBX := Lib.hid (show w.heap.size < w1.heap.size by have := hb1.size; simp only [World.size_alloc] at this; omega)
    clear hb1 hbm hbt a0 a1 a2 a3 a4 HE2 hft
    go_wp2
    go_loopw [30] (fun i wr => ∃ j : Nat, j ≤ is.length ∧ i = .int .i64 j ∧ Hid (chk (.mk 6 n s ns is) d = chkL true (ns.drop j) (ns.take j) (is.drop j) d) ∧ Hid (SeenAt wr w1.heap.size (ns.take j) ∧ Upd (w1.alloc (.map #[] 0)) wr (some w1.heap.size) (some w1.heap.size))) (fun i _ => is.length - (intOf i).toNat)
    case atStart => exact ⟨0, by omega, rfl, by have := HV.out; simpa using Lib.hid this, Lib.hid ⟨HMP.out.2.2, Upd.refl _ _⟩⟩
    case round =>
      clear HV hmm
      obtain ⟨j, hj, rfl, HR, HU⟩ := hrel
      have hbw : Below w.heap.size w wr := HMP.out.1.trans (HU.out.2.below HMP.out.1.size (fun g hg => by have := Option.some.inj hg; have := HBX.out; omega))
      have HIW := Lib.hid (HIT.out.kept (ok' := fun b => b ≠ w1.heap.size) (fun b hlt _ => ⟨by have := HBX.out; omega, hbw.block b hlt⟩))
      have HSW := Lib.hid (HST.out.below hbw)
      have HTW := Lib.hid (utf8_below HTB.out hbw)
      have HBW := Lib.hid hbw
      have c0 := HU.out.2.cell b0 (some_ne HBX.out)
      have c3 := HU.out.2.cell b3 (some_ne HBX.out)
      have c4 := HU.out.2.cell b4 (some_ne HBX.out)
      clear b0 b3 b4 hbw
      by_cases hlt : j < is.length
      · rcases HIW.out with rfl | ⟨bI, oI, rfl, hoI, hall⟩
        · simp at hlt
        obtain ⟨xs, hrj, hlj⟩ := hall.at j hlt
        have hszj := HSZ.out is[j] (List.getElem_mem hlt)
        have hbkj := HBK.out is[j] (List.getElem_mem hlt)
        obtain ⟨xan, xcn, xai, xci, rfl⟩ := hrj.form
        obtain ⟨l0, l1, l2, l3, l4⟩ := lie5 hlj
        have hltN : j < ns.length := by have := HFL.out (by trivial) (by trivial); omega
        have hnsz : ns[j].size ≤ maxLen := HNS.out _ (List.getElem_mem hltN)
        obtain ⟨bN, oN, rfl, hN3⟩ : ∃ bN oN, an = some ⟨bN, oN, none⟩ ∧ wr.cell? ⟨bN, oN + j, none⟩ = some (.string ns[j]) := by
          rcases HSW.out with rfl | ⟨b, o, h1, h2, h3⟩
          · exact absurd hltN (by simp)
          · exact ⟨b, o, h1, h3 j _ (by simp [hltN])⟩
        have HS := Lib.hid (HR.out.trans (chkL_step true ns is d j hlt (fun _ => hltN)))
        have HLT := Lib.hid hlt
        have HRJ := Lib.hid hrj
        clear hall hlj hrj HR
        generalize is[j] = x at *
        have HMW := Lib.hid (show w1.heap.size < wr.heap.size from HU.out.1.lt)
        have HNE := Lib.hid (show ns[j]?.getD ByteArray.empty = ns[j] by rw [List.getElem?_eq_getElem hltN, Option.getD_some])
        have HTK := Lib.hid (show ns.take (j + 1) = ns.take j ++ [ns[j]] from List.take_succ_eq_append_getElem hltN)
        generalize ns[j] = nm at *
        have hbx : Below wr.heap.size wr (wr.alloc (.cells #[.int .i64 x.kind, .int .i64 x.int, .string x.text, .slice xan x.names.length xcn, .slice xai x.items.length xci] 25)) := (Below.refl _ _).alloc (Nat.le_refl _) _
        obtain ⟨x0, x1, x2, x3, x4⟩ := cells5 wr (.int .i64 x.kind) (.int .i64 x.int) (.string x.text) (.slice xan x.names.length xcn) (.slice xai x.items.length xci) 25
        have k0 := cell_below hbx c0
        have k3 := cell_below hbx c3
        have N1 := cell_below hbx hN3
        clear hN3
        have HBX2 := Lib.hid hbx
        clear hbx c0 c3 c4
        have hval := Tryz.utf8_ValidString nm (wr.alloc (.cells #[.int .i64 x.kind, .int .i64 x.int, .string x.text, .slice xan x.names.length xcn, .slice xai x.items.length xci] 25)) (by unfold maxLen at hnsz; omega) (utf8_below HTW.out HBX2.out)
        go_wp2_with fail
        refine hval.mono ?_; rintro e w2 ⟨rfl, hb2⟩
        have HX := Lib.hid HS.out
        have q0 := cell_below hb2 k0
        have q3 := cell_below hb2 k3
        have q8 := cell_below hb2 N1
        have y0 := cell_below hb2 x0
        have y1 := cell_below hb2 x1
        have y2 := cell_below hb2 x2
        have y3 := cell_below hb2 x3
        have y4 := cell_below hb2 x4
        have HB2 := Lib.hid (below_trans HBX2.out hb2)
        clear hval hb2 k0 k3 N1 x0 x1 x2 x3 x4
        by_cases hvd : Lib.validD nm.data.toList = false
        · have HV := Lib.hid (HS.out.trans (if_pos ⟨by trivial, by rw [HNE.out]; exact hvd⟩))
          clear HS HX
          go_wp2
          go_ret
          exact ⟨by rw [HV.out]; rfl, HBW.out.trans (HB2.out.mono HBW.out.size)⟩
        · have hvt : Lib.validD nm.data.toList = true := by simpa using hvd
          have HS2 := Lib.hid (HS.out.trans (if_neg (fun h => by rw [HNE.out] at h; exact hvd h.2)))
          have hse := HU.out.1.below HB2.out
          obtain ⟨c, hlook, hc0, hc1, hc2⟩ := hse.look nm hnsz
          have HSE := Lib.hid hse
          have HC := Lib.hid (And.intro hc0 hc1)
          clear HS HX hse hvd
          by_cases hin : hasB (ns.take j) nm = true
          · have HV := Lib.hid (HS2.out.trans (if_pos ⟨by trivial, by rw [HNE.out]; exact hin⟩))
            have hcp : 0 < c := by rw [hin] at hc2; simpa using hc2
            clear HS2 hc2 hc0 hc1
            go_wp2
            go_ret
            exact ⟨by rw [HV.out]; rfl, HBW.out.trans (HB2.out.mono HBW.out.size)⟩
          · have HV := Lib.hid (HS2.out.trans (if_neg (fun h => by rw [HNE.out] at h; exact hin h.2)))
            have hcp : ¬ 0 < c := by
              intro h
              have h2 : decide (0 < c) = true := by simpa using h
              rw [hc2] at h2; exact hin h2
            clear HS2 hc2 hc0 hc1 hin
            go_wp2_with (at_mapUpdate; refine wpList_seen rfl _ _ _ rfl rfl HSE.out nm c rfl hnsz _ rfl (by have h7 := HC.out; have h8 := List.length_take_le j ns; unfold wrap64; omega) hlook (by simp; omega) ?_; intro w3 hs3 hu3; have z0 := hu3.cell y0 (some_ne' HMW.out); have z1 := hu3.cell y1 (some_ne' HMW.out); have z2 := hu3.cell y2 (some_ne' HMW.out); have z3 := hu3.cell y3 (some_ne' HMW.out); have z4 := hu3.cell y4 (some_ne' HMW.out); have HU3 := Lib.hid hu3; have HS3 := Lib.hid hs3; clear hs3 hu3 hlook y0 y1 y2 y3 y4 q0 q3 q8)
            have hb3 : Below w.heap.size w w3 := (HBW.out.trans (HB2.out.mono HBW.out.size)).trans (HU3.out.below (Nat.le_trans HBW.out.size HB2.out.size) (fun g hg => by have := Option.some.inj hg; have := HBX.out; omega))
            have HB3 := Lib.hid hb3
            have hd65 : d + 1 ≤ 65 := by omega
            have hch := HIH.out x hszj hbkj (d + 1) (by omega) hd65 _ w3 (fun b => b ≠ w1.heap.size) (Rep.kept (fun b hlt hb => ⟨hb, (HU3.out.block (Nat.lt_of_lt_of_le hlt HB2.out.size) (fun e => hb (Option.some.inj e).symm)).trans (HB2.out.block b hlt)⟩) _ _ HRJ.out) (utf8_below HTB.out hb3)
            have HCV := Lib.hid (chk_vals x (d + 1))
            have HMU := Lib.hid (show Upd (w1.alloc (.map #[] 0)) w3 (some w1.heap.size) (some w1.heap.size) from HU.out.2.trans ((Upd.of_below HB2.out _).trans HU3.out))
            generalize chk x (d + 1) = cv at *
            clear hb3 hcp
            refine hch.mono ?_; rintro e w4 ⟨rfl, hb4⟩
            have HB4 := Lib.hid hb4
            clear hch hb4 z0 z1 z2 z3 z4
            by_cases hz : cv = 0
            · subst hz
              have HV2 := Lib.hid ((HV.out.trans (if_pos rfl)).trans (if_pos (by trivial)))
              clear HV
              go_wp2
              go_roundw
              case rel => exact ⟨j + 1, HLT.out, by go_num, HV2, Lib.hid ⟨by rw [HTK.out]; exact HS3.out.below HB4.out, HMU.out.trans (Upd.of_below HB4.out _)⟩⟩
              case measure => have := HLT.out; simp [intOf]; omega
            · have HV2 := Lib.hid (HV.out.trans (if_neg hz))
              have hzb : (cv == 0) = false := by simpa using hz
              clear HV
              go_wp2
              go_ret
              exact ⟨by rw [HV2.out]; rfl, HB3.out.trans (HB4.out.mono HB3.out.size)⟩
      · obtain rfl : j = is.length := by omega
        have HV := Lib.hid (HR.out.trans (by rw [List.drop_length, chkL]))
        clear HR
        go_wp2
        go_ret
        exact ⟨by rw [HV.out]; rfl, HBW.out⟩
theorem check_all (m : Nat) : ChkSaid m := by
  induction m with
  | zero => intro t hm; have := JV.size_pos t; omega
  | succ m ih =>
    intro t hm hbk d hd0 hd1 cs w ok hr hT
    cases t with
    | mk k n s ns is =>
    rcases (show k = 5 ∨ k = 6 ∨ (k ≠ 5 ∧ k ≠ 6) by omega) with rfl | rfl | ⟨h5, h6⟩
    · exact check5 m ih n s ns is hm hbk d hd0 hd1 cs w ok hr hT
    · exact check6 m ih n s ns is hm hbk d hd0 hd1 cs w ok hr hT
    · exact checkO m ih k h5 h6 n s ns is hm hbk d hd0 hd1 cs w ok hr hT
/-- Check says the first fault. -/
theorem check_c (t : JV) (hbk : t.bulk ≤ 1099511627776) (cs : List Value) (w : World) (ok : Nat → Prop) (hr : Rep w ok t cs) (hT : Lib.Utf8Tabs 0 1 w) :
    Calls Tryz.prog 23 #[.agg cs.toArray] w fun e w' => e = .returned (.int .i64 (chk t 0)) ∧ Below w.heap.size w w' := by
  obtain ⟨an, cn, ai, ci, rfl⟩ := hr.form
  have hb0 : Below w.heap.size w (w.alloc (.cells #[.int .i64 t.kind, .int .i64 t.int, .string t.text, .slice an t.names.length cn, .slice ai t.items.length ci] 25)) := (Below.refl _ _).alloc (Nat.le_refl _) _
  have h1 := check_all t.size t (Nat.le_refl _) hbk 0 (by omega) (by omega) _ _ ok (hr.below hb0) (utf8_below hT hb0)
  obtain ⟨a0, a1, a2, a3, a4⟩ := cells5 w (.int .i64 t.kind) (.int .i64 t.int) (.string t.text) (.slice an t.names.length cn) (.slice ai t.items.length ci) 25
  have HB0 := Lib.hid hb0
  clear hT hr hb0
  go_enter Tryz.func23, Tryz.ntmps23
  go_wp2_with fail
  refine h1.mono ?_; rintro e w1 ⟨rfl, hb1⟩
  have HB1 := Lib.hid (below_trans HB0.out hb1)
  clear h1 hb1
  go_wp2
  go_ret
  exact ⟨rfl, HB1.out⟩
end Go.Proofs.YtnmojmmgkipjcaaGreatDoor
