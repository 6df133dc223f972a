/- The walks of Print and of live. Conditions: what the laws name. -/
import Derived.Test.YtbkbokfegjodnaaDoorRdb
import Derived.Test.YtbkbokfegjodnaaDoorWritw
import Derived.Test.YtbkbokfegjodnaaDoorCheckw
namespace Go.Proofs.YtbkbokfegjodnaaDoor
open Go.RowKit
/-- what lies as its text lays it -/
structure JTabs (w : World) : Prop where
  utf : Lib.Utf8Tabs 0 1 w
  err : ErrV w
  pow : Lib.TabIs Tryd.prog w "internal/strconv.uint64pow10" .u64 Lib.pow10Tab
theorem JTabs.below {w w' : World} (h : JTabs w) (hb : Below w.heap.size w w') : JTabs w' :=
  ⟨utf8_below h.utf hb, h.err.below hb, (Lib.tabBelow_of_tabIs h.pow) w' hb⟩
theorem JTabs.size {w : World} (h : JTabs w) : 4 ≤ w.heap.size := h.err.lt
theorem JTabs.tab {w : World} (h : JTabs w) : Lib.TabBelow Tryd.prog w.heap.size w "internal/strconv.uint64pow10" .u64 Lib.pow10Tab := Lib.tabBelow_of_tabIs h.pow
theorem buf_form {w : World} {B : Nat} {v : Value} {l : List UInt8} (h : Buf w B 5 v l) : ∃ a cap, v = .slice a l.length cap := by
  obtain ⟨h1, ⟨rfl, h2⟩ | ⟨g, cap, cur, rfl, _⟩⟩ := h
  · exact ⟨none, 0, by rw [h2]⟩
  · exact ⟨_, cap, rfl⟩
theorem jprint_bad {t : JV} (h : chk t 0 ≠ 0) : jprint t = ([], chk t 0) := by unfold jprint; rw [if_neg h]
theorem jprint_long {t : JV} (h : chk t 0 = 0) (hl : 65536 < (jput t).length) : jprint t = ([], 1) := by unfold jprint; rw [if_pos h, if_pos hl]
theorem jprint_ok {t : JV} (h : chk t 0 = 0) (hl : ¬ 65536 < (jput t).length) : jprint t = (jput t, 0) := by unfold jprint; rw [if_pos h, if_neg hl]
set_option maxRecDepth 20000 in
set_option maxHeartbeats 4000000 in
theorem print_c (t : JV) (hbk : t.bulk ≤ 1099511627776) (cs : List Value) (w : World) (ok : Nat → Prop) (hr : Rep w ok t cs) (hT : JTabs w) :
    Calls Tryd.prog 20 #[.agg cs.toArray] w fun e w' => e = .returned (.tuple #[.string ⟨(jprint t).1.toArray⟩, .int .i64 (jprint t).2]) ∧ Below w.heap.size w w' := by
  obtain ⟨an, cn, ai, ci, rfl⟩ := hr.form
  have hb0 : Below w.heap.size w (w.alloc (.cells #[.int .i64 t.kind, .int .i64 t.int, .string t.text, .slice an t.names.length cn, .slice ai t.items.length ci] 28)) := (Below.refl _ _).alloc (Nat.le_refl _) _
  have h1 := check_c t hbk _ _ ok (hr.below hb0) (hT.below hb0).utf
  obtain ⟨a0, a1, a2, a3, a4⟩ := cells5 w (.int .i64 t.kind) (.int .i64 t.int) (.string t.text) (.slice an t.names.length cn) (.slice ai t.items.length ci) 28
  have HB0 := Lib.hid hb0
  have HR0 := Lib.hid (hr.below hb0)
  have HT0 := Lib.hid (hT.below hb0)
  clear hT hr hb0
  go_enter Tryd.func20, Tryd.ntmps20
  go_wp2_with fail
  refine h1.mono ?_; rintro e w1 ⟨rfl, hb1⟩
  have HB1 := Lib.hid (below_trans HB0.out hb1)
  have HR1 := Lib.hid (HR0.out.below hb1)
  have HT1 := Lib.hid (HT0.out.below hb1)
  have e0 := cell_below hb1 a0
  have e1 := cell_below hb1 a1
  have e2 := cell_below hb1 a2
  have e3 := cell_below hb1 a3
  have e4 := cell_below hb1 a4
  clear h1 hb1 a0 a1 a2 a3 a4 HB0 HR0 HT0
  by_cases hc : chk t 0 = 0
  · have HC := Lib.hid hc
    have hwr := writ_all t.size t (Nat.le_refl _) (ok_chk t 0 hc) (chk_okW t 0 hc) _ w1 w1.heap.size (.slice none 0 0) [] (Rep.kept (fun b hlt _ => ⟨hlt, rfl⟩) _ _ HR1.out) (buf_nil _ _ _) (Nat.le_refl _) HT1.out.tab (by simp only [List.length_nil]; omega)
    have hlen := jput_len t (rep_okI t _ HR1.out)
    go_wp2_with fail
    refine hwr.mono ?_; rintro e w2 ⟨v, rfl, hv, hk⟩
    have hb2 := hk.below
    rw [List.nil_append] at hv
    have HB2 := Lib.hid (below_trans HB1.out hb2)
    have hcv := run_buf_string byTyK hv 9 Tryd.underlying9
    obtain ⟨A, cap, rfl⟩ := buf_form hv
    clear hwr hk hv hb2 HB1 HR1 HT1 e0 e1 e2 e3 e4
    by_cases hl : 65536 < (jput t).length
    · have hl2 : (65536 : Int) < ((jput t).length : Int) := by omega
      have HJ := Lib.hid (jprint_long HC.out hl)
      clear hcv
      go_wp2
      go_ret2
      exact ⟨by rw [HJ.out]; rfl, HB2.out⟩
    · have hl2 : ¬ (65536 : Int) < ((jput t).length : Int) := by omega
      have HJ := Lib.hid (jprint_ok HC.out hl)
      go_wp2
      go_ret2
      exact ⟨by rw [HJ.out]; rfl, HB2.out⟩
  · have HJ := Lib.hid (jprint_bad hc)
    have hne : (chk t 0 == 0) = false := by simpa using hc
    go_wp2
    go_ret2
    exact ⟨by rw [HJ.out]; rfl, HB1.out⟩
end Go.Proofs.YtbkbokfegjodnaaDoor
namespace Go.Proofs.YtbkbokfegjodnaaDoor
open Go.RowKit
/-- the five cells of a value -/
def five (t : JV) (an : Option Addr) (cn : Nat) (ai : Option Addr) (ci : Nat) : List Value := [.int .i64 t.kind, .int .i64 t.int, .string t.text, .slice an t.names.length cn, .slice ai t.items.length ci]
theorem parse_ok {s : ByteArray} {t : JV} {r : List UInt8} (hj : jparse s.data.toList = .ok t r) (w : World) (hT : JTabs w) :
    Calls Tryd.prog 16 #[.string s] w fun e w' => ∃ an cn ai ci, e = .returned (.tuple #[.agg #[.int .i64 t.kind, .int .i64 t.int, .string t.text, .slice an t.names.length cn, .slice ai t.items.length ci], .int .i64 0, .int .i64 0]) ∧
      Rep w' (fun b => w.heap.size ≤ b) t [.int .i64 t.kind, .int .i64 t.int, .string t.text, .slice an t.names.length cn, .slice ai t.items.length ci] ∧ Below w.heap.size w w' := by
  refine (parse_c s w hT.size hT.utf hT.err).mono ?_
  rintro e w' ⟨u, an, cn, ai, ci, e, pl, rfl, hr, hb, hm⟩
  rw [hj] at hm
  obtain ⟨rfl, rfl, rfl⟩ := hm
  exact ⟨an, cn, ai, ci, rfl, hr, hb⟩
theorem parse_bad {s : ByteArray} {e p : Nat} (hj : jparse s.data.toList = .bad e p) (w : World) (hT : JTabs w) :
    Calls Tryd.prog 16 #[.string s] w fun r w' => ∃ an cn ai ci, r = .returned (.tuple #[.agg #[.int .i64 0, .int .i64 0, .string ⟨#[]⟩, .slice an 0 cn, .slice ai 0 ci], .int .i64 e, .int .i64 p]) ∧
      Rep w' (fun b => w.heap.size ≤ b) (jnil 0) [.int .i64 0, .int .i64 0, .string ⟨#[]⟩, .slice an 0 cn, .slice ai 0 ci] ∧ Below w.heap.size w w' := by
  refine (parse_c s w hT.size hT.utf hT.err).mono ?_
  rintro r w' ⟨u, an, cn, ai, ci, e, pl, rfl, hr, hb, hm⟩
  rw [hj] at hm
  obtain ⟨rfl, rfl, rfl⟩ := hm
  exact ⟨an, cn, ai, ci, rfl, hr, hb⟩
def liveT : JV := .mk 6 0 ⟨#[]⟩ [⟨#[97]⟩] [.mk 5 0 ⟨#[]⟩ [] [.mk 3 1 ⟨#[]⟩ [] [], .mk 3 (-2) ⟨#[]⟩ [] [], .mk 2 0 ⟨#[]⟩ [] [], .mk 4 0 ⟨#[120]⟩ [] []]]
theorem live_read : jparse [32, 123, 34, 97, 34, 32, 58, 32, 91, 49, 44, 32, 45, 50, 44, 32, 116, 114, 117, 101, 44, 32, 34, 120, 34, 93, 125, 32] = .ok liveT [] := by kernel_rfl
theorem live_fault : jparse [91, 49, 46, 53, 93] = .bad 14 2 := by kernel_rfl
theorem live_put : jput liveT = [123, 34, 97, 34, 58, 91, 49, 44, 45, 50, 44, 116, 114, 117, 101, 44, 34, 120, 34, 93, 125] := by
  have h1 : Lib.itoa 1 = [49] := by
    show Lib.decDigits 1 = _
    rw [Lib.decDigits_one (by decide)]; rfl
  have h2 : Lib.itoa (-2) = [45, 50] := by
    show 45 :: Lib.decDigits 2 = _
    rw [Lib.decDigits_one (by decide)]; rfl
  unfold liveT
  simp only [jput, jputL, jputM, h1, h2]
  rfl
theorem live_chk : chk liveT 0 = 0 := by kernel_rfl
theorem lnum_c (e : Int) (w : World) : Calls Tryd.prog 14 #[.int .i64 e] w fun r w' => r = .returned (.int .i64 e) ∧ w' = w := by
  go_enter Tryd.func14, Tryd.ntmps14
  go_wp2
  go_ret
  exact ⟨rfl, rfl⟩
set_option maxRecDepth 20000 in
set_option maxHeartbeats 4000000 in
theorem live_c (w : World) (hT : JTabs w) : Calls Tryd.prog 15 #[] w fun e w' => e = .returned (.bool true) ∧ Below w.heap.size w w' := by
  have h1 := parse_ok (s := ⟨#[32, 123, 34, 97, 34, 32, 58, 32, 91, 49, 44, 32, 45, 50, 44, 32, 116, 114, 117, 101, 44, 32, 34, 120, 34, 93, 125, 32]⟩) live_read w hT
  have HT := Lib.hid hT
  clear hT
  go_enter Tryd.func15, Tryd.ntmps15
  go_wp2_with fail
  refine h1.mono ?_; rintro e w1 ⟨an, cn, ai, ci, rfl, hr, hb1⟩
  have hb2 : Below w1.heap.size w1 (w1.alloc (.cells #[.int .i64 liveT.kind, .int .i64 liveT.int, .string liveT.text, .slice an liveT.names.length cn, .slice ai liveT.items.length ci] 28)) := (Below.refl _ _).alloc (Nat.le_refl _) _
  obtain ⟨a0, a1, a2, a3, a4⟩ := cells5 w1 (.int .i64 liveT.kind) (.int .i64 liveT.int) (.string liveT.text) (.slice an liveT.names.length cn) (.slice ai liveT.items.length ci) 28
  have hB := below_trans hb1 hb2
  have hT2 := HT.out.below hB
  have hp := print_c liveT (by decide +kernel) _ _ _ (hr.below hb2) hT2
  have hjp : jprint liveT = ([123, 34, 97, 34, 58, 91, 49, 44, 45, 50, 44, 116, 114, 117, 101, 44, 34, 120, 34, 93, 125], 0) := by
    rw [jprint_ok live_chk (by rw [live_put]; decide), live_put]
  rw [hjp] at hp
  have HB := Lib.hid hB
  have HT2 := Lib.hid hT2
  clear h1 hr hb1 hb2 hB hT2 hjp HT
  go_wp2_with fail
  refine hp.mono ?_; rintro e w2 ⟨rfl, hb3⟩
  have h4 := parse_bad (s := ⟨#[91, 49, 46, 53, 93]⟩) live_fault w2 (HT2.out.below hb3)
  have HB3 := Lib.hid (below_trans HB.out hb3)
  clear hp HB HT2 hb3 a0 a1 a2 a3 a4
  go_wp2_with fail
  refine h4.mono ?_; rintro e w3 ⟨an2, cn2, ai2, ci2, rfl, hr4, hb4⟩
  have HB5 := Lib.hid ((below_trans HB3.out hb4).alloc (by have := HB3.out.size; have := hb4.size; omega) (.cells #[.int .i64 0, .int .i64 0, .string ⟨#[]⟩, .slice an2 0 cn2, .slice ai2 0 ci2] 28))
  clear h4 HB3 hr4 hb4
  go_wp2
  go_ret
  exact ⟨rfl, HB5.out⟩
end Go.Proofs.YtbkbokfegjodnaaDoor
