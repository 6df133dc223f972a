/- The walks of the document's Print and Size, of Size, of both Depths. Conditions: what a tree holds is at most 2 to the 40; what lies in the package-level variables. -/
import Derived.Test.YtbkbokfegjodnaaDoorRwrit
import Derived.Test.YtbkbokfegjodnaaDoorLivej
import Derived.Test.YtbkbokfegjodnaaDoorRefcheckw
namespace Go.Proofs.YtbkbokfegjodnaaDoor
open Go.RowKit
def jsize (t : JV) : Nat := if chk t 0 = 0 then (jput t).length else 0
theorem bat_string {w : World} {v : Value} {l : List UInt8} (h : BAt w v l) : (convert 63 9 v).run Tryd.prog w = .ok (.string ⟨l.toArray⟩) w := by
  obtain ⟨g, cap, rfl, hc⟩ := h
  refine run_convert_bytes_back w 63 9 5 ⟨g, 0, none⟩ cap l byTyK.slice byTyK.byte Tryd.underlying9 ?_
  intro j hj
  have e : (⟨g, 0, none⟩ : Addr).add j = ⟨g, j, none⟩ := by unfold Addr.add; split <;> simp_all
  rw [e]
  exact hc j _ (by simp [hj, byteV])
set_option maxRecDepth 20000 in
set_option maxHeartbeats 4000000 in
theorem refPrint_c (t : JV) (hbk : t.bulk ≤ 1099511627776) (cs : List Value) (w : World) (ok : Nat → Prop) (hr : Rep w ok t cs) :
    Calls Tryd.prog 24 #[.agg cs.toArray] w fun e w' => e = .returned (.tuple #[.string ⟨(jprint t).1.toArray⟩, .int .i64 (jprint t).2]) ∧ Below w.heap.size w w' := by
  obtain ⟨an, cn, ai, ci, rfl⟩ := hr.form
  have hb0 : Below w.heap.size w (w.alloc (.cells #[.int .i64 t.kind, .int .i64 t.int, .string t.text, .slice an t.names.length cn, .slice ai t.items.length ci] 28)) := (Below.refl _ _).alloc (Nat.le_refl _) _
  have h1 := refCheck_c t hbk _ _ ok (hr.below hb0)
  obtain ⟨a0, a1, a2, a3, a4⟩ := cells5 w (.int .i64 t.kind) (.int .i64 t.int) (.string t.text) (.slice an t.names.length cn) (.slice ai t.items.length ci) 28
  have HB0 := Lib.hid hb0
  have HR0 := Lib.hid (hr.below hb0)
  clear hr hb0
  go_enter Tryd.func24, Tryd.ntmps24
  go_wp2_with fail
  refine h1.mono ?_; rintro e w1 ⟨rfl, hb1⟩
  have HB1 := Lib.hid (below_trans HB0.out hb1)
  have HR1 := Lib.hid (HR0.out.below hb1)
  have e0 := cell_below hb1 a0
  have e1 := cell_below hb1 a1
  have e2 := cell_below hb1 a2
  have e3 := cell_below hb1 a3
  have e4 := cell_below hb1 a4
  clear h1 hb1 a0 a1 a2 a3 a4 HB0 HR0
  by_cases hc : chk t 0 = 0
  · have HC := Lib.hid hc
    have hwr := rwrit_all t.size t (Nat.le_refl _) (ok_chk t 0 hc) _ w1 ok HR1.out hbk
    have hlen := jput_len t (rep_okI t _ HR1.out)
    go_wp2_with fail
    refine hwr.mono ?_; rintro e w2 ⟨v, rfl, hv, hb2⟩
    have HB2 := Lib.hid (below_trans HB1.out hb2)
    have hcv := bat_string hv
    obtain ⟨g, cap, rfl, _⟩ := hv
    clear hwr hb2 HB1 HR1 e0 e1 e2 e3 e4
    by_cases hl : 65536 < (jput t).length
    · have hl2 : (65536 : Int) < ((jput t).length : Int) := by omega
      have HJ := Lib.hid (jprint_long HC.out hl)
      clear hcv
      go_wp2
      go_ret2
      exact ⟨by rw [HJ.out]; rfl, HB2.out⟩
    · have hl2 : ¬ (65536 : Int) < ((jput t).length : Int) := by omega
      have HJ := Lib.hid (jprint_ok HC.out hl)
      go_wp2
      go_ret2
      exact ⟨by rw [HJ.out]; rfl, HB2.out⟩
  · have HJ := Lib.hid hc
    have hne : (chk t 0 == 0) = false := by simpa using hc
    go_wp2
    go_ret2
    exact ⟨by rw [jprint_bad HJ.out]; rfl, HB1.out⟩
set_option maxRecDepth 20000 in
set_option maxHeartbeats 4000000 in
theorem refSize_c (t : JV) (hbk : t.bulk ≤ 1099511627776) (cs : List Value) (w : World) (ok : Nat → Prop) (hr : Rep w ok t cs) :
    Calls Tryd.prog 28 #[.agg cs.toArray] w fun e w' => e = .returned (.int .i64 (jsize t : Nat)) ∧ Below w.heap.size w w' := by
  obtain ⟨an, cn, ai, ci, rfl⟩ := hr.form
  have hb0 : Below w.heap.size w (w.alloc (.cells #[.int .i64 t.kind, .int .i64 t.int, .string t.text, .slice an t.names.length cn, .slice ai t.items.length ci] 28)) := (Below.refl _ _).alloc (Nat.le_refl _) _
  have h1 := refCheck_c t hbk _ _ ok (hr.below hb0)
  obtain ⟨a0, a1, a2, a3, a4⟩ := cells5 w (.int .i64 t.kind) (.int .i64 t.int) (.string t.text) (.slice an t.names.length cn) (.slice ai t.items.length ci) 28
  have HB0 := Lib.hid hb0
  have HR0 := Lib.hid (hr.below hb0)
  clear hr hb0
  go_enter Tryd.func28, Tryd.ntmps28
  go_wp2_with fail
  refine h1.mono ?_; rintro e w1 ⟨rfl, hb1⟩
  have HB1 := Lib.hid (below_trans HB0.out hb1)
  have HR1 := Lib.hid (HR0.out.below hb1)
  have e0 := cell_below hb1 a0
  have e1 := cell_below hb1 a1
  have e2 := cell_below hb1 a2
  have e3 := cell_below hb1 a3
  have e4 := cell_below hb1 a4
  clear h1 hb1 a0 a1 a2 a3 a4 HB0 HR0
  by_cases hc : chk t 0 = 0
  · have HC := Lib.hid hc
    have hwr := rwrit_all t.size t (Nat.le_refl _) (ok_chk t 0 hc) _ w1 ok HR1.out hbk
    have hlen := jput_len t (rep_okI t _ HR1.out)
    go_wp2_with fail
    refine hwr.mono ?_; rintro e w2 ⟨v, rfl, hv, hb2⟩
    have HB2 := Lib.hid (below_trans HB1.out hb2)
    obtain ⟨g, cap, rfl, _⟩ := hv
    clear hwr hb2 HB1 HR1 e0 e1 e2 e3 e4
    have HJ := Lib.hid (show jsize t = (jput t).length from if_pos HC.out)
    go_wp2
    go_ret
    exact ⟨by rw [HJ.out]; rfl, HB2.out⟩
  · have HJ := Lib.hid hc
    have hne : (chk t 0 == 0) = false := by simpa using hc
    have HS := Lib.hid (show jsize t = 0 from if_neg HJ.out)
    go_wp2
    go_ret
    exact ⟨by rw [HS.out]; rfl, HB1.out⟩
set_option maxRecDepth 20000 in
set_option maxHeartbeats 4000000 in
theorem size_c (t : JV) (hbk : t.bulk ≤ 1099511627776) (cs : List Value) (w : World) (ok : Nat → Prop) (hr : Rep w ok t cs) (hT : JTabs w) :
    Calls Tryd.prog 27 #[.agg cs.toArray] w fun e w' => e = .returned (.int .i64 (jsize t : Nat)) ∧ Below w.heap.size w w' := by
  obtain ⟨an, cn, ai, ci, rfl⟩ := hr.form
  have hb0 : Below w.heap.size w (w.alloc (.cells #[.int .i64 t.kind, .int .i64 t.int, .string t.text, .slice an t.names.length cn, .slice ai t.items.length ci] 28)) := (Below.refl _ _).alloc (Nat.le_refl _) _
  have h1 := check_c t hbk _ _ ok (hr.below hb0) (hT.below hb0).utf
  obtain ⟨a0, a1, a2, a3, a4⟩ := cells5 w (.int .i64 t.kind) (.int .i64 t.int) (.string t.text) (.slice an t.names.length cn) (.slice ai t.items.length ci) 28
  have HB0 := Lib.hid hb0
  have HR0 := Lib.hid (hr.below hb0)
  have HT0 := Lib.hid (hT.below hb0)
  clear hT hr hb0
  go_enter Tryd.func27, Tryd.ntmps27
  go_wp2_with fail
  refine h1.mono ?_; rintro e w1 ⟨rfl, hb1⟩
  have HB1 := Lib.hid (below_trans HB0.out hb1)
  have HR1 := Lib.hid (HR0.out.below hb1)
  have HT1 := Lib.hid (HT0.out.below hb1)
  have e0 := cell_below hb1 a0
  have e1 := cell_below hb1 a1
  have e2 := cell_below hb1 a2
  have e3 := cell_below hb1 a3
  have e4 := cell_below hb1 a4
  clear h1 hb1 a0 a1 a2 a3 a4 HB0 HR0 HT0
  by_cases hc : chk t 0 = 0
  · have HC := Lib.hid hc
    have hwr := writ_all t.size t (Nat.le_refl _) (ok_chk t 0 hc) (chk_okW t 0 hc) _ w1 w1.heap.size (.slice none 0 0) [] (Rep.kept (fun b hlt _ => ⟨hlt, rfl⟩) _ _ HR1.out) (buf_nil _ _ _) (Nat.le_refl _) HT1.out.tab (by simp only [List.length_nil]; omega)
    have hlen := jput_len t (rep_okI t _ HR1.out)
    go_wp2_with fail
    refine hwr.mono ?_; rintro e w2 ⟨v, rfl, hv, hk⟩
    have hb2 := hk.below
    rw [List.nil_append] at hv
    have HB2 := Lib.hid (below_trans HB1.out hb2)
    obtain ⟨A, cap, rfl⟩ := buf_form hv
    clear hwr hk hv hb2 HB1 HR1 HT1 e0 e1 e2 e3 e4
    have HJ := Lib.hid (show jsize t = (jput t).length from if_pos HC.out)
    go_wp2
    go_ret
    exact ⟨by rw [HJ.out]; rfl, HB2.out⟩
  · have HJ := Lib.hid hc
    have hne : (chk t 0 == 0) = false := by simpa using hc
    have HS := Lib.hid (show jsize t = 0 from if_neg HJ.out)
    go_wp2
    go_ret
    exact ⟨by rw [HS.out]; rfl, HB1.out⟩

mutual
def depthJ : JV → Nat
  | .mk _ _ _ _ is => depthL is
def depthL : List JV → Nat
  | [] => 0
  | t :: r => max (1 + depthJ t) (depthL r)
end
mutual
theorem depth_le : ∀ t : JV, depthJ t + 1 ≤ t.size
  | .mk k n s ns is => by have := depthL_le is; rw [depthJ, JV.size]; omega
theorem depthL_le : ∀ l : List JV, depthL l ≤ JV.sizes l
  | [] => by rw [depthL, JV.sizes]; exact Nat.le_refl _
  | t :: r => by have := depth_le t; have := depthL_le r; rw [depthL, JV.sizes]; omega
end
theorem depthL_snoc : ∀ (l : List JV) (t : JV), depthL (l ++ [t]) = max (depthL l) (1 + depthJ t)
  | [], t => by simp only [List.nil_append, depthL]; omega
  | u :: r, t => by have h := depthL_snoc r t; simp only [List.cons_append, depthL]; omega
mutual
theorem size_bulk : ∀ t : JV, t.size ≤ t.bulk
  | .mk k n s ns is => by have := sizes_bulk is; rw [JV.size, JV.bulk]; omega
theorem sizes_bulk : ∀ l : List JV, JV.sizes l ≤ JV.bulks l
  | [] => by rw [JV.sizes, JV.bulks]; exact Nat.le_refl _
  | t :: r => by have := size_bulk t; have := sizes_bulk r; rw [JV.sizes, JV.bulks]; omega
end
def DepSaid (m : Nat) : Prop := ∀ (t : JV), t.size ≤ m → t.bulk ≤ 1099511627776 → ∀ (cs : List Value) (w : World) (ok : Nat → Prop), Rep w ok t cs →
    Calls Tryd.prog 29 #[.agg cs.toArray] w fun e w' => e = .returned (.int .i64 (depthJ t : Nat)) ∧ Below w.heap.size w w'
set_option maxRecDepth 20000 in
set_option maxHeartbeats 4000000 in
theorem depth_step (m : Nat) (ih : DepSaid m) : DepSaid (m + 1) := by
  intro t hm hbk cs w ok hr
  cases t with
  | mk k n s ns is =>
  rw [rep_mk] at hr
  obtain ⟨_, _, _, an, cn, ai, ci, rfl, hcn, hci, _, hit⟩ := hr
  unfold maxLen at hcn hci
  obtain ⟨a0, a1, a2, a3, a4⟩ := cells5 w (.int .i64 k) (.int .i64 n) (.string s) (.slice an ns.length cn) (.slice ai is.length ci) 28
  have hb0 : Below w.heap.size w (w.alloc (.cells #[.int .i64 k, .int .i64 n, .string s, .slice an ns.length cn, .slice ai is.length ci] 28)) := (Below.refl _ _).alloc (Nat.le_refl _) _
  rw [JV.bulk] at hbk
  have IH := Lib.hid ih
  have HIT := Lib.hid (hit.below hb0)
  have HB0 := Lib.hid hb0
  have HE := Lib.hid (show depthJ (.mk k n s ns is) = depthL is by rw [depthJ])
  clear ih hit hb0
  go_enter Tryd.func29, Tryd.ntmps29
  go_wp2
  go_loopg [3, 9] (is.length + 1) (fun gk d i wr => ∃ j : Nat, j ≤ is.length ∧ is.length - j < gk ∧ i = .int .i64 j ∧ d = .int .i64 (depthL (is.take j) : Nat) ∧ Hid (Below (World.heap (w.alloc (.cells #[.int .i64 k, .int .i64 n, .string s, .slice an ns.length cn, .slice ai is.length ci] 28))).size (w.alloc (.cells #[.int .i64 k, .int .i64 n, .string s, .slice an ns.length cn, .slice ai is.length ci] 28)) wr))
  case atStart => exact ⟨0, by omega, by omega, rfl, rfl, Lib.hid (Below.refl _ _)⟩
  case round =>
    obtain ⟨j, hj, hgk, rfl, rfl, HB⟩ := hrel
    have c4 := cell_below HB.out a4
    by_cases hlt : j < is.length
    · rcases HIT.out.below HB.out with rfl | ⟨b, off, rfl, _, hall⟩
      · simp at hlt
      obtain ⟨cs, hrj, hlj⟩ := hall.at j hlt
      have hszj : is[j].size ≤ m := by have h1 := JV.size_le (List.getElem_mem hlt); rw [JV.size] at hm; omega
      have hbj : is[j].bulk ≤ 1099511627776 := by have h1 := JV.bulk_le (List.getElem_mem hlt); omega
      have hsn : depthL (is.take (j + 1)) = max (depthL (is.take j)) (1 + depthJ is[j]) := by rw [List.take_succ_eq_append_getElem hlt, depthL_snoc]
      have hdj := depth_le is[j]
      have hsj := size_bulk is[j]
      have hpl : depthL (is.take j) ≤ 1099511627776 := by
        have h1 := depthL_le (is.take j)
        have h2 := sizes_bulk (is.take j)
        have h3 := bulks_take is j hlt
        omega
      have HSN := Lib.hid hsn
      obtain ⟨xan, xcn, xai, xci, rfl⟩ := hrj.form
      obtain ⟨l0, l1, l2, l3, l4⟩ := lie5 hlj
      generalize is[j] = x at *
      generalize depthL (is.take j) = dp at *
      have hbA : Below wr.heap.size wr (wr.alloc (.cells #[.int .i64 x.kind, .int .i64 x.int, .string x.text, .slice xan x.names.length xcn, .slice xai x.items.length xci] 28)) := (Below.refl _ _).alloc (Nat.le_refl _) _
      obtain ⟨x0, x1, x2, x3, x4⟩ := cells5 wr (.int .i64 x.kind) (.int .i64 x.int) (.string x.text) (.slice xan x.names.length xcn) (.slice xai x.items.length xci) 28
      have hc := IH.out x hszj hbj _ (wr.alloc (.cells #[.int .i64 x.kind, .int .i64 x.int, .string x.text, .slice xan x.names.length xcn, .slice xai x.items.length xci] 28)) ok (hrj.below hbA)
      have HBA := Lib.hid hbA
      clear hlj hall hrj hbA
      go_wp2_with fail
      refine hc.mono ?_; rintro e w1 ⟨rfl, hb1'⟩
      have hb1 := below_trans HBA.out hb1'
      clear hb1' HBA x0 x1 x2 x3 x4
      have HB2 := Lib.hid (HB.out.trans (hb1.mono HB.out.size))
      clear hc hb1 l0 l1 l2 l3 l4 c4 HB
      generalize depthJ x = dx at *
      by_cases hmx : dp < 1 + dx
      · have hmx2 : (dp : Int) < 1 + (dx : Int) := by omega
        have hmx3 : max (dp : Int) (1 + (dx : Int)) = 1 + (dx : Int) := by omega
        have HQ := Lib.hid (HSN.out.trans (show max dp (1 + dx) = 1 + dx by omega))
        go_wp2
        go_roundg (gk - 1)
        all_goals first | omega | exact ⟨j + 1, hlt, by omega, by go_num, by rw [HQ.out]; rfl, HB2⟩
      · have hmx2 : ¬ (dp : Int) < 1 + (dx : Int) := by omega
        have hmx3 : max (dp : Int) (1 + (dx : Int)) = (dp : Int) := by omega
        have HQ := Lib.hid (HSN.out.trans (show max dp (1 + dx) = dp by omega))
        go_wp2
        go_roundg (gk - 1)
        all_goals first | omega | exact ⟨j + 1, hlt, by omega, by go_num, by rw [HQ.out], HB2⟩
    · obtain rfl : j = is.length := by omega
      have HQ := Lib.hid (show depthL (is.take is.length) = depthL is by rw [List.take_length])
      go_wp2
      go_ret
      exact ⟨by rw [HE.out, ← HQ.out]; rfl, HB0.out.trans (HB.out.mono HB0.out.size)⟩
theorem depth_all (m : Nat) : DepSaid m := by
  induction m with
  | zero => intro t hm; have := JV.size_pos t; omega
  | succ m ih => exact depth_step m ih
theorem depth_c (t : JV) (hbk : t.bulk ≤ 1099511627776) (cs : List Value) (w : World) (ok : Nat → Prop) (hr : Rep w ok t cs) :
    Calls Tryd.prog 29 #[.agg cs.toArray] w fun e w' => e = .returned (.int .i64 (depthJ t : Nat)) ∧ Below w.heap.size w w' := depth_all t.size t (Nat.le_refl _) hbk cs w ok hr
def RDepSaid (m : Nat) : Prop := ∀ (t : JV), t.size ≤ m → t.bulk ≤ 1099511627776 → ∀ (cs : List Value) (w : World) (ok : Nat → Prop), Rep w ok t cs →
    Calls Tryd.prog 30 #[.agg cs.toArray] w fun e w' => e = .returned (.int .i64 (depthJ t : Nat)) ∧ Below w.heap.size w w'
set_option maxRecDepth 20000 in
set_option maxHeartbeats 4000000 in
theorem refDepth_step (m : Nat) (ih : RDepSaid m) : RDepSaid (m + 1) := by
  intro t hm hbk cs w ok hr
  cases t with
  | mk k n s ns is =>
  rw [rep_mk] at hr
  obtain ⟨_, _, _, an, cn, ai, ci, rfl, hcn, hci, _, hit⟩ := hr
  unfold maxLen at hcn hci
  obtain ⟨a0, a1, a2, a3, a4⟩ := cells5 w (.int .i64 k) (.int .i64 n) (.string s) (.slice an ns.length cn) (.slice ai is.length ci) 28
  have hb0 : Below w.heap.size w (w.alloc (.cells #[.int .i64 k, .int .i64 n, .string s, .slice an ns.length cn, .slice ai is.length ci] 28)) := (Below.refl _ _).alloc (Nat.le_refl _) _
  rw [JV.bulk] at hbk
  have IH := Lib.hid ih
  have HIT := Lib.hid (hit.below hb0)
  have HB0 := Lib.hid hb0
  have HE := Lib.hid (show depthJ (.mk k n s ns is) = depthL is by rw [depthJ])
  clear ih hit hb0
  go_enter Tryd.func30, Tryd.ntmps30
  go_wp2
  go_loopg [3, 4] (is.length + 1) (fun gk d i wr => ∃ j : Nat, j ≤ is.length ∧ is.length - j < gk ∧ i = .int .i64 j ∧ d = .int .i64 (depthL (is.take j) : Nat) ∧ Hid (Below (World.heap (w.alloc (.cells #[.int .i64 k, .int .i64 n, .string s, .slice an ns.length cn, .slice ai is.length ci] 28))).size (w.alloc (.cells #[.int .i64 k, .int .i64 n, .string s, .slice an ns.length cn, .slice ai is.length ci] 28)) wr))
  case atStart => exact ⟨0, by omega, by omega, rfl, rfl, Lib.hid (Below.refl _ _)⟩
  case round =>
    obtain ⟨j, hj, hgk, rfl, rfl, HB⟩ := hrel
    have c4 := cell_below HB.out a4
    by_cases hlt : j < is.length
    · rcases HIT.out.below HB.out with rfl | ⟨b, off, rfl, _, hall⟩
      · simp at hlt
      obtain ⟨cs, hrj, hlj⟩ := hall.at j hlt
      have hszj : is[j].size ≤ m := by have h1 := JV.size_le (List.getElem_mem hlt); rw [JV.size] at hm; omega
      have hbj : is[j].bulk ≤ 1099511627776 := by have h1 := JV.bulk_le (List.getElem_mem hlt); omega
      have hsn : depthL (is.take (j + 1)) = max (depthL (is.take j)) (1 + depthJ is[j]) := by rw [List.take_succ_eq_append_getElem hlt, depthL_snoc]
      have hdj := depth_le is[j]
      have hsj := size_bulk is[j]
      have hpl : depthL (is.take j) ≤ 1099511627776 := by
        have h1 := depthL_le (is.take j)
        have h2 := sizes_bulk (is.take j)
        have h3 := bulks_take is j hlt
        omega
      have HSN := Lib.hid hsn
      obtain ⟨xan, xcn, xai, xci, rfl⟩ := hrj.form
      obtain ⟨l0, l1, l2, l3, l4⟩ := lie5 hlj
      generalize is[j] = x at *
      generalize depthL (is.take j) = dp at *
      have hc := IH.out x hszj hbj _ wr ok hrj
      clear hlj hall hrj
      go_wp2_with fail
      refine hc.mono ?_; rintro e w1 ⟨rfl, hb1⟩
      have HB2 := Lib.hid (HB.out.trans (hb1.mono HB.out.size))
      clear hc hb1 l0 l1 l2 l3 l4 c4 HB
      generalize depthJ x = dx at *
      by_cases hmx : dp < 1 + dx
      · have hmx2 : (dp : Int) < 1 + (dx : Int) := by omega
        have hmx3 : max (dp : Int) (1 + (dx : Int)) = 1 + (dx : Int) := by omega
        have HQ := Lib.hid (HSN.out.trans (show max dp (1 + dx) = 1 + dx by omega))
        go_wp2
        go_roundg (gk - 1)
        all_goals first | omega | exact ⟨j + 1, hlt, by omega, by go_num, by rw [HQ.out]; rfl, HB2⟩
      · have hmx2 : ¬ (dp : Int) < 1 + (dx : Int) := by omega
        have hmx3 : max (dp : Int) (1 + (dx : Int)) = (dp : Int) := by omega
        have HQ := Lib.hid (HSN.out.trans (show max dp (1 + dx) = dp by omega))
        go_wp2
        go_roundg (gk - 1)
        all_goals first | omega | exact ⟨j + 1, hlt, by omega, by go_num, by rw [HQ.out], HB2⟩
    · obtain rfl : j = is.length := by omega
      have HQ := Lib.hid (show depthL (is.take is.length) = depthL is by rw [List.take_length])
      go_wp2
      go_ret
      exact ⟨by rw [HE.out, ← HQ.out]; rfl, HB0.out.trans (HB.out.mono HB0.out.size)⟩
theorem refDepth_all (m : Nat) : RDepSaid m := by
  induction m with
  | zero => intro t hm; have := JV.size_pos t; omega
  | succ m ih => exact refDepth_step m ih
theorem refDepth_c (t : JV) (hbk : t.bulk ≤ 1099511627776) (cs : List Value) (w : World) (ok : Nat → Prop) (hr : Rep w ok t cs) :
    Calls Tryd.prog 30 #[.agg cs.toArray] w fun e w' => e = .returned (.int .i64 (depthJ t : Nat)) ∧ Below w.heap.size w w' := refDepth_all t.size t (Nat.le_refl _) hbk cs w ok hr
end Go.Proofs.YtbkbokfegjodnaaDoor
