/- The rules that are kept or not. Conditions: what the laws name. -/
import Derived.Test.YtnmojmmgkipjcaaGreatDoorRulea
import Derived.Test.YtnmojmmgkipjcaaGreatDoorEquw
import Derived.Test.YtnmojmmgkipjcaaGreatDoorMakerb
import Derived.Test.YtnmojmmgkipjcaaGreatDoorSdoc
import Derived.Test.YtnmojmmgkipjcaaGreatDoorReada
namespace Go.Proofs.YtnmojmmgkipjcaaGreatDoor
open Go.RowKit
/-- a closure that says whether a rule is kept -/
def KPost (w : World) (b : Bool) (e : Ending) (w' : World) : Prop := e = .returned (.bool b) ∧ Below w.heap.size w w'
theorem contains_ints {w : World} {ok : Nat → Prop} {a : Option Addr} {l : List Int} (h : IntsL w ok a l) (hl : l.length ≤ 9223372036854775807) (c : Nat) (x : Int) :
    Calls Tryz.prog 64 #[.slice a l.length c, .int .i64 x] w fun e w' => e = .returned (.bool (l.contains x)) ∧ w' = w := by
  rcases h with rfl | ⟨b, off, rfl, _, h⟩
  · exact (Tryz.slices_Contains_int_empty a c x w).mono fun e w' ⟨h1, h2⟩ => ⟨h1, h2⟩
  · refine (Tryz.slices_Contains_int b off l.length c l x w (Nat.le_refl _) hl (fun j hj => h j _ (by simp [List.getD, hj]))).mono ?_
    rintro e w' ⟨rfl, rfl⟩
    rw [List.take_length]
    exact ⟨rfl, rfl⟩
set_option maxHeartbeats 4000000 in
theorem keptType_c (x kn v : JV) (hbk : x.bulk ≤ 1099511627776) (vs : List Value) (w : World) (ok okv : Nat → Prop) (X : Nat) (a : Option Addr) (c : Nat) (hx : CellAt w ok X (.slice a ((typeL x).flatMap kindsJ).length c) 101) (hi : IntsL w ok a ((typeL x).flatMap kindsJ)) (hr : Rep w okv v vs) :
    Calls Tryz.prog 63 #[.agg vs.toArray, .pointer (some ⟨X, 0, none⟩)] w (KPost w (leafKept ⟨#[116, 121, 112, 101]⟩ x kn v)) := by
  obtain ⟨an, cn, ai, ci, rfl⟩ := hr.form
  obtain ⟨a0, a1, a2, a3, a4⟩ := cells5 w (.int .i64 v.kind) (.int .i64 v.int) (.string v.text) (.slice an v.names.length cn) (.slice ai v.items.length ci) 25
  have hb : Below w.heap.size w (w.alloc (.cells #[.int .i64 v.kind, .int .i64 v.int, .string v.text, .slice an v.names.length cn, .slice ai v.items.length ci] 25)) := (Below.refl _ _).alloc (Nat.le_refl _) _
  have HB := Lib.hid hb
  have HV := Lib.hid (show leafKept ⟨#[116, 121, 112, 101]⟩ x kn v = ((typeL x).flatMap kindsJ).contains v.kind by unfold leafKept; rw [if_pos rfl])
  have hll : ((typeL x).flatMap kindsJ).length ≤ 9223372036854775807 := by
    have h1 := flat_len (typeL x)
    have h2 : (typeL x).length ≤ 1099511627776 := by
      obtain ⟨k, i, s, ns, is⟩ := x
      have h3 := len_bulk hbk
      unfold typeL
      split
      · exact h3
      · simp
    omega
  have HC := Lib.hid (contains_ints (hi.kept (w' := w.alloc (.cells #[.int .i64 v.kind, .int .i64 v.int, .string v.text, .slice an v.names.length cn, .slice ai v.items.length ci] 25)) (fun b hlt ho => ⟨ho, hb.block b hlt⟩)) hll c v.kind)
  have m0 := cell_of_row w _ 0 _ _ _ hx.2
  simp only [List.getElem?_toArray, List.getElem?_cons_zero] at m0
  have hXl := cell_lt m0
  simp only at hXl
  clear hx hi hr hb hll
  generalize (typeL x).flatMap kindsJ = L at *
  generalize L.contains v.kind = bb at *
  go_enter Tryz.func63, Tryz.ntmps63
  go_wp2_with (go_at_call 64; refine HC.out.mono ?_; rintro e w' ⟨rfl, hw⟩; subst hw)
  go_ret
  exact ⟨by rw [HV.out]; rfl, HB.out⟩
set_option maxHeartbeats 4000000 in
theorem enumOne_c (x v : JV) (cs : List Value) (w : World) (ok okv : Nat → Prop) (V : Nat) (hr : Rep w ok x cs) (hv : BoxAt w okv V v) :
    Calls Tryz.prog 67 #[.agg cs.toArray, .pointer (some ⟨V, 0, none⟩)] w (KPost w (same x v)) := by
  obtain ⟨_, ds, h1, h2⟩ := hv
  have hr0 := hr
  have h20 := h2
  obtain ⟨an, cn, ai, ci, rfl⟩ := hr.form
  obtain ⟨bn, dn, bi, di, rfl⟩ := h2.form
  obtain ⟨⟨z0, z1, z2, z3, z4⟩, _⟩ := cellsOf5 h1
  have hVl := (Array.getElem?_eq_some_iff.1 h1).1
  obtain ⟨a0, a1, a2, a3, a4⟩ := cells5 w (.int .i64 x.kind) (.int .i64 x.int) (.string x.text) (.slice an x.names.length cn) (.slice ai x.items.length ci) 25
  have hb : Below w.heap.size w (w.alloc (.cells #[.int .i64 x.kind, .int .i64 x.int, .string x.text, .slice an x.names.length cn, .slice ai x.items.length ci] 25)) := (Below.refl _ _).alloc (Nat.le_refl _) _
  have HB := Lib.hid hb
  have HE := Lib.hid (equ_c x v _ _ _ ok okv (hr0.below hb) (h20.below hb))
  clear hr hr0 h2 h20 h1 hb
  go_enter Tryz.func67, Tryz.ntmps67
  go_wp2_with (go_at_call 68; refine HE.out.mono ?_; rintro e w1 ⟨rfl, hb1⟩; have HB1 := Lib.hid (HB.out.trans (hb1.mono HB.out.size)); clear hb1)
  go_ret
  exact ⟨rfl, HB1.out⟩
/-- the first that is the same -/
def firstSame (v : JV) : List JV → Nat → Int
  | [], _ => -1
  | u :: r, i => if same u v = true then (i : Int) else firstSame v r (i + 1)
theorem firstSame_any (v : JV) : ∀ (l : List JV) (i : Nat), decide (0 ≤ firstSame v l i) = l.any (fun y => same y v)
  | [], i => by simp [firstSame]
  | u :: r, i => by
    rw [firstSame, List.any_cons]
    by_cases h : same u v = true
    · rw [if_pos h, h]; simp
    · rw [if_neg h, firstSame_any v r (i + 1)]; simp [h]
set_option maxRecDepth 20000 in
set_option maxHeartbeats 4000000 in
theorem enumIndex_c (v : JV) (is : List JV) (hl : is.length ≤ 9223372036854775807) (w : World) (ok okv : Nat → Prop) (V : Nat) (ai : Option Addr) (ci : Nat) (hit : ItemsAt w ok ai is) (hv : BoxAt w okv V v) :
    Calls Tryz.prog 85 #[.slice ai is.length ci, .func (.func 67) #[] #[.pointer (some ⟨V, 0, none⟩)]] w fun e w' => e = .returned (.int .i64 (firstSame v is 0)) ∧ Below w.heap.size w w' := by
  have HIT := Lib.hid hit
  have HV := Lib.hid hv
  clear hit hv
  obtain ⟨res, hres⟩ : ∃ res, firstSame v is 0 = res := ⟨_, rfl⟩
  rw [hres]
  have HR := Lib.hid hres
  clear hres
  go_enter Tryz.func85, Tryz.ntmps85
  go_wp2
  go_loopw [8] (fun q wr => ∃ j : Nat, j ≤ is.length ∧ q = .int .i64 j ∧ Hid (firstSame v (is.drop j) j = res) ∧ Hid (Below w.heap.size w wr)) (fun q _ => is.length - (intOf q).toNat)
  case atStart => exact ⟨0, Nat.zero_le _, rfl, HR, Lib.hid (Below.refl _ _)⟩
  case round =>
    obtain ⟨j, hj, rfl, HQ, HBL⟩ := hrel
    by_cases hlt : j < is.length
    · obtain ⟨b2, off2, an2, cn2, ai2, ci2, rfl, hrj, hlj⟩ := (HIT.out.below HBL.out).at j hlt
      obtain ⟨l0, l1, l2, l3, l4⟩ := lie5 hlj
      have HO := Lib.hid (enumOne_c is[j] v _ wr _ _ V hrj (HV.out.kept (fun b hlt ho => ⟨ho, HBL.out.block b hlt⟩)))
      have HQ2 := Lib.hid (show (if same is[j] v = true then (j : Int) else firstSame v (is.drop (j + 1)) (j + 1)) = res by rw [← HQ.out, List.drop_eq_getElem_cons hlt, firstSame])
      clear hrj hlj HQ
      generalize is[j] = y at *
      by_cases hs : same y v = true
      · rw [hs] at HO
        have HQ3 := Lib.hid (show (j : Int) = res by rw [← HQ2.out, if_pos hs])
        clear hs HQ2
        go_wp2_with fail
        refine HO.out.mono ?_; rintro e w1 ⟨rfl, hb1⟩
        have HB1 := Lib.hid (HBL.out.trans (hb1.mono HBL.out.size))
        clear hb1 l0 l1 l2 l3 l4
        go_wp2
        go_ret
        exact ⟨ret_int HQ3.out, HB1.out⟩
      · have hs' : same y v = false := by simpa using hs
        rw [hs'] at HO
        have HQ3 := Lib.hid (show firstSame v (is.drop (j + 1)) (j + 1) = res by rw [← HQ2.out, if_neg hs])
        clear hs hs' HQ2
        go_wp2_with fail
        refine HO.out.mono ?_; rintro e w1 ⟨rfl, hb1⟩
        have HB1 := Lib.hid (HBL.out.trans (hb1.mono HBL.out.size))
        clear hb1 l0 l1 l2 l3 l4
        go_wp2
        go_roundw
        case rel => exact ⟨j + 1, by omega, by go_num, HQ3, HB1⟩
        case measure => simp [intOf]; omega
    · obtain rfl : j = is.length := by omega
      have HQ3 := Lib.hid (show (-1 : Int) = res by rw [← HQ.out, List.drop_length, firstSame])
      go_wp2
      go_ret
      exact ⟨ret_int HQ3.out, HBL.out⟩
set_option maxHeartbeats 4000000 in
theorem enumContains_c (v : JV) (is : List JV) (hl : is.length ≤ 9223372036854775807) (w : World) (ok okv : Nat → Prop) (V : Nat) (ai : Option Addr) (ci : Nat) (hit : ItemsAt w ok ai is) (hv : BoxAt w okv V v) :
    Calls Tryz.prog 66 #[.slice ai is.length ci, .func (.func 67) #[] #[.pointer (some ⟨V, 0, none⟩)]] w (KPost w (is.any (fun y => same y v))) := by
  have HI := Lib.hid (enumIndex_c v is hl w ok okv V ai ci hit hv)
  have HV := Lib.hid (firstSame_any v is 0)
  clear hit hv
  generalize firstSame v is 0 = z at *
  generalize is.any (fun y => same y v) = bb at *
  go_enter Tryz.func66, Tryz.ntmps66
  go_wp2_with fail
  refine HI.out.mono ?_; rintro e w1 ⟨rfl, hb1⟩
  have HB1 := Lib.hid hb1
  clear hb1
  go_wp2
  go_ret
  exact ⟨ret_bool HV.out, HB1.out⟩
set_option maxRecDepth 20000 in
set_option maxHeartbeats 4000000 in
theorem keptEnum_c (x kn v : JV) (vs : List Value) (w : World) (ok okv : Nat → Prop) (X : Nat) (hx : BoxAt w ok X x) (hr : Rep w okv v vs) :
    Calls Tryz.prog 65 #[.agg vs.toArray, .pointer (some ⟨X, 0, none⟩)] w (KPost w (leafKept ⟨#[101, 110, 117, 109]⟩ x kn v)) := by
  obtain ⟨_, cs, h1, h2⟩ := hx
  have hr0 := hr
  obtain ⟨k, i, s, ns, is⟩ := x
  rw [rep_mk] at h2
  obtain ⟨_, _, _, bn, dn, bi, di, rfl, _, hci, _, hit⟩ := h2
  unfold maxLen at hci
  obtain ⟨an, cn, ai, ci, rfl⟩ := hr.form
  obtain ⟨⟨z0, z1, z2, z3, z4⟩, _⟩ := cellsOf5 h1
  have hXl := (Array.getElem?_eq_some_iff.1 h1).1
  have hb : Below w.heap.size w (w.alloc (.cells #[.int .i64 v.kind, .int .i64 v.int, .string v.text, .slice an v.names.length cn, .slice ai v.items.length ci] 25)) := (Below.refl _ _).alloc (Nat.le_refl _) _
  have HB := Lib.hid hb
  have HV := Lib.hid (show leafKept ⟨#[101, 110, 117, 109]⟩ (.mk k i s ns is) kn v = is.any (fun y => same y v) by unfold leafKept; rw [if_neg (by decide), if_pos rfl]; rfl)
  have HI := Lib.hid (enumContains_c v is (by omega) _ ok (fun b => okv b ∨ w.heap.size ≤ b) w.heap.size bi di (hit.below hb) (show BoxAt (w.alloc (.cells #[.int .i64 v.kind, .int .i64 v.int, .string v.text, .slice an v.names.length cn, .slice ai v.items.length ci] 25)) (fun b => okv b ∨ w.heap.size ≤ b) w.heap.size v from ⟨.inr (Nat.le_refl _), _, heap_alloc_new w _, Rep.kept (fun b hlt ho => ⟨.inl ho, hb.block b hlt⟩) _ _ hr0⟩))
  have hmf : ∀ (fn : Fn) (first cap : Array Value) (w : World), (Instr.makeFunc fn first cap).run Tryz.prog w = .ok (.func fn first cap) w := fun _ _ _ _ => rfl
  clear h1 hit hr hr0 hb
  generalize is.any (fun y => same y v) = bb at *
  go_enter Tryz.func65, Tryz.ntmps65
  go_wp2_with fail
  refine HI.out.mono ?_; rintro e w1 ⟨rfl, hb1⟩
  have HB1 := Lib.hid (HB.out.trans (hb1.mono HB.out.size))
  clear hb1
  go_wp2
  go_ret
  exact ⟨by rw [HV.out]; rfl, HB1.out⟩
set_option maxHeartbeats 4000000 in
theorem members_c (v : JV) (vs : List Value) (w : World) (okv : Nat → Prop) (hr : Rep w okv v vs) : Calls Tryz.prog 71 #[.agg vs.toArray] w fun e w' => e = .returned (.int .i64 (membersJ v : Int)) ∧ Below w.heap.size w w' := by
  obtain ⟨an, cn, ai, ci, rfl⟩ := hr.form
  have hlen : v.names.length ≤ 9223372036854775807 ∧ v.items.length ≤ 9223372036854775807 := by
    obtain ⟨k, i, s, ns, is⟩ := v
    rw [rep_mk] at hr
    obtain ⟨_, _, _, _, _, _, _, _, hcn, hci, _⟩ := hr
    unfold maxLen at hcn hci
    simp only [JV.items, JV.names]
    omega
  obtain ⟨hl0, hl1⟩ := hlen
  have HB := Lib.hid (show Below w.heap.size w (w.alloc (.cells #[.int .i64 v.kind, .int .i64 v.int, .string v.text, .slice an v.names.length cn, .slice ai v.items.length ci] 25)) from (Below.refl _ _).alloc (Nat.le_refl _) _)
  clear hr
  by_cases h6 : v.kind = 6
  · have HM := Lib.hid (show membersJ v = min v.names.length v.items.length from if_pos h6)
    have e6 : (v.kind != 6) = false := by simp [h6]
    clear h6
    generalize v.names.length = p at *
    generalize v.items.length = q at *
    by_cases hpq : p ≤ q
    · have HM2 := Lib.hid (HM.out.trans (Nat.min_eq_left hpq))
      have hpq2 : (p : Int) ≤ (q : Int) := by omega
      clear HM
      go_enter Tryz.func71, Tryz.ntmps71
      go_wp2
      go_ret
      exact ⟨by rw [HM2.out]; first | rfl | (simp; omega), HB.out⟩
    · have HM2 := Lib.hid (HM.out.trans (Nat.min_eq_right (by omega)))
      have hpq2 : ¬ (p : Int) ≤ (q : Int) := by omega
      clear HM
      go_enter Tryz.func71, Tryz.ntmps71
      go_wp2
      go_ret
      exact ⟨by rw [HM2.out]; first | rfl | (simp; omega), HB.out⟩
  · have HM := Lib.hid (show membersJ v = 0 from if_neg h6)
    have e6 : (v.kind != 6) = true := by simp [h6]
    clear h6
    go_enter Tryz.func71, Tryz.ntmps71
    go_wp2
    go_ret
    exact ⟨by rw [HM.out]; rfl, HB.out⟩
end Go.Proofs.YtnmojmmgkipjcaaGreatDoor
namespace Go.Proofs.YtnmojmmgkipjcaaGreatDoor
open Go.RowKit
theorem contains_names {w : World} {ok : Nat → Prop} {a : Option Addr} {ns : List ByteArray} (h : StrsAt w ok a ns) (m : Nat) (hm : m ≤ ns.length) (hl : ns.length ≤ 9223372036854775807) (c : Nat) (x : ByteArray) :
    Calls Tryz.prog 70 #[.slice a m c, .string x] w fun e w' => e = .returned (.bool (Lib.containsS (ns.take m) x)) ∧ w' = w := by
  rcases h with rfl | ⟨b, off, rfl, _, h⟩
  · obtain rfl : m = 0 := by simpa using hm
    exact Tryz.slices_Contains_string_empty a c x w
  · exact Tryz.slices_Contains_string b off m c ns x w hm (by omega) (fun j hj => h j _ (by simp [List.getD, hj]))
def reqOk (v : JV) (s : ByteArray) : Bool := !decide (v.kind = 6) || Lib.containsS (v.names.take (membersJ v)) s
theorem members_le (v : JV) : membersJ v ≤ v.names.length ∧ membersJ v ≤ v.items.length := by
  unfold membersJ
  split
  · exact ⟨Nat.min_le_left _ _, Nat.min_le_right _ _⟩
  · exact ⟨Nat.zero_le _, Nat.zero_le _⟩
set_option maxRecDepth 20000 in
set_option maxHeartbeats 8000000 in
theorem keptRequired_c (x kn v : JV) (vs : List Value) (w : World) (ok okv : Nat → Prop) (X : Nat) (hx : BoxAt w ok X x) (hr : Rep w okv v vs) :
    Calls Tryz.prog 69 #[.agg vs.toArray, .pointer (some ⟨X, 0, none⟩)] w (KPost w (leafKept ⟨#[114, 101, 113, 117, 105, 114, 101, 100]⟩ x kn v)) := by
  obtain ⟨_, cs, h1, h2⟩ := hx
  have hr0 := hr
  obtain ⟨k, i, s, ns, is⟩ := x
  rw [rep_mk] at h2
  obtain ⟨_, _, _, bn, dn, bi, di, rfl, _, hci, _, hit⟩ := h2
  unfold maxLen at hci
  obtain ⟨kv, iv, sv, nsv, isv⟩ := v
  rw [rep_mk] at hr
  obtain ⟨_, _, _, an, cn, ai, ci, rfl, hcn, hci2, hst, _⟩ := hr
  unfold maxLen at hcn hci2
  have hml := (members_le (.mk kv iv sv nsv isv)).1
  simp only [JV.names] at hml
  obtain ⟨⟨z0, z1, z2, z3, z4⟩, _⟩ := cellsOf5 h1
  have hXl := (Array.getElem?_eq_some_iff.1 h1).1
  have hb : Below w.heap.size w (w.alloc (.cells #[.int .i64 kv, .int .i64 iv, .string sv, .slice an nsv.length cn, .slice ai isv.length ci] 25)) := (Below.refl _ _).alloc (Nat.le_refl _) _
  have HB := Lib.hid hb
  have HV := Lib.hid (show leafKept ⟨#[114, 101, 113, 117, 105, 114, 101, 100]⟩ (.mk k i s ns is) kn (.mk kv iv sv nsv isv) = is.all (fun y => reqOk (.mk kv iv sv nsv isv) y.text) by unfold leafKept; rw [if_neg (by decide), if_neg (by decide), if_pos rfl]; rfl)
  have HIT := Lib.hid (hit.below hb)
  have HST := Lib.hid (hst.below hb)
  have HRV := Lib.hid (hr0.below hb)
  have HX := Lib.hid (heap_alloc_new w (.cells #[.int .i64 kv, .int .i64 iv, .string sv, .slice an nsv.length cn, .slice ai isv.length ci] 25))
  have hX1 : w.heap.size < (w.alloc (.cells #[.int .i64 kv, .int .i64 iv, .string sv, .slice an nsv.length cn, .slice ai isv.length ci] 25)).heap.size := by simp
  clear h1 hit hr0 hb hst
  go_enter Tryz.func69, Tryz.ntmps69
  go_wp2
  generalize hW0 : w.alloc (.cells #[.int .i64 kv, .int .i64 iv, .string sv, .slice an nsv.length cn, .slice ai isv.length ci] 25) = W0 at *
  clear hW0 z0 z1 z2 z3 z4
  go_loopw [9] (fun q wr => ∃ j : Nat, j ≤ is.length ∧ q = .int .i64 j ∧ Hid (is.all (fun y => reqOk (.mk kv iv sv nsv isv) y.text) = (is.drop j).all (fun y => reqOk (.mk kv iv sv nsv isv) y.text)) ∧ Hid (Below W0.heap.size W0 wr)) (fun q _ => is.length - (intOf q).toNat)
  case atStart => exact ⟨0, Nat.zero_le _, rfl, Lib.hid rfl, Lib.hid (Below.refl _ _)⟩
  case round =>
    obtain ⟨j, hj, rfl, HQ, HBL⟩ := hrel
    by_cases hlt : j < is.length
    · obtain ⟨b2, off2, an2, cn2, ai2, ci2, rfl, hrj, hlj⟩ := (HIT.out.below HBL.out).at j hlt
      obtain ⟨l0, l1, l2, l3, l4⟩ := lie5 hlj
      have hb2l := cell_lt l0
      simp only at hb2l
      have hs1 := HBL.out.size
      have hwr : w.heap.size < wr.heap.size := by omega
      obtain ⟨⟨v0, v1, v2, v3, v4⟩, _⟩ := cellsOf5 ((HBL.out.block w.heap.size hX1).trans HX.out)
      have HQ2 := Lib.hid (show is.all (fun y => reqOk (.mk kv iv sv nsv isv) y.text) = (reqOk (.mk kv iv sv nsv isv) is[j].text && (is.drop (j + 1)).all (fun y => reqOk (.mk kv iv sv nsv isv) y.text)) by rw [HQ.out, List.drop_eq_getElem_cons hlt, List.all_cons])
      clear HQ hrj hlj
      generalize is[j] = y at *
      have HBY := Lib.hid (show Below wr.heap.size wr (wr.alloc (.cells #[.int .i64 y.kind, .int .i64 y.int, .string y.text, .slice an2 y.names.length cn2, .slice ai2 y.items.length ci2] 25)) from (Below.refl _ _).alloc (Nat.le_refl _) _)
      by_cases h6 : kv = 6
      · have e6 : (kv == 6) = true := by simp [h6]
        have HRQ := Lib.hid (show reqOk (.mk kv iv sv nsv isv) y.text = Lib.containsS (nsv.take (membersJ (.mk kv iv sv nsv isv))) y.text by unfold reqOk; rw [show (JV.mk kv iv sv nsv isv).kind = kv from rfl, decide_eq_true h6, Bool.not_true, Bool.false_or]; rfl)
        have HMM := Lib.hid (fun (W : World) (hw : Below W0.heap.size W0 W) => members_c _ _ W _ (HRV.out.below hw))
        have HCN := Lib.hid (fun (W : World) (hw : Below W0.heap.size W0 W) => contains_names (HST.out.below hw) (membersJ (.mk kv iv sv nsv isv)) hml (by omega) cn y.text)
        have HY := Lib.hid (heap_alloc_new wr (.cells #[.int .i64 y.kind, .int .i64 y.int, .string y.text, .slice an2 y.names.length cn2, .slice ai2 y.items.length ci2] 25))
        have HBW := Lib.hid (HBL.out.trans (HBY.out.mono hs1))
        clear h6
        generalize membersJ (.mk kv iv sv nsv isv) = m at *
        have hm0 : (m : Int) ≤ cn := by omega
        have hcc : (cn : Int) ≤ 9223372036854775807 := by omega
        go_wp2
        clear v0 v1 v2 v3 v4 l0 l1 l2 l3 l4
        generalize hW1 : wr.alloc (.cells #[.int .i64 y.kind, .int .i64 y.int, .string y.text, .slice an2 y.names.length cn2, .slice ai2 y.items.length ci2] 25) = W1 at *
        clear hW1
        obtain ⟨⟨_, _, y2, _, _⟩, _⟩ := cellsOf5 HY.out
        obtain ⟨⟨v0, v1, v2, v3, v4⟩, _⟩ := cellsOf5 ((HBW.out.block w.heap.size hX1).trans HX.out)
        have k0 := cell_regrown v0
        have k1 := cell_regrown v1
        have k2 := cell_regrown v2
        have k3 := cell_regrown v3
        have k4 := cell_regrown v4
        have k5 := cell_regrown y2
        refine wp_region_quiet_below (by kernel_rfl) (by kernel_rfl) ?_
        repeat (go_big_quiet_step ((first | (go_at_call 71; exact regB (HMM.out _ (HBW.out.trans ((below_regrown W1 _ _).mono HBW.out.size)))) | (go_at_call 70; exact regS (HCN.out _ (HBW.out.trans ((below_regrown W1 _ _).mono HBW.out.size)))))))
        refine wpQuiet_nil ?_
        intro _ hw'
        obtain ⟨⟨dq, osq⟩, hw''⟩ := hw'
        subst hw''
        have HBE := Lib.hid (HBW.out.trans ((below_regrown W1 dq osq).mono HBW.out.size))
        cases hcb : Lib.containsS (nsv.take m) y.text with
        | true =>
          have HQ3 := Lib.hid (HQ2.out.trans (by rw [HRQ.out, hcb, Bool.true_and]))
          go_wp2
          go_roundw
          case rel => exact ⟨j + 1, by omega, by go_num, HQ3, HBE⟩
          case measure => simp [intOf]; omega
        | false =>
          have HQ3 := Lib.hid (HV.out.trans (HQ2.out.trans (by rw [HRQ.out, hcb, Bool.false_and])))
          go_wp2
          go_ret
          exact ⟨by rw [HQ3.out]; rfl, HB.out.trans (HBE.out.mono HB.out.size)⟩
      · have e6 : (kv == 6) = false := by simp [h6]
        have hrq : reqOk (.mk kv iv sv nsv isv) y.text = true := by unfold reqOk; rw [show (JV.mk kv iv sv nsv isv).kind = kv from rfl, decide_eq_false h6]; rfl
        have HQ3 := Lib.hid (HQ2.out.trans (by rw [hrq, Bool.true_and]))
        clear hrq
        clear h6 HQ2
        go_wp2
        go_big_quiet (fail)
        go_wp2
        go_roundw
        case rel => exact ⟨j + 1, by omega, by go_num, HQ3, Lib.hid (below_drewN (HBL.out.trans (HBY.out.mono hs1)) _)⟩
        case measure => simp [intOf]; omega
    · obtain rfl : j = is.length := by omega
      have HQ3 := Lib.hid (HV.out.trans (HQ.out.trans (by rw [List.drop_length, List.all_nil])))
      go_wp2
      go_ret
      exact ⟨by rw [HQ3.out]; rfl, HB.out.trans (HBL.out.mono HB.out.size)⟩
def addOk (x kn : JV) (s : ByteArray) : Bool := !decide (x.kind = 1) || Lib.containsS kn.names s
set_option maxRecDepth 20000 in
set_option maxHeartbeats 8000000 in
theorem keptAdditional_c (x kn v : JV) (vs : List Value) (w : World) (ok okv : Nat → Prop) (X K : Nat) (hx : BoxAt w ok X x) (hk : BoxAt w ok K kn) (hr : Rep w okv v vs) :
    Calls Tryz.prog 73 #[.agg vs.toArray, .pointer (some ⟨X, 0, none⟩), .pointer (some ⟨K, 0, none⟩)] w (KPost w (leafKept ⟨#[97, 100, 100, 105, 116, 105, 111, 110, 97, 108]⟩ x kn v)) := by
  obtain ⟨_, cs, h1, h2⟩ := hx
  obtain ⟨_, ks, h3, h4⟩ := hk
  have hr0 := hr
  obtain ⟨xn, xc, xi, xd, rfl⟩ := h2.form
  obtain ⟨kk, ik, sk, nsk, isk⟩ := kn
  rw [rep_mk] at h4
  obtain ⟨_, _, _, bn, dn, bi, di, rfl, hdn, _, hsk, _⟩ := h4
  unfold maxLen at hdn
  obtain ⟨kv, iv, sv, nsv, isv⟩ := v
  rw [rep_mk] at hr
  obtain ⟨_, _, _, an, cn, ai, ci, rfl, hcn, hci2, hst, _⟩ := hr
  unfold maxLen at hcn hci2
  have hml := (members_le (.mk kv iv sv nsv isv)).1
  simp only [JV.names] at hml
  have hXl := (Array.getElem?_eq_some_iff.1 h1).1
  have hKl := (Array.getElem?_eq_some_iff.1 h3).1
  have hb : Below w.heap.size w (w.alloc (.cells #[.int .i64 kv, .int .i64 iv, .string sv, .slice an nsv.length cn, .slice ai isv.length ci] 25)) := (Below.refl _ _).alloc (Nat.le_refl _) _
  have HB := Lib.hid hb
  have HV := Lib.hid (show leafKept ⟨#[97, 100, 100, 105, 116, 105, 111, 110, 97, 108]⟩ x (.mk kk ik sk nsk isk) (.mk kv iv sv nsv isv) = (nsv.take (membersJ (.mk kv iv sv nsv isv))).all (addOk x (.mk kk ik sk nsk isk)) by unfold leafKept; rw [if_neg (by decide), if_neg (by decide), if_neg (by decide), if_pos rfl]; rfl)
  have HST := Lib.hid (hst.below hb)
  have HSK := Lib.hid (hsk.below hb)
  have HX := Lib.hid (heap_alloc_new w (.cells #[.int .i64 kv, .int .i64 iv, .string sv, .slice an nsv.length cn, .slice ai isv.length ci] 25))
  have HXX := Lib.hid ((hb.block X hXl).trans h1)
  have HKK := Lib.hid ((hb.block K hKl).trans h3)
  have hX1 : w.heap.size < (w.alloc (.cells #[.int .i64 kv, .int .i64 iv, .string sv, .slice an nsv.length cn, .slice ai isv.length ci] 25)).heap.size := by simp
  have HMM := Lib.hid (members_c _ _ (w.alloc (.cells #[.int .i64 kv, .int .i64 iv, .string sv, .slice an nsv.length cn, .slice ai isv.length ci] 25)) _ (hr0.below hb))
  clear h1 h3 hr0 hb hst hsk
  generalize membersJ (.mk kv iv sv nsv isv) = m at *
  go_enter Tryz.func73, Tryz.ntmps73
  go_wp2_with fail
  generalize hW0 : w.alloc (.cells #[.int .i64 kv, .int .i64 iv, .string sv, .slice an nsv.length cn, .slice ai isv.length ci] 25) = W0 at *
  clear hW0
  refine HMM.out.mono ?_; rintro e W1 ⟨rfl, hb1⟩
  have HB1 := Lib.hid hb1
  have hs0 := hb1.size
  clear hb1
  go_wp2
  go_loopw [8] (fun q wr => ∃ j : Nat, j ≤ m ∧ q = .int .i64 j ∧ Hid ((nsv.take m).all (addOk x (.mk kk ik sk nsk isk)) = ((nsv.take m).drop j).all (addOk x (.mk kk ik sk nsk isk))) ∧ Hid (Below W0.heap.size W0 wr)) (fun q _ => m - (intOf q).toNat)
  case atStart => exact ⟨0, Nat.zero_le _, rfl, Lib.hid rfl, HB1⟩
  case round =>
    obtain ⟨j, hj, rfl, HQ, HBL⟩ := hrel
    by_cases hlt : j < m
    · have hln : j < nsv.length := by omega
      have hlt2 : j < (nsv.take m).length := by rw [List.length_take_of_le hml]; exact hlt
      obtain ⟨b, off, rfl, hnc⟩ := (HST.out.below HBL.out).at j hln
      have hncl := cell_lt hnc
      simp only at hncl
      have hs1 := HBL.out.size
      have hXl2 := (Array.getElem?_eq_some_iff.1 HXX.out).1
      have hKl2 := (Array.getElem?_eq_some_iff.1 HKK.out).1
      obtain ⟨⟨v0, v1, v2, v3, v4⟩, _⟩ := cellsOf5 ((HBL.out.block w.heap.size hX1).trans HX.out)
      obtain ⟨⟨x0, x1, x2, x3, x4⟩, _⟩ := cellsOf5 ((HBL.out.block X hXl2).trans HXX.out)
      obtain ⟨⟨k0, k1, k2, k3, k4⟩, _⟩ := cellsOf5 ((HBL.out.block K hKl2).trans HKK.out)
      have HQ2 := Lib.hid (show (nsv.take m).all (addOk x (.mk kk ik sk nsk isk)) = (addOk x (.mk kk ik sk nsk isk) nsv[j] && ((nsv.take m).drop (j + 1)).all (addOk x (.mk kk ik sk nsk isk))) by rw [HQ.out, List.drop_eq_getElem_cons hlt2, List.all_cons, List.getElem_take])
      clear HQ hlt2
      generalize nsv[j] = nm at *
      by_cases h1 : x.kind = 1
      · have e1 : (x.kind == 1) = true := by simp [h1]
        have HRQ := Lib.hid (show addOk x (.mk kk ik sk nsk isk) nm = Lib.containsS nsk nm by unfold addOk; rw [decide_eq_true h1]; rfl)
        have HCN := Lib.hid (fun (W : World) (hw : Below W0.heap.size W0 W) => contains_names (HSK.out.below hw) nsk.length (Nat.le_refl _) (by omega) dn nm)
        have HLT := Lib.hid (List.take_length (l := nsk))
        clear h1
        go_wp2
        have t0 := cell_regrown v0
        have t3 := cell_regrown v3
        have t4 := cell_regrown x0
        have t5 := cell_regrown k3
        have t6 := cell_regrown hnc
        refine wp_region_quiet_below (by kernel_rfl) (by kernel_rfl) ?_
        repeat (go_big_quiet_step ((go_at_call 70; exact regS (HCN.out _ (HBL.out.trans ((below_regrown wr _ _).mono HBL.out.size))))))
        refine wpQuiet_nil ?_
        intro _ hw'
        obtain ⟨⟨dq, osq⟩, hw''⟩ := hw'
        subst hw''
        have HBE := Lib.hid (HBL.out.trans ((below_regrown wr dq osq).mono HBL.out.size))
        rw [HLT.out]
        cases hcb : Lib.containsS nsk nm with
        | true =>
          have HQ3 := Lib.hid (HQ2.out.trans (by rw [HRQ.out, hcb, Bool.true_and]))
          go_wp2
          go_roundw
          case rel => exact ⟨j + 1, by omega, by go_num, HQ3, HBE⟩
          case measure => simp [intOf]; omega
        | false =>
          have HQ3 := Lib.hid (HV.out.trans (HQ2.out.trans (by rw [HRQ.out, hcb, Bool.false_and])))
          go_wp2
          go_ret
          exact ⟨by rw [HQ3.out]; rfl, HB.out.trans (HBE.out.mono HB.out.size)⟩
      · have e1 : (x.kind == 1) = false := by simp [h1]
        have hrq : addOk x (.mk kk ik sk nsk isk) nm = true := by unfold addOk; rw [decide_eq_false h1]; rfl
        have HQ3 := Lib.hid (HQ2.out.trans (by rw [hrq, Bool.true_and]))
        clear h1 HQ2 hrq
        go_wp2
        go_big_quiet (fail)
        go_wp2
        go_roundw
        case rel => exact ⟨j + 1, by omega, by go_num, HQ3, Lib.hid (below_drewN HBL.out _)⟩
        case measure => simp [intOf]; omega
    · obtain rfl : j = m := by omega
      have HQ3 := Lib.hid (HV.out.trans (HQ.out.trans (by rw [show (nsv.take j).drop j = [] from by rw [List.drop_eq_nil_of_le]; rw [List.length_take_of_le hml]; exact Nat.le_refl _, List.all_nil])))
      go_wp2
      go_ret
      exact ⟨by rw [HQ3.out]; rfl, HB.out.trans (HBL.out.mono HB.out.size)⟩
end Go.Proofs.YtnmojmmgkipjcaaGreatDoor
namespace Go.Proofs.YtnmojmmgkipjcaaGreatDoor
open Go.RowKit
/-- a schema that a reader takes; a rule; a list -/
def Good (t : JV) : Prop := okU t ∧ ∃ d n m, readS t d n = .ok m
def GoodR (x : JV) (nm : ByteArray) : Prop := okU x ∧ ∃ d n m, readRule x nm d n = .ok m
def GoodL (l : List JV) : Prop := ∀ x ∈ l, Good x
theorem good_rules : ∀ {is : List JV} {ns : List ByteArray} {d n m : Nat}, okUs is → readRules is ns d n = .ok m → ∀ (j : Nat) (h1 : j < is.length) (h2 : j < ns.length), GoodR is[j] ns[j]
  | x :: is, w :: ns, d, n, m, ho, h, j, h1, h2 => by
    rw [readRules] at h
    rw [okUs] at ho
    split at h
    · cases h
    · split at h
      · cases h
      · rename_i m2 h3
        cases j with
        | zero => exact ⟨ho.1, d, n + 1, m2, h3⟩
        | succ j => exact good_rules ho.2 h j (by simpa using h1) (by simpa using h2)
theorem good_list : ∀ {is : List JV} {d n m : Nat}, okUs is → readList is d n = .ok m → GoodL is
  | [], _, _, _, _, _, x, hx => by cases hx
  | y :: is, d, n, m, ho, h, x, hx => by
    rw [readList] at h
    rw [okUs] at ho
    split at h
    · cases h
    · rename_i m2 h3
      rcases List.mem_cons.1 hx with rfl | hx
      · exact ⟨ho.1, d, n, m2, h3⟩
      · exact good_list ho.2 h x hx
theorem Good.rules {k i : Int} {s : ByteArray} {ns : List ByteArray} {is : List JV} (h : Good (.mk k i s ns is)) : k = 6 ∧ ns.length = is.length ∧ okUs is ∧ ∃ d n m, readRules is ns d n = .ok m := by
  obtain ⟨ho, d, n, m, h⟩ := h
  rw [okU] at ho
  rw [readS] at h
  split at h
  · split at h
    · cases h
    · rename_i h6 _
      exact ⟨h6, ho.1 h6, ho.2, d, n, m, h⟩
  · cases h
theorem goodR_list {k i : Int} {s : ByteArray} {ns : List ByteArray} {is : List JV} {nm : ByteArray} (hn : nm = ⟨#[112, 114, 111, 112, 101, 114, 116, 105, 101, 115]⟩ ∨ nm = ⟨#[97, 110, 121, 79, 102]⟩ ∨ nm = ⟨#[97, 108, 108, 79, 102]⟩) (h : GoodR (.mk k i s ns is) nm) : GoodL is := by
  obtain ⟨ho, d, n, m, h⟩ := h
  rw [okU] at ho
  rw [readRule] at h
  rcases hn with hn | hn
  · rw [if_pos hn] at h
    split at h
    · exact good_list ho.2 h
    · cases h
  · rw [if_neg (by rcases hn with hn | hn <;> rw [hn] <;> decide), if_pos hn] at h
    split at h
    · exact good_list ho.2 h
    · cases h
theorem goodR_props {k i : Int} {s : ByteArray} {ns : List ByteArray} {is : List JV} (h : GoodR (.mk k i s ns is) ⟨#[112, 114, 111, 112, 101, 114, 116, 105, 101, 115]⟩) : ns.length = is.length := by
  obtain ⟨ho, d, n, m, h⟩ := h
  rw [okU] at ho
  rw [readRule, if_pos rfl] at h
  split at h
  · exact ho.1 (by assumption)
  · cases h
theorem goodR_one {x : JV} {nm : ByteArray} (hn : nm = ⟨#[105, 116, 101, 109, 115]⟩ ∨ nm = ⟨#[110, 111, 116]⟩) (h : GoodR x nm) : Good x := by
  obtain ⟨ho, d, n, m, h⟩ := h
  obtain ⟨k, i, s, ns, is⟩ := x
  rw [readRule, if_neg (by rcases hn with hn | hn <;> rw [hn] <;> decide), if_neg (by rcases hn with hn | hn <;> rw [hn] <;> decide), if_pos hn] at h
  exact ⟨ho, d + 1, n, m, by rw [readS]; exact h⟩
theorem goodR_leaf {x : JV} {nm : ByteArray} (hn : ¬ subW nm) (h : GoodR x nm) : leafOk nm x = true := by
  obtain ⟨_, d, n, m, h⟩ := h
  rw [rule_leaf x nm d n hn] at h
  unfold given at h
  split at h
  · assumption
  · cases h
/-- what strconv.Itoa answers at a place in a list is a text -/
def ItoC (N : Nat) (w : World) : Prop := ∀ (W : World), Below w.heap.size w W → ∀ i : Nat, i < N → Calls Tryz.prog 109 #[.int .i64 (i : Int)] W fun e w' => ∃ s : ByteArray, e = .returned (.string s) ∧ Below W.heap.size W w'
theorem ItoC.below {N : Nat} {w w' : World} (h : ItoC N w) (hb : Below w.heap.size w w') : ItoC N w' := fun W hW => h W (hb.trans (hW.mono hb.size))
/-- what Fault answers -/
def FRes (w : World) : FR → Ending → World → Prop
  | none, e, w' => e = .returned (.tuple #[.slice none 0 0, .string ⟨#[]⟩, .bool false]) ∧ Hid (Below w.heap.size w w')
  | some (p, wd), e, w' => ∃ (a : Option Addr) (c : Nat) (ss : List ByteArray), e = .returned (.tuple #[.slice a ss.length c, .string wd, .bool true]) ∧ Hid (ss.length ≤ c ∧ c ≤ maxLen ∧ Like ss p ∧ StrsAt w' (fun b => w.heap.size ≤ b) a ss) ∧ Hid (Below w.heap.size w w')
def FaultSaid (N m : Nat) : Prop := ∀ (t : JV), t.size ≤ m → Good t → t.bulk ≤ 1099511627776 → ∀ (v : JV), v.size ≤ N → v.bulk ≤ 1099511627776 → ∀ (q : Value) (vs : List Value) (w : World) (okS okV : Nat → Prop), SchAt w okS t q → Rep w okV v vs → ItoC N w →
  Calls Tryz.prog 19 #[q, .agg vs.toArray] w (FRes w (faultS t v))
def ckE (b : Bool) : Int := if b = true then 212 else 0
theorem checkS_c (N m : Nat) (ih : FaultSaid N m) (t : JV) (hm : t.size ≤ m) (hg : Good t) (hbk : t.bulk ≤ 1099511627776) (v : JV) (hv : v.size ≤ N) (hvb : v.bulk ≤ 1099511627776) (q : Value) (vs : List Value) (w : World) (okS okV : Nat → Prop) (hs : SchAt w okS t q) (hr : Rep w okV v vs) (hi : ItoC N w) :
    Calls Tryz.prog 20 #[q, .agg vs.toArray] w fun e w' => e = .returned (.int .i64 (ckE (faultS t v).isSome)) ∧ Below w.heap.size w w' := by
  have hr0 := hr
  obtain ⟨an, cn, ai, ci, rfl⟩ := hr.form
  have hb : Below w.heap.size w (w.alloc (.cells #[.int .i64 v.kind, .int .i64 v.int, .string v.text, .slice an v.names.length cn, .slice ai v.items.length ci] 25)) := (Below.refl _ _).alloc (Nat.le_refl _) _
  have hF := ih t hm hg hbk v hv hvb q _ (w.alloc (.cells #[.int .i64 v.kind, .int .i64 v.int, .string v.text, .slice an v.names.length cn, .slice ai v.items.length ci] 25)) okS okV (SchAt.kept (fun b hlt ho => ⟨ho, hb.block b hlt⟩) _ _ hs) (hr0.below hb) (hi.below hb)
  have HB := Lib.hid hb
  clear hr hr0 hb hs hi
  cases hf : faultS t v with
  | none =>
    rw [hf] at hF
    have HF := Lib.hid hF
    clear hF hf
    go_enter Tryz.func20, Tryz.ntmps20
    go_wp2_with fail
    refine HF.out.mono ?_; rintro e w1 ⟨rfl, HB1⟩
    go_wp2
    go_ret
    exact ⟨rfl, HB.out.trans (HB1.out.mono HB.out.size)⟩
  | some pw =>
    obtain ⟨p, wd⟩ := pw
    rw [hf] at hF
    have HF := Lib.hid hF
    clear hF hf
    go_enter Tryz.func20, Tryz.ntmps20
    go_wp2_with fail
    refine HF.out.mono ?_; rintro e w1 ⟨a, c, ss, rfl, -, HB1⟩
    go_wp2
    go_ret
    exact ⟨rfl, HB.out.trans (HB1.out.mono HB.out.size)⟩
theorem PtrsAt.at {w : World} {ok : Nat → Prop} {b : Nat} : ∀ {l : List JV} {off : Nat}, PtrsAt w ok l b off → ∀ (i : Nat) (h : i < l.length), ∃ q, w.cell? ⟨b, off + i, none⟩ = some q ∧ SchAt w ok l[i] q
  | t :: r, off, h, 0, _ => by rw [PtrsAt] at h; simpa using h.1
  | t :: r, off, h, i + 1, hi => by
    rw [PtrsAt] at h
    obtain ⟨q, h1, h2⟩ := PtrsAt.at h.2 i (by simpa using hi)
    exact ⟨q, by rw [show off + (i + 1) = off + 1 + i by omega]; exact h1, h2⟩
theorem kept_le (v : JV) : ∀ l : List JV, keptL l v ≤ l.length
  | [] => by rw [keptL]; exact Nat.le_refl _
  | x :: r => by have := kept_le v r; rw [keptL, List.length_cons]; split <;> omega
theorem kept_take (v : JV) (l : List JV) (j : Nat) (h : j < l.length) : keptL (l.take (j + 1)) v = keptL (l.take j) v + (if (faultS l[j] v).isSome then 0 else 1) := by
  induction l generalizing j with
  | nil => simp at h
  | cons x r ih =>
    cases j with
    | zero => simp [keptL]
    | succ j =>
      rw [List.take_succ_cons, List.take_succ_cons, keptL, keptL, ih j (by simpa using h), List.getElem_cons_succ]
      omega
set_option maxRecDepth 20000 in
set_option maxHeartbeats 8000000 in
theorem keptN_c (N m : Nat) (ih : FaultSaid N m) (is : List JV) (hm : ∀ x ∈ is, x.size ≤ m) (hg : GoodL is) (hbk : ∀ x ∈ is, x.bulk ≤ 1099511627776) (hl : is.length ≤ 1099511627776) (v : JV) (hv : v.size ≤ N) (hvb : v.bulk ≤ 1099511627776) (a : Option Addr) (c : Nat) (vs : List Value) (w : World) (okS okV : Nat → Prop) (hs : PtrsL w okS a is) (hr : Rep w okV v vs) (hi : ItoC N w) :
    Calls Tryz.prog 81 #[.slice a is.length c, .agg vs.toArray] w fun e w' => e = .returned (.int .i64 (keptL is v : Int)) ∧ Below w.heap.size w w' := by
  have hr0 := hr
  obtain ⟨an, cn, ai, ci, rfl⟩ := hr.form
  have hb : Below w.heap.size w (w.alloc (.cells #[.int .i64 v.kind, .int .i64 v.int, .string v.text, .slice an v.names.length cn, .slice ai v.items.length ci] 25)) := (Below.refl _ _).alloc (Nat.le_refl _) _
  have HB := Lib.hid hb
  have HS := Lib.hid (below_keeps (ptrsL_keeps a is) hs hb)
  have HR := Lib.hid (hr0.below hb)
  have HI := Lib.hid (hi.below hb)
  have HX := Lib.hid (heap_alloc_new w (.cells #[.int .i64 v.kind, .int .i64 v.int, .string v.text, .slice an v.names.length cn, .slice ai v.items.length ci] 25))
  have hX1 : w.heap.size < (w.alloc (.cells #[.int .i64 v.kind, .int .i64 v.int, .string v.text, .slice an v.names.length cn, .slice ai v.items.length ci] 25)).heap.size := by simp
  have HM := Lib.hid hm
  have HG := Lib.hid hg
  have HK := Lib.hid hbk
  have HH := Lib.hid (And.intro hv hvb)
  have HIH := Lib.hid ih
  clear hr hr0 hb hs hi hm hg hbk ih hv hvb
  go_enter Tryz.func81, Tryz.ntmps81
  go_wp2
  generalize hW0 : w.alloc (.cells #[.int .i64 v.kind, .int .i64 v.int, .string v.text, .slice an v.names.length cn, .slice ai v.items.length ci] 25) = W0 at *
  clear hW0
  go_loopw [5, 10] (fun n q wr => ∃ j k : Nat, j ≤ is.length ∧ q = .int .i64 j ∧ n = .int .i64 k ∧ k ≤ j ∧ Hid (k = keptL (is.take j) v) ∧ Hid (Below W0.heap.size W0 wr)) (fun _ q _ => is.length - (intOf q).toNat)
  case atStart => exact ⟨0, 0, Nat.zero_le _, rfl, rfl, Nat.le_refl _, Lib.hid (by rw [List.take_zero, keptL]), Lib.hid (Below.refl _ _)⟩
  case round =>
    obtain ⟨j, k, hj, rfl, rfl, hkj, HQ, HBL⟩ := hrel
    obtain ⟨⟨v0, v1, v2, v3, v4⟩, _⟩ := cellsOf5 ((HBL.out.block w.heap.size hX1).trans HX.out)
    by_cases hlt : j < is.length
    · have hs := below_keeps (ptrsL_keeps a is) HS.out HBL.out
      rcases hs with h0 | ⟨b, rfl, _, hbl, hpt⟩
      · omega
      obtain ⟨q, hq, hsch⟩ := hpt.at j hlt
      rw [Nat.zero_add] at hq
      have HC := Lib.hid (checkS_c N m HIH.out is[j] (HM.out _ (List.getElem_mem hlt)) (HG.out _ (List.getElem_mem hlt)) (HK.out _ (List.getElem_mem hlt)) v HH.out.1 HH.out.2 q _ wr _ _ hsch (HR.out.below HBL.out) (HI.out.below HBL.out))
      have HKT := Lib.hid (kept_take v is j hlt)
      clear hsch hpt
      cases hfb : (faultS is[j] v).isSome with
      | true =>
        rw [hfb] at HC HKT
        have HQ2 := Lib.hid (show k = keptL (is.take (j + 1)) v by rw [HKT.out, ← HQ.out]; rfl)
        clear hfb HKT HQ
        go_wp2_with fail
        refine HC.out.mono ?_; rintro e w1 ⟨rfl, hb1⟩
        have HB1 := Lib.hid (HBL.out.trans (hb1.mono HBL.out.size))
        have hce : ckE true = 212 := rfl
        rw [hce]
        clear hb1 hce v0 v1 v2 v3 v4 hq
        go_wp2
        go_roundw
        case rel => exact ⟨j + 1, k, by omega, by go_num, rfl, by omega, HQ2, HB1⟩
        case measure => simp [intOf]; omega
      | false =>
        rw [hfb] at HC HKT
        have HQ2 := Lib.hid (show k + 1 = keptL (is.take (j + 1)) v by rw [HKT.out, ← HQ.out]; rfl)
        clear hfb HKT HQ
        go_wp2_with fail
        refine HC.out.mono ?_; rintro e w1 ⟨rfl, hb1⟩
        have HB1 := Lib.hid (HBL.out.trans (hb1.mono HBL.out.size))
        have hce : ckE false = 0 := rfl
        rw [hce]
        clear hb1 hce v0 v1 v2 v3 v4 hq
        go_wp2
        go_roundw
        case rel => exact ⟨j + 1, k + 1, by omega, by go_num, by go_num, by omega, HQ2, HB1⟩
        case measure => simp [intOf]; omega
    · obtain rfl : j = is.length := by omega
      have HQ2 := Lib.hid (show k = keptL is v by rw [HQ.out, List.take_length])
      go_wp2
      go_ret
      exact ⟨by rw [← HQ2.out]; rfl, HB.out.trans (HBL.out.mono HB.out.size)⟩
end Go.Proofs.YtnmojmmgkipjcaaGreatDoor
namespace Go.Proofs.YtnmojmmgkipjcaaGreatDoor
open Go.RowKit
set_option maxRecDepth 20000 in
set_option maxHeartbeats 4000000 in
theorem keptAny_c (N m : Nat) (ih : FaultSaid N m) (is : List JV) (hm : ∀ x ∈ is, x.size ≤ m) (hg : GoodL is) (hbk : ∀ x ∈ is, x.bulk ≤ 1099511627776) (hl : is.length ≤ 1099511627776) (v : JV) (hv : v.size ≤ N) (hvb : v.bulk ≤ 1099511627776) (a : Option Addr) (c X : Nat) (vs : List Value) (w : World) (okS okV : Nat → Prop) (hx : CellAt w okS X (.slice a is.length c) 106) (hs : PtrsL w okS a is) (hr : Rep w okV v vs) (hi : ItoC N w) : Calls Tryz.prog 80 #[.agg vs.toArray, .pointer (some ⟨X, 0, none⟩)] w (KPost w (decide (0 < keptL is v))) := by
  have hr0 := hr
  obtain ⟨an, cn, ai, ci, rfl⟩ := hr.form
  have hb : Below w.heap.size w (w.alloc (.cells #[.int .i64 v.kind, .int .i64 v.int, .string v.text, .slice an v.names.length cn, .slice ai v.items.length ci] 25)) := (Below.refl _ _).alloc (Nat.le_refl _) _
  have HB := Lib.hid hb
  obtain ⟨a0, a1, a2, a3, a4⟩ := cells5 w (.int .i64 v.kind) (.int .i64 v.int) (.string v.text) (.slice an v.names.length cn) (.slice ai v.items.length ci) 25
  have hXl := (Array.getElem?_eq_some_iff.1 hx.2).1
  have m0 := cell_of_row (w.alloc (.cells #[.int .i64 v.kind, .int .i64 v.int, .string v.text, .slice an v.names.length cn, .slice ai v.items.length ci] 25)) _ 0 _ _ _ ((hb.block X hXl).trans hx.2)
  simp only [List.getElem?_toArray, List.getElem?_cons_zero] at m0
  have HC := Lib.hid (keptN_c N m ih is hm hg hbk hl v hv hvb a c _ (w.alloc (.cells #[.int .i64 v.kind, .int .i64 v.int, .string v.text, .slice an v.names.length cn, .slice ai v.items.length ci] 25)) okS okV (below_keeps (ptrsL_keeps a is) hs hb) (hr0.below hb) (hi.below hb))
  clear hr hr0 hb hs hi hm hg hbk ih hv hvb hx
  have HD := Lib.hid (show decide ((0 : Int) < (keptL is v : Int)) = decide (0 < keptL is v) by simp)
  generalize keptL is v = k at *
  go_enter Tryz.func80, Tryz.ntmps80
  go_wp2_with fail
  refine HC.out.mono ?_; rintro e w1 ⟨rfl, hb1⟩
  have HB1 := Lib.hid (HB.out.trans (hb1.mono HB.out.size))
  clear hb1
  go_wp2
  go_ret
  exact ⟨by first | rfl | (rw [← HD.out]; rfl), HB1.out⟩
set_option maxRecDepth 20000 in
set_option maxHeartbeats 4000000 in
theorem keptAll_c (N m : Nat) (ih : FaultSaid N m) (is : List JV) (hm : ∀ x ∈ is, x.size ≤ m) (hg : GoodL is) (hbk : ∀ x ∈ is, x.bulk ≤ 1099511627776) (hl : is.length ≤ 1099511627776) (v : JV) (hv : v.size ≤ N) (hvb : v.bulk ≤ 1099511627776) (a : Option Addr) (c X : Nat) (vs : List Value) (w : World) (okS okV : Nat → Prop) (hx : CellAt w okS X (.slice a is.length c) 106) (hs : PtrsL w okS a is) (hr : Rep w okV v vs) (hi : ItoC N w) : Calls Tryz.prog 82 #[.agg vs.toArray, .pointer (some ⟨X, 0, none⟩)] w (KPost w (decide (keptL is v = is.length))) := by
  have hr0 := hr
  obtain ⟨an, cn, ai, ci, rfl⟩ := hr.form
  have hb : Below w.heap.size w (w.alloc (.cells #[.int .i64 v.kind, .int .i64 v.int, .string v.text, .slice an v.names.length cn, .slice ai v.items.length ci] 25)) := (Below.refl _ _).alloc (Nat.le_refl _) _
  have HB := Lib.hid hb
  obtain ⟨a0, a1, a2, a3, a4⟩ := cells5 w (.int .i64 v.kind) (.int .i64 v.int) (.string v.text) (.slice an v.names.length cn) (.slice ai v.items.length ci) 25
  have hXl := (Array.getElem?_eq_some_iff.1 hx.2).1
  have m0 := cell_of_row (w.alloc (.cells #[.int .i64 v.kind, .int .i64 v.int, .string v.text, .slice an v.names.length cn, .slice ai v.items.length ci] 25)) _ 0 _ _ _ ((hb.block X hXl).trans hx.2)
  simp only [List.getElem?_toArray, List.getElem?_cons_zero] at m0
  have HC := Lib.hid (fun (W : World) (hw : Below (w.alloc (.cells #[.int .i64 v.kind, .int .i64 v.int, .string v.text, .slice an v.names.length cn, .slice ai v.items.length ci] 25)).heap.size (w.alloc (.cells #[.int .i64 v.kind, .int .i64 v.int, .string v.text, .slice an v.names.length cn, .slice ai v.items.length ci] 25)) W) => keptN_c N m ih is hm hg hbk hl v hv hvb a c _ W okS okV (below_keeps (ptrsL_keeps a is) hs (hb.trans (hw.mono hb.size))) ((hr0.below hb).below hw) ((hi.below hb).below hw))
  clear hr hr0 hb hs hi hm hg hbk ih hv hvb hx
  have hle := kept_le v is
  have HD := Lib.hid (show ((keptL is v : Int) == (is.length : Int)) = decide (keptL is v = is.length) by
    by_cases h : keptL is v = is.length
    · simp [h]
    · rw [decide_eq_false h, beq_eq_false_iff_ne]; omega)
  generalize keptL is v = k at *
  go_enter Tryz.func82, Tryz.ntmps82
  go_wp2
  have k0 := cell_regrown a0
  have k1 := cell_regrown a1
  have k2 := cell_regrown a2
  have k3 := cell_regrown a3
  have k4 := cell_regrown a4
  have k5 := cell_regrown m0
  refine wp_region_quiet_below (by kernel_rfl) (by kernel_rfl) ?_
  repeat (go_big_quiet_step ((go_at_call 81; exact regB (HC.out _ (below_regrown _ _ _)))))
  refine wpQuiet_nil ?_
  intro _ hw'
  obtain ⟨⟨dq, osq⟩, hw''⟩ := hw'
  subst hw''
  go_wp2
  go_ret
  exact ⟨by first | rfl | (rw [← HD.out]; rfl), HB.out.trans ((below_regrown _ dq osq).mono HB.out.size)⟩
set_option maxRecDepth 20000 in
set_option maxHeartbeats 4000000 in
theorem keptNot_c (N m : Nat) (ih : FaultSaid N m) (t : JV) (hm : t.size ≤ m) (hg : Good t) (hbk : t.bulk ≤ 1099511627776) (v : JV) (hv : v.size ≤ N) (hvb : v.bulk ≤ 1099511627776) (q : Value) (X : Nat) (vs : List Value) (w : World) (okS okV : Nat → Prop) (hx : CellAt w okS X q 39) (hs : SchAt w okS t q) (hr : Rep w okV v vs) (hi : ItoC N w) :
    Calls Tryz.prog 83 #[.agg vs.toArray, .pointer (some ⟨X, 0, none⟩)] w (KPost w (faultS t v).isSome) := by
  have hr0 := hr
  obtain ⟨an, cn, ai, ci, rfl⟩ := hr.form
  have hb : Below w.heap.size w (w.alloc (.cells #[.int .i64 v.kind, .int .i64 v.int, .string v.text, .slice an v.names.length cn, .slice ai v.items.length ci] 25)) := (Below.refl _ _).alloc (Nat.le_refl _) _
  have HB := Lib.hid hb
  obtain ⟨a0, a1, a2, a3, a4⟩ := cells5 w (.int .i64 v.kind) (.int .i64 v.int) (.string v.text) (.slice an v.names.length cn) (.slice ai v.items.length ci) 25
  have hXl := (Array.getElem?_eq_some_iff.1 hx.2).1
  have m0 := cell_of_row (w.alloc (.cells #[.int .i64 v.kind, .int .i64 v.int, .string v.text, .slice an v.names.length cn, .slice ai v.items.length ci] 25)) _ 0 _ _ _ ((hb.block X hXl).trans hx.2)
  simp only [List.getElem?_toArray, List.getElem?_cons_zero] at m0
  have HC := Lib.hid (checkS_c N m ih t hm hg hbk v hv hvb q _ (w.alloc (.cells #[.int .i64 v.kind, .int .i64 v.int, .string v.text, .slice an v.names.length cn, .slice ai v.items.length ci] 25)) okS okV (SchAt.kept (fun b hlt ho => ⟨ho, hb.block b hlt⟩) _ _ hs) (hr0.below hb) (hi.below hb))
  clear hr hr0 hb hs hi hm hg hbk ih hv hvb hx
  generalize (faultS t v).isSome = bb at *
  cases bb with
  | true =>
    go_enter Tryz.func83, Tryz.ntmps83
    go_wp2_with fail
    refine HC.out.mono ?_; rintro e w1 ⟨rfl, hb1⟩
    rw [show ckE true = 212 from rfl]
    have HB1 := Lib.hid (HB.out.trans (Below.mono hb1 HB.out.size))
    clear hb1
    go_wp2
    go_ret
    exact ⟨rfl, HB1.out⟩
  | false =>
    go_enter Tryz.func83, Tryz.ntmps83
    go_wp2_with fail
    refine HC.out.mono ?_; rintro e w1 ⟨rfl, hb1⟩
    rw [show ckE false = 0 from rfl]
    have HB1 := Lib.hid (HB.out.trans (Below.mono hb1 HB.out.size))
    clear hb1
    go_wp2
    go_ret
    exact ⟨rfl, HB1.out⟩
set_option maxRecDepth 20000 in
set_option maxHeartbeats 4000000 in
theorem keepsBroken_c (f : Nat) (caps : Array Value) (hent : ∀ (args : Array Value) (W : World), (callFunc f args).run Tryz.prog W = .ok (.enter f args) W) (b : Bool) (v : JV) (vs : List Value) (w : World) (okV : Nat → Prop) (hr : Rep w okV v vs)
    (hk : ∀ W : World, Below w.heap.size w W → Calls Tryz.prog f (#[.agg vs.toArray] ++ caps) W (KPost W b)) : Calls Tryz.prog 106 #[.func (.func f) #[] caps, .agg vs.toArray] w (BoolPost w b) := by
  obtain ⟨an, cn, ai, ci, rfl⟩ := hr.form
  obtain ⟨a0, a1, a2, a3, a4⟩ := cells5 w (.int .i64 v.kind) (.int .i64 v.int) (.string v.text) (.slice an v.names.length cn) (.slice ai v.items.length ci) 25
  have hb : Below w.heap.size w ((w.alloc (.cells #[.int .i64 v.kind, .int .i64 v.int, .string v.text, .slice an v.names.length cn, .slice ai v.items.length ci] 25)).alloc (.cells #[.slice none 0 0, .string ⟨#[]⟩] 72)) := (by repeat (first | with_reducible exact Below.refl _ _ | with_reducible refine below_drewN ?_ _ | with_reducible refine Below.drew ?_ | with_reducible refine below_set5 ?_ (by first | (simp; done) | (simp; omega)) | with_reducible refine Below.alloc ?_ (by first | (simp; done) | (simp; omega)) _ | with_reducible refine Below.setCell ?_ (by first | (simp; done) | (simp; omega)) _))
  have HB := Lib.hid hb
  have HC := Lib.hid (hk _ hb)
  have hF := heap_alloc_new (w.alloc (.cells #[.int .i64 v.kind, .int .i64 v.int, .string v.text, .slice an v.names.length cn, .slice ai v.items.length ci] 25)) (.cells #[.slice none 0 0, .string ⟨#[]⟩] 72)
  simp only [World.size_alloc] at hF
  have HF := Lib.hid hF
  clear hk hr hb hF
  go_enter Tryz.func106, Tryz.ntmps106
  go_wp2_with ((refine HC.out.mono ?_); rintro e w1 ⟨rfl, hb1⟩; have hs1 := Below.size hb1; have hF1 := (Below.block hb1 (w.heap.size + 1) (by simp)).trans HF.out; have q2 := cell_of_row w1 _ 0 _ _ _ hF1; have q3 := cell_of_row w1 _ 1 _ _ _ hF1; have q4 := frozen_of_row w1 _ 0 _ _ hF1; have q5 := frozen_of_row w1 _ 1 _ _ hF1; simp only [List.getElem?_toArray, List.getElem?_cons_zero, List.getElem?_cons_succ] at q2 q3; have HF1 := Lib.hid hF1; have HB1 := Lib.hid (HB.out.trans (Below.mono hb1 HB.out.size)); clear hb1 hF1 hent)
  refine bodyPost_ret (results_ct rfl _ _ (w.heap.size + 1) 72 _ (0, 0) _ (by rfl) (set2 HF1.out) Tryz.underlying72 rfl (by kernel_rfl)) rfl ?_
  exact ⟨rfl, below_set2 HB1.out (by omega)⟩
end Go.Proofs.YtnmojmmgkipjcaaGreatDoor
