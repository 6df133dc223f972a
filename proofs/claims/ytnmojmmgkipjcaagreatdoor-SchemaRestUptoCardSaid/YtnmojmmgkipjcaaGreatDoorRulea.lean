/- The rules that count and range. Conditions: what the laws name. -/
import Derived.Test.YtnmojmmgkipjcaaGreatDoorPlaina
import Derived.Test.YtnmojmmgkipjcaaGreatDoorShelf
import Derived.Test.YtnmojmmgkipjcaaGreatDoorCopyl
import Derived.Test.YtnmojmmgkipjcaaGreatDoorMakerb
import Derived.Deep.QuietTactic
import Derived.BigQuiet
import Derived.Lib.QuietBelow
namespace Go.Proofs.YtnmojmmgkipjcaaGreatDoor
open Go.RowKit
abbrev nilF : Value := .agg #[.slice none 0 0, .string ⟨#[]⟩]
/-- texts that a path may be: of a place in a list any -/
def Like (ss : List ByteArray) (p : List (Option ByteArray)) : Prop := ss.length = p.length ∧ ∀ (j : Nat) (s : ByteArray), p[j]? = some (some s) → ss[j]? = some s
def BBroke (p : List (Option ByteArray)) (wd : ByteArray) (w : World) (e : Ending) (w' : World) : Prop :=
  ∃ (a : Option Addr) (c : Nat) (ss : List ByteArray), e = .returned (.tuple #[.agg #[.slice a ss.length c, .string wd], .bool true]) ∧ Hid (ss.length ≤ c ∧ c ≤ maxLen ∧ Like ss p ∧ StrsAt w' (fun b => w.heap.size ≤ b) a ss) ∧ Hid (Below w.heap.size w w')
def BKept (w : World) (e : Ending) (w' : World) : Prop := e = .returned (.tuple #[nilF, .bool false]) ∧ Hid (Below w.heap.size w w')
/-- what a rule answers -/
def BRes (w : World) : FR → Ending → World → Prop
  | none => BKept w
  | some (p, wd) => BBroke p wd w
/-- a rule that is kept or not -/
def boolF (b : Bool) : FR := if b = true then none else some ([], ⟨#[]⟩)
def BoolPost (w : World) (b : Bool) (e : Ending) (w' : World) : Prop := e = .returned (.tuple #[nilF, .bool (!b)]) ∧ Below w.heap.size w w'
theorem bool_res {w w' : World} {b : Bool} {e : Ending} (h : BoolPost w b e w') : BRes w (boolF b) e w' := by
  obtain ⟨rfl, h2⟩ := h
  cases b with
  | true => exact ⟨rfl, Lib.hid h2⟩
  | false => exact ⟨none, 0, [], rfl, Lib.hid ⟨Nat.le_refl _, Nat.zero_le _, ⟨rfl, fun j s h => (by simp at h)⟩, .inl rfl⟩, Lib.hid h2⟩
/-- a contract of what says how large a value is -/
def OfPost (w : World) (n : Int) (b : Bool) (e : Ending) (w' : World) : Prop := e = .returned (.tuple #[.int .i64 n, .bool b]) ∧ Below w.heap.size w w'
theorem runes_q (s : ByteArray) (w : World) (hs : s.size < 4611686018427387904) : Calls Tryz.prog 50 #[.string s] w fun e w' => e = .returned (.int .i64 (Lib.runeCount s)) ∧ Below w.heap.size w w' := by
  refine (Tryz.utf8_RuneCountInString s w (by omega)).mono ?_
  rintro e w' ⟨rfl, pos, rfl⟩
  exact ⟨rfl, (Below.refl _ _).alloc (Nat.le_refl _) _⟩
set_option maxRecDepth 20000 in
set_option maxHeartbeats 4000000 in
theorem of_makers_1_c (v : JV) (vs : List Value) (w : World) (ok : Nat → Prop) (hr : Rep w ok v vs) (hs : v.text.size < 4611686018427387904) : Calls Tryz.prog 47 #[.agg vs.toArray] w (OfPost w (v.items.length : Int) (decide (v.kind = 5))) := by
  obtain ⟨an, cn, ai, ci, rfl⟩ := hr.form
  have hlen : v.items.length ≤ maxLen := by
    obtain ⟨k, i, s, ns, is⟩ := v
    rw [rep_mk] at hr
    obtain ⟨_, _, _, _, _, _, _, _, _, hci, _⟩ := hr
    exact Nat.le_trans hci.1 hci.2
  unfold maxLen at hlen
  obtain ⟨a0, a1, a2, a3, a4⟩ := cells5 w (.int .i64 v.kind) (.int .i64 v.int) (.string v.text) (.slice an v.names.length cn) (.slice ai v.items.length ci) 25
  have HB := Lib.hid (show Below w.heap.size w (w.alloc (.cells #[.int .i64 v.kind, .int .i64 v.int, .string v.text, .slice an v.names.length cn, .slice ai v.items.length ci] 25)) from (Below.refl _ _).alloc (Nat.le_refl _) _)
  clear hr
  go_enter Tryz.func47, Tryz.ntmps47
  go_wp2
  go_quiet (fail)
  go_wp2
  refine bodyPost_ret (results_tmp2 rfl _ _ _) rfl ?_
  exact ⟨by first | rfl | (rw [show (v.kind == 5) = decide (v.kind = 5) from rfl]; rfl), below_drewN HB.out _⟩
set_option maxRecDepth 20000 in
set_option maxHeartbeats 4000000 in
theorem of_makers_2_c (v : JV) (vs : List Value) (w : World) (ok : Nat → Prop) (hr : Rep w ok v vs) (hs : v.text.size < 4611686018427387904) : Calls Tryz.prog 48 #[.agg vs.toArray] w (OfPost w (v.items.length : Int) (decide (v.kind = 5))) := by
  obtain ⟨an, cn, ai, ci, rfl⟩ := hr.form
  have hlen : v.items.length ≤ maxLen := by
    obtain ⟨k, i, s, ns, is⟩ := v
    rw [rep_mk] at hr
    obtain ⟨_, _, _, _, _, _, _, _, _, hci, _⟩ := hr
    exact Nat.le_trans hci.1 hci.2
  unfold maxLen at hlen
  obtain ⟨a0, a1, a2, a3, a4⟩ := cells5 w (.int .i64 v.kind) (.int .i64 v.int) (.string v.text) (.slice an v.names.length cn) (.slice ai v.items.length ci) 25
  have HB := Lib.hid (show Below w.heap.size w (w.alloc (.cells #[.int .i64 v.kind, .int .i64 v.int, .string v.text, .slice an v.names.length cn, .slice ai v.items.length ci] 25)) from (Below.refl _ _).alloc (Nat.le_refl _) _)
  clear hr
  go_enter Tryz.func48, Tryz.ntmps48
  go_wp2
  go_quiet (fail)
  go_wp2
  refine bodyPost_ret (results_tmp2 rfl _ _ _) rfl ?_
  exact ⟨by first | rfl | (rw [show (v.kind == 5) = decide (v.kind = 5) from rfl]; rfl), below_drewN HB.out _⟩
set_option maxRecDepth 20000 in
set_option maxHeartbeats 4000000 in
theorem of_makers_3_c (v : JV) (vs : List Value) (w : World) (ok : Nat → Prop) (hr : Rep w ok v vs) (hs : v.text.size < 4611686018427387904) : Calls Tryz.prog 49 #[.agg vs.toArray] w (OfPost w (Lib.runeCount v.text : Int) (decide (v.kind = 4))) := by
  obtain ⟨an, cn, ai, ci, rfl⟩ := hr.form
  have hlen : v.items.length ≤ maxLen := by
    obtain ⟨k, i, s, ns, is⟩ := v
    rw [rep_mk] at hr
    obtain ⟨_, _, _, _, _, _, _, _, _, hci, _⟩ := hr
    exact Nat.le_trans hci.1 hci.2
  unfold maxLen at hlen
  obtain ⟨a0, a1, a2, a3, a4⟩ := cells5 w (.int .i64 v.kind) (.int .i64 v.int) (.string v.text) (.slice an v.names.length cn) (.slice ai v.items.length ci) 25
  have HB := Lib.hid (show Below w.heap.size w (w.alloc (.cells #[.int .i64 v.kind, .int .i64 v.int, .string v.text, .slice an v.names.length cn, .slice ai v.items.length ci] 25)) from (Below.refl _ _).alloc (Nat.le_refl _) _)
  clear hr
  go_enter Tryz.func49, Tryz.ntmps49
  go_wp2
  have k0 := cell_regrown a0
  have k2 := cell_regrown a2
  refine wp_region_quiet_below (by kernel_rfl) (by kernel_rfl) ?_
  repeat (go_big_quiet_step ((go_at_call 50; exact regB (runes_q _ _ hs))))
  refine wpQuiet_nil ?_
  intro _ hw'
  obtain ⟨⟨dq, osq⟩, hw''⟩ := hw'
  subst hw''
  go_wp2
  refine bodyPost_ret (results_tmp2 rfl _ _ _) rfl ?_
  exact ⟨by first | rfl | (rw [show (v.kind == 4) = decide (v.kind = 4) from rfl]; rfl), below_trans HB.out (below_regrown _ dq osq)⟩
set_option maxRecDepth 20000 in
set_option maxHeartbeats 4000000 in
theorem of_makers_4_c (v : JV) (vs : List Value) (w : World) (ok : Nat → Prop) (hr : Rep w ok v vs) (hs : v.text.size < 4611686018427387904) : Calls Tryz.prog 51 #[.agg vs.toArray] w (OfPost w (Lib.runeCount v.text : Int) (decide (v.kind = 4))) := by
  obtain ⟨an, cn, ai, ci, rfl⟩ := hr.form
  have hlen : v.items.length ≤ maxLen := by
    obtain ⟨k, i, s, ns, is⟩ := v
    rw [rep_mk] at hr
    obtain ⟨_, _, _, _, _, _, _, _, _, hci, _⟩ := hr
    exact Nat.le_trans hci.1 hci.2
  unfold maxLen at hlen
  obtain ⟨a0, a1, a2, a3, a4⟩ := cells5 w (.int .i64 v.kind) (.int .i64 v.int) (.string v.text) (.slice an v.names.length cn) (.slice ai v.items.length ci) 25
  have HB := Lib.hid (show Below w.heap.size w (w.alloc (.cells #[.int .i64 v.kind, .int .i64 v.int, .string v.text, .slice an v.names.length cn, .slice ai v.items.length ci] 25)) from (Below.refl _ _).alloc (Nat.le_refl _) _)
  clear hr
  go_enter Tryz.func51, Tryz.ntmps51
  go_wp2
  have k0 := cell_regrown a0
  have k2 := cell_regrown a2
  refine wp_region_quiet_below (by kernel_rfl) (by kernel_rfl) ?_
  repeat (go_big_quiet_step ((go_at_call 50; exact regB (runes_q _ _ hs))))
  refine wpQuiet_nil ?_
  intro _ hw'
  obtain ⟨⟨dq, osq⟩, hw''⟩ := hw'
  subst hw''
  go_wp2
  refine bodyPost_ret (results_tmp2 rfl _ _ _) rfl ?_
  exact ⟨by first | rfl | (rw [show (v.kind == 4) = decide (v.kind = 4) from rfl]; rfl), below_trans HB.out (below_regrown _ dq osq)⟩
theorem set2 {w : World} {B : Nat} {T : TypeId} {u0 u1 c0 c1 : Value} (h : w.heap[B]? = some (.cells #[u0, u1] T (0, 0))) : ((w.setCell ⟨B, 0, none⟩ c0).setCell ⟨B, 1, none⟩ c1).heap[B]? = some (.cells #[c0, c1] T (0, 0)) :=
  heap_setCell_same _ B 1 _ _ _ (heap_setCell_same w B 0 _ _ _ h)
theorem below_set2 {a w : World} {B n : Nat} {c0 c1 : Value} (h : Below n a w) (hB : n ≤ B) : Below n a ((w.setCell ⟨B, 0, none⟩ c0).setCell ⟨B, 1, none⟩ c1) := (h.setCell hB _).setCell hB _
set_option maxHeartbeats 4000000 in
theorem sizeFits_c (x : JV) (n : Int) (hn : 0 ≤ n ∧ n ≤ 9223372036854775807) (most : Bool) (w : World) (ok : Nat → Prop) (X M : Nat) (hx : BoxAt w ok X x) (hm : CellAt w ok M (.bool most) 4) :
    Calls Tryz.prog 75 #[.int .i64 n, .pointer (some ⟨X, 0, none⟩), .pointer (some ⟨M, 0, none⟩)] w fun e w' => e = .returned (.bool (sizeFits most x.int n)) ∧ w = w' := by
  obtain ⟨_, cs, h1, h2⟩ := hx
  obtain ⟨an, cn, ai, ci, rfl⟩ := h2.form
  obtain ⟨⟨a0, a1, a2, a3, a4⟩, _⟩ := cellsOf5 h1
  have m0 := cell_of_row w _ 0 _ _ _ hm.2
  simp only [List.getElem?_toArray, List.getElem?_cons_zero] at m0
  obtain ⟨hn0, hn1⟩ := hn
  clear h1 h2 hm
  by_cases he : n = x.int
  · have HS := Lib.hid (show sizeFits most x.int n = true by unfold sizeFits; simp [he])
    have e1 : (n == x.int) = true := by simp [he]
    clear he
    go_enter Tryz.func75, Tryz.ntmps75
    go_wp2
    go_ret
    exact ⟨by rw [HS.out]; rfl, rfl⟩
  · have e1 : (n == x.int) = false := by simp [he]
    have HS := Lib.hid (show sizeFits most x.int n = (decide (n < x.int) == most) by unfold sizeFits; rw [e1]; rfl)
    clear he
    go_enter Tryz.func75, Tryz.ntmps75
    go_wp2
    go_ret
    exact ⟨by rw [HS.out]; rfl, rfl⟩
set_option maxRecDepth 20000 in
set_option maxHeartbeats 4000000 in
theorem bi_minItems_c (x kn v : JV) (vs : List Value) (w : World) (ok okv : Nat → Prop) (X M : Nat) (hx : BoxAt w ok X x) (hm : CellAt w ok M (.bool false) 4) (hr : Rep w okv v vs) (hs : v.text.size < 4611686018427387904) :
    Calls Tryz.prog 123 #[.agg #[.func (.func 47) #[] #[], .func (.func 75) #[] #[.pointer (some ⟨X, 0, none⟩), .pointer (some ⟨M, 0, none⟩)]], .agg vs.toArray] w (BoolPost w (leafKept ⟨#[109, 105, 110, 73, 116, 101, 109, 115]⟩ x kn v)) := by
  have hlen : 0 ≤ (v.items.length : Int) ∧ (v.items.length : Int) ≤ 9223372036854775807 := by
    obtain ⟨k, i, s, ns, is⟩ := v
    rw [rep_mk] at hr
    obtain ⟨_, _, _, _, _, _, _, _, _, hci, _⟩ := hr
    unfold maxLen at hci
    simp only [JV.items]
    omega
  obtain ⟨an, cn, ai, ci, rfl⟩ := hr.form
  have hb : Below w.heap.size w (((w.alloc (.cells #[.func (.func 47) #[] #[], .func (.func 75) #[] #[.pointer (some ⟨X, 0, none⟩), .pointer (some ⟨M, 0, none⟩)]] 115)).alloc (.cells #[.int .i64 v.kind, .int .i64 v.int, .string v.text, .slice an v.names.length cn, .slice ai v.items.length ci] 25)).alloc (.cells #[.slice none 0 0, .string ⟨#[]⟩] 72)) := (by repeat (first | with_reducible exact Below.refl _ _ | with_reducible refine below_drewN ?_ _ | with_reducible refine Below.drew ?_ | with_reducible refine below_set5 ?_ (by first | (simp; done) | (simp; omega)) | with_reducible refine Below.alloc ?_ (by first | (simp; done) | (simp; omega)) _ | with_reducible refine Below.setCell ?_ (by first | (simp; done) | (simp; omega)) _))
  have HBW := Lib.hid hb
  have hF := heap_alloc_new ((w.alloc (.cells #[.func (.func 47) #[] #[], .func (.func 75) #[] #[.pointer (some ⟨X, 0, none⟩), .pointer (some ⟨M, 0, none⟩)]] 115)).alloc (.cells #[.int .i64 v.kind, .int .i64 v.int, .string v.text, .slice an v.names.length cn, .slice ai v.items.length ci] 25)) (.cells #[.slice none 0 0, .string ⟨#[]⟩] 72)
  simp only [World.size_alloc] at hF
  have HF := Lib.hid hF
  have HA := Lib.hid (show (((w.alloc (.cells #[.func (.func 47) #[] #[], .func (.func 75) #[] #[.pointer (some ⟨X, 0, none⟩), .pointer (some ⟨M, 0, none⟩)]] 115)).alloc (.cells #[.int .i64 v.kind, .int .i64 v.int, .string v.text, .slice an v.names.length cn, .slice ai v.items.length ci] 25)).alloc (.cells #[.slice none 0 0, .string ⟨#[]⟩] 72)).heap[w.heap.size]? = some (.cells #[.func (.func 47) #[] #[], .func (.func 75) #[] #[.pointer (some ⟨X, 0, none⟩), .pointer (some ⟨M, 0, none⟩)]] 115 (0, 0)) from (heap_alloc_old _ _ (by simp; omega)).trans ((heap_alloc_old _ _ (by simp)).trans (heap_alloc_new w _)))
  have HOF := Lib.hid (of_makers_1_c v _ (((w.alloc (.cells #[.func (.func 47) #[] #[], .func (.func 75) #[] #[.pointer (some ⟨X, 0, none⟩), .pointer (some ⟨M, 0, none⟩)]] 115)).alloc (.cells #[.int .i64 v.kind, .int .i64 v.int, .string v.text, .slice an v.names.length cn, .slice ai v.items.length ci] 25)).alloc (.cells #[.slice none 0 0, .string ⟨#[]⟩] 72)) okv (hr.below hb) hs)
  have HFT := Lib.hid (fun (W : World) (hw : Below (((w.alloc (.cells #[.func (.func 47) #[] #[], .func (.func 75) #[] #[.pointer (some ⟨X, 0, none⟩), .pointer (some ⟨M, 0, none⟩)]] 115)).alloc (.cells #[.int .i64 v.kind, .int .i64 v.int, .string v.text, .slice an v.names.length cn, .slice ai v.items.length ci] 25)).alloc (.cells #[.slice none 0 0, .string ⟨#[]⟩] 72)).heap.size (((w.alloc (.cells #[.func (.func 47) #[] #[], .func (.func 75) #[] #[.pointer (some ⟨X, 0, none⟩), .pointer (some ⟨M, 0, none⟩)]] 115)).alloc (.cells #[.int .i64 v.kind, .int .i64 v.int, .string v.text, .slice an v.names.length cn, .slice ai v.items.length ci] 25)).alloc (.cells #[.slice none 0 0, .string ⟨#[]⟩] 72)) W) => sizeFits_c x (v.items.length : Int) hlen false W ok X M (hx.kept (fun b hlt ho => ⟨ho, (hb.trans (hw.mono hb.size)).block b hlt⟩)) (hm.kept (fun b hlt ho => ⟨ho, (hb.trans (hw.mono hb.size)).block b hlt⟩)))
  have HV := Lib.hid (show leafKept ⟨#[109, 105, 110, 73, 116, 101, 109, 115]⟩ x kn v = (!decide (v.kind = 5) || sizeFits false x.int (v.items.length : Int)) by unfold leafKept; rw [if_neg (by decide), if_neg (by decide), if_neg (by decide), if_neg (by decide), if_pos rfl])
  clear hr hb hx hm hF
  have hww : (((w.alloc (.cells #[.func (.func 47) #[] #[], .func (.func 75) #[] #[.pointer (some ⟨X, 0, none⟩), .pointer (some ⟨M, 0, none⟩)]] 115)).alloc (.cells #[.int .i64 v.kind, .int .i64 v.int, .string v.text, .slice an v.names.length cn, .slice ai v.items.length ci] 25)).alloc (.cells #[.slice none 0 0, .string ⟨#[]⟩] 72)).heap.size = w.heap.size + 1 + 1 + 1 := by simp
  by_cases hk : v.kind = 5
  · have hdk : decide (v.kind = 5) = true := decide_eq_true hk
    have HB := Lib.hid (show leafKept ⟨#[109, 105, 110, 73, 116, 101, 109, 115]⟩ x kn v = sizeFits false x.int (v.items.length : Int) by rw [HV.out, hdk]; rfl)
    rw [hdk] at HOF
    clear hk hdk
    generalize sizeFits false x.int (v.items.length : Int) = bb at *
    go_enter Tryz.func123, Tryz.ntmps123
    go_wp2_with fail
    refine HOF.out.mono ?_; rintro e w1 ⟨rfl, hb1⟩
    have h1 := hb1.size
    simp only [World.size_alloc] at h1
    have hF1 := (hb1.block (w.heap.size + 1 + 1) (by simp)).trans HF.out
    have hA1 := (hb1.block w.heap.size (by simp; omega)).trans HA.out
    have q0 := cell_of_row w1 _ 0 _ _ _ hA1
    have q1 := cell_of_row w1 _ 1 _ _ _ hA1
    have q2 := cell_of_row w1 _ 0 _ _ _ hF1
    have q3 := cell_of_row w1 _ 1 _ _ _ hF1
    have q4 := frozen_of_row w1 _ 0 _ _ hF1
    have q5 := frozen_of_row w1 _ 1 _ _ hF1
    simp only [List.getElem?_toArray, List.getElem?_cons_zero, List.getElem?_cons_succ] at q0 q1 q2 q3
    have HF1 := Lib.hid hF1
    have HB1 := Lib.hid (HBW.out.trans (hb1.mono HBW.out.size))
    have HFT1 := Lib.hid (HFT.out w1 hb1)
    clear hb1 hF1 hA1
    go_wp2_with (go_at_call 75; refine HFT1.out.mono ?_; rintro e w' ⟨rfl, rfl⟩)
    refine bodyPost_ret (results_ct rfl _ _ (w.heap.size + 1 + 1) 72 _ (0, 0) _ (by rfl) (set2 HF1.out) Tryz.underlying72 rfl (by kernel_rfl)) rfl ?_
    exact ⟨by rw [HB.out]; rfl, below_set2 HB1.out (by omega)⟩
  · have hdk : decide (v.kind = 5) = false := decide_eq_false hk
    have HB := Lib.hid (show leafKept ⟨#[109, 105, 110, 73, 116, 101, 109, 115]⟩ x kn v = true by rw [HV.out, hdk]; rfl)
    rw [hdk] at HOF
    clear hk hdk
    go_enter Tryz.func123, Tryz.ntmps123
    go_wp2_with fail
    refine HOF.out.mono ?_; rintro e w1 ⟨rfl, hb1⟩
    have h1 := hb1.size
    simp only [World.size_alloc] at h1
    have hF1 := (hb1.block (w.heap.size + 1 + 1) (by simp)).trans HF.out
    have q2 := cell_of_row w1 _ 0 _ _ _ hF1
    have q3 := cell_of_row w1 _ 1 _ _ _ hF1
    have q4 := frozen_of_row w1 _ 0 _ _ hF1
    have q5 := frozen_of_row w1 _ 1 _ _ hF1
    simp only [List.getElem?_toArray, List.getElem?_cons_zero, List.getElem?_cons_succ] at q2 q3
    have HF1 := Lib.hid hF1
    have HB1 := Lib.hid (HBW.out.trans (hb1.mono HBW.out.size))
    clear hb1 hF1
    go_wp2
    refine bodyPost_ret (results_ct rfl _ _ (w.heap.size + 1 + 1) 72 _ (0, 0) _ (by rfl) (set2 HF1.out) Tryz.underlying72 rfl (by kernel_rfl)) rfl ?_
    exact ⟨by rw [HB.out]; rfl, below_set2 HB1.out (by omega)⟩
set_option maxRecDepth 20000 in
set_option maxHeartbeats 4000000 in
theorem bi_maxItems_c (x kn v : JV) (vs : List Value) (w : World) (ok okv : Nat → Prop) (X M : Nat) (hx : BoxAt w ok X x) (hm : CellAt w ok M (.bool true) 4) (hr : Rep w okv v vs) (hs : v.text.size < 4611686018427387904) :
    Calls Tryz.prog 123 #[.agg #[.func (.func 48) #[] #[], .func (.func 75) #[] #[.pointer (some ⟨X, 0, none⟩), .pointer (some ⟨M, 0, none⟩)]], .agg vs.toArray] w (BoolPost w (leafKept ⟨#[109, 97, 120, 73, 116, 101, 109, 115]⟩ x kn v)) := by
  have hlen : 0 ≤ (v.items.length : Int) ∧ (v.items.length : Int) ≤ 9223372036854775807 := by
    obtain ⟨k, i, s, ns, is⟩ := v
    rw [rep_mk] at hr
    obtain ⟨_, _, _, _, _, _, _, _, _, hci, _⟩ := hr
    unfold maxLen at hci
    simp only [JV.items]
    omega
  obtain ⟨an, cn, ai, ci, rfl⟩ := hr.form
  have hb : Below w.heap.size w (((w.alloc (.cells #[.func (.func 48) #[] #[], .func (.func 75) #[] #[.pointer (some ⟨X, 0, none⟩), .pointer (some ⟨M, 0, none⟩)]] 115)).alloc (.cells #[.int .i64 v.kind, .int .i64 v.int, .string v.text, .slice an v.names.length cn, .slice ai v.items.length ci] 25)).alloc (.cells #[.slice none 0 0, .string ⟨#[]⟩] 72)) := (by repeat (first | with_reducible exact Below.refl _ _ | with_reducible refine below_drewN ?_ _ | with_reducible refine Below.drew ?_ | with_reducible refine below_set5 ?_ (by first | (simp; done) | (simp; omega)) | with_reducible refine Below.alloc ?_ (by first | (simp; done) | (simp; omega)) _ | with_reducible refine Below.setCell ?_ (by first | (simp; done) | (simp; omega)) _))
  have HBW := Lib.hid hb
  have hF := heap_alloc_new ((w.alloc (.cells #[.func (.func 48) #[] #[], .func (.func 75) #[] #[.pointer (some ⟨X, 0, none⟩), .pointer (some ⟨M, 0, none⟩)]] 115)).alloc (.cells #[.int .i64 v.kind, .int .i64 v.int, .string v.text, .slice an v.names.length cn, .slice ai v.items.length ci] 25)) (.cells #[.slice none 0 0, .string ⟨#[]⟩] 72)
  simp only [World.size_alloc] at hF
  have HF := Lib.hid hF
  have HA := Lib.hid (show (((w.alloc (.cells #[.func (.func 48) #[] #[], .func (.func 75) #[] #[.pointer (some ⟨X, 0, none⟩), .pointer (some ⟨M, 0, none⟩)]] 115)).alloc (.cells #[.int .i64 v.kind, .int .i64 v.int, .string v.text, .slice an v.names.length cn, .slice ai v.items.length ci] 25)).alloc (.cells #[.slice none 0 0, .string ⟨#[]⟩] 72)).heap[w.heap.size]? = some (.cells #[.func (.func 48) #[] #[], .func (.func 75) #[] #[.pointer (some ⟨X, 0, none⟩), .pointer (some ⟨M, 0, none⟩)]] 115 (0, 0)) from (heap_alloc_old _ _ (by simp; omega)).trans ((heap_alloc_old _ _ (by simp)).trans (heap_alloc_new w _)))
  have HOF := Lib.hid (of_makers_2_c v _ (((w.alloc (.cells #[.func (.func 48) #[] #[], .func (.func 75) #[] #[.pointer (some ⟨X, 0, none⟩), .pointer (some ⟨M, 0, none⟩)]] 115)).alloc (.cells #[.int .i64 v.kind, .int .i64 v.int, .string v.text, .slice an v.names.length cn, .slice ai v.items.length ci] 25)).alloc (.cells #[.slice none 0 0, .string ⟨#[]⟩] 72)) okv (hr.below hb) hs)
  have HFT := Lib.hid (fun (W : World) (hw : Below (((w.alloc (.cells #[.func (.func 48) #[] #[], .func (.func 75) #[] #[.pointer (some ⟨X, 0, none⟩), .pointer (some ⟨M, 0, none⟩)]] 115)).alloc (.cells #[.int .i64 v.kind, .int .i64 v.int, .string v.text, .slice an v.names.length cn, .slice ai v.items.length ci] 25)).alloc (.cells #[.slice none 0 0, .string ⟨#[]⟩] 72)).heap.size (((w.alloc (.cells #[.func (.func 48) #[] #[], .func (.func 75) #[] #[.pointer (some ⟨X, 0, none⟩), .pointer (some ⟨M, 0, none⟩)]] 115)).alloc (.cells #[.int .i64 v.kind, .int .i64 v.int, .string v.text, .slice an v.names.length cn, .slice ai v.items.length ci] 25)).alloc (.cells #[.slice none 0 0, .string ⟨#[]⟩] 72)) W) => sizeFits_c x (v.items.length : Int) hlen true W ok X M (hx.kept (fun b hlt ho => ⟨ho, (hb.trans (hw.mono hb.size)).block b hlt⟩)) (hm.kept (fun b hlt ho => ⟨ho, (hb.trans (hw.mono hb.size)).block b hlt⟩)))
  have HV := Lib.hid (show leafKept ⟨#[109, 97, 120, 73, 116, 101, 109, 115]⟩ x kn v = (!decide (v.kind = 5) || sizeFits true x.int (v.items.length : Int)) by unfold leafKept; rw [if_neg (by decide), if_neg (by decide), if_neg (by decide), if_neg (by decide), if_neg (by decide), if_pos rfl])
  clear hr hb hx hm hF
  have hww : (((w.alloc (.cells #[.func (.func 48) #[] #[], .func (.func 75) #[] #[.pointer (some ⟨X, 0, none⟩), .pointer (some ⟨M, 0, none⟩)]] 115)).alloc (.cells #[.int .i64 v.kind, .int .i64 v.int, .string v.text, .slice an v.names.length cn, .slice ai v.items.length ci] 25)).alloc (.cells #[.slice none 0 0, .string ⟨#[]⟩] 72)).heap.size = w.heap.size + 1 + 1 + 1 := by simp
  by_cases hk : v.kind = 5
  · have hdk : decide (v.kind = 5) = true := decide_eq_true hk
    have HB := Lib.hid (show leafKept ⟨#[109, 97, 120, 73, 116, 101, 109, 115]⟩ x kn v = sizeFits true x.int (v.items.length : Int) by rw [HV.out, hdk]; rfl)
    rw [hdk] at HOF
    clear hk hdk
    generalize sizeFits true x.int (v.items.length : Int) = bb at *
    go_enter Tryz.func123, Tryz.ntmps123
    go_wp2_with fail
    refine HOF.out.mono ?_; rintro e w1 ⟨rfl, hb1⟩
    have h1 := hb1.size
    simp only [World.size_alloc] at h1
    have hF1 := (hb1.block (w.heap.size + 1 + 1) (by simp)).trans HF.out
    have hA1 := (hb1.block w.heap.size (by simp; omega)).trans HA.out
    have q0 := cell_of_row w1 _ 0 _ _ _ hA1
    have q1 := cell_of_row w1 _ 1 _ _ _ hA1
    have q2 := cell_of_row w1 _ 0 _ _ _ hF1
    have q3 := cell_of_row w1 _ 1 _ _ _ hF1
    have q4 := frozen_of_row w1 _ 0 _ _ hF1
    have q5 := frozen_of_row w1 _ 1 _ _ hF1
    simp only [List.getElem?_toArray, List.getElem?_cons_zero, List.getElem?_cons_succ] at q0 q1 q2 q3
    have HF1 := Lib.hid hF1
    have HB1 := Lib.hid (HBW.out.trans (hb1.mono HBW.out.size))
    have HFT1 := Lib.hid (HFT.out w1 hb1)
    clear hb1 hF1 hA1
    go_wp2_with (go_at_call 75; refine HFT1.out.mono ?_; rintro e w' ⟨rfl, rfl⟩)
    refine bodyPost_ret (results_ct rfl _ _ (w.heap.size + 1 + 1) 72 _ (0, 0) _ (by rfl) (set2 HF1.out) Tryz.underlying72 rfl (by kernel_rfl)) rfl ?_
    exact ⟨by rw [HB.out]; rfl, below_set2 HB1.out (by omega)⟩
  · have hdk : decide (v.kind = 5) = false := decide_eq_false hk
    have HB := Lib.hid (show leafKept ⟨#[109, 97, 120, 73, 116, 101, 109, 115]⟩ x kn v = true by rw [HV.out, hdk]; rfl)
    rw [hdk] at HOF
    clear hk hdk
    go_enter Tryz.func123, Tryz.ntmps123
    go_wp2_with fail
    refine HOF.out.mono ?_; rintro e w1 ⟨rfl, hb1⟩
    have h1 := hb1.size
    simp only [World.size_alloc] at h1
    have hF1 := (hb1.block (w.heap.size + 1 + 1) (by simp)).trans HF.out
    have q2 := cell_of_row w1 _ 0 _ _ _ hF1
    have q3 := cell_of_row w1 _ 1 _ _ _ hF1
    have q4 := frozen_of_row w1 _ 0 _ _ hF1
    have q5 := frozen_of_row w1 _ 1 _ _ hF1
    simp only [List.getElem?_toArray, List.getElem?_cons_zero, List.getElem?_cons_succ] at q2 q3
    have HF1 := Lib.hid hF1
    have HB1 := Lib.hid (HBW.out.trans (hb1.mono HBW.out.size))
    clear hb1 hF1
    go_wp2
    refine bodyPost_ret (results_ct rfl _ _ (w.heap.size + 1 + 1) 72 _ (0, 0) _ (by rfl) (set2 HF1.out) Tryz.underlying72 rfl (by kernel_rfl)) rfl ?_
    exact ⟨by rw [HB.out]; rfl, below_set2 HB1.out (by omega)⟩
set_option maxRecDepth 20000 in
set_option maxHeartbeats 4000000 in
theorem bi_minLength_c (x kn v : JV) (vs : List Value) (w : World) (ok okv : Nat → Prop) (X M : Nat) (hx : BoxAt w ok X x) (hm : CellAt w ok M (.bool false) 4) (hr : Rep w okv v vs) (hs : v.text.size < 4611686018427387904) :
    Calls Tryz.prog 123 #[.agg #[.func (.func 49) #[] #[], .func (.func 75) #[] #[.pointer (some ⟨X, 0, none⟩), .pointer (some ⟨M, 0, none⟩)]], .agg vs.toArray] w (BoolPost w (leafKept ⟨#[109, 105, 110, 76, 101, 110, 103, 116, 104]⟩ x kn v)) := by
  have hlen : 0 ≤ (Lib.runeCount v.text : Int) ∧ (Lib.runeCount v.text : Int) ≤ 9223372036854775807 := by
    have h1 := Lib.runeCount_le v.text
    omega
  obtain ⟨an, cn, ai, ci, rfl⟩ := hr.form
  have hb : Below w.heap.size w (((w.alloc (.cells #[.func (.func 49) #[] #[], .func (.func 75) #[] #[.pointer (some ⟨X, 0, none⟩), .pointer (some ⟨M, 0, none⟩)]] 115)).alloc (.cells #[.int .i64 v.kind, .int .i64 v.int, .string v.text, .slice an v.names.length cn, .slice ai v.items.length ci] 25)).alloc (.cells #[.slice none 0 0, .string ⟨#[]⟩] 72)) := (by repeat (first | with_reducible exact Below.refl _ _ | with_reducible refine below_drewN ?_ _ | with_reducible refine Below.drew ?_ | with_reducible refine below_set5 ?_ (by first | (simp; done) | (simp; omega)) | with_reducible refine Below.alloc ?_ (by first | (simp; done) | (simp; omega)) _ | with_reducible refine Below.setCell ?_ (by first | (simp; done) | (simp; omega)) _))
  have HBW := Lib.hid hb
  have hF := heap_alloc_new ((w.alloc (.cells #[.func (.func 49) #[] #[], .func (.func 75) #[] #[.pointer (some ⟨X, 0, none⟩), .pointer (some ⟨M, 0, none⟩)]] 115)).alloc (.cells #[.int .i64 v.kind, .int .i64 v.int, .string v.text, .slice an v.names.length cn, .slice ai v.items.length ci] 25)) (.cells #[.slice none 0 0, .string ⟨#[]⟩] 72)
  simp only [World.size_alloc] at hF
  have HF := Lib.hid hF
  have HA := Lib.hid (show (((w.alloc (.cells #[.func (.func 49) #[] #[], .func (.func 75) #[] #[.pointer (some ⟨X, 0, none⟩), .pointer (some ⟨M, 0, none⟩)]] 115)).alloc (.cells #[.int .i64 v.kind, .int .i64 v.int, .string v.text, .slice an v.names.length cn, .slice ai v.items.length ci] 25)).alloc (.cells #[.slice none 0 0, .string ⟨#[]⟩] 72)).heap[w.heap.size]? = some (.cells #[.func (.func 49) #[] #[], .func (.func 75) #[] #[.pointer (some ⟨X, 0, none⟩), .pointer (some ⟨M, 0, none⟩)]] 115 (0, 0)) from (heap_alloc_old _ _ (by simp; omega)).trans ((heap_alloc_old _ _ (by simp)).trans (heap_alloc_new w _)))
  have HOF := Lib.hid (of_makers_3_c v _ (((w.alloc (.cells #[.func (.func 49) #[] #[], .func (.func 75) #[] #[.pointer (some ⟨X, 0, none⟩), .pointer (some ⟨M, 0, none⟩)]] 115)).alloc (.cells #[.int .i64 v.kind, .int .i64 v.int, .string v.text, .slice an v.names.length cn, .slice ai v.items.length ci] 25)).alloc (.cells #[.slice none 0 0, .string ⟨#[]⟩] 72)) okv (hr.below hb) hs)
  have HFT := Lib.hid (fun (W : World) (hw : Below (((w.alloc (.cells #[.func (.func 49) #[] #[], .func (.func 75) #[] #[.pointer (some ⟨X, 0, none⟩), .pointer (some ⟨M, 0, none⟩)]] 115)).alloc (.cells #[.int .i64 v.kind, .int .i64 v.int, .string v.text, .slice an v.names.length cn, .slice ai v.items.length ci] 25)).alloc (.cells #[.slice none 0 0, .string ⟨#[]⟩] 72)).heap.size (((w.alloc (.cells #[.func (.func 49) #[] #[], .func (.func 75) #[] #[.pointer (some ⟨X, 0, none⟩), .pointer (some ⟨M, 0, none⟩)]] 115)).alloc (.cells #[.int .i64 v.kind, .int .i64 v.int, .string v.text, .slice an v.names.length cn, .slice ai v.items.length ci] 25)).alloc (.cells #[.slice none 0 0, .string ⟨#[]⟩] 72)) W) => sizeFits_c x (Lib.runeCount v.text : Int) hlen false W ok X M (hx.kept (fun b hlt ho => ⟨ho, (hb.trans (hw.mono hb.size)).block b hlt⟩)) (hm.kept (fun b hlt ho => ⟨ho, (hb.trans (hw.mono hb.size)).block b hlt⟩)))
  have HV := Lib.hid (show leafKept ⟨#[109, 105, 110, 76, 101, 110, 103, 116, 104]⟩ x kn v = (!decide (v.kind = 4) || sizeFits false x.int (Lib.runeCount v.text : Int)) by unfold leafKept; rw [if_neg (by decide), if_neg (by decide), if_neg (by decide), if_neg (by decide), if_neg (by decide), if_neg (by decide), if_pos rfl])
  clear hr hb hx hm hF
  have hww : (((w.alloc (.cells #[.func (.func 49) #[] #[], .func (.func 75) #[] #[.pointer (some ⟨X, 0, none⟩), .pointer (some ⟨M, 0, none⟩)]] 115)).alloc (.cells #[.int .i64 v.kind, .int .i64 v.int, .string v.text, .slice an v.names.length cn, .slice ai v.items.length ci] 25)).alloc (.cells #[.slice none 0 0, .string ⟨#[]⟩] 72)).heap.size = w.heap.size + 1 + 1 + 1 := by simp
  by_cases hk : v.kind = 4
  · have hdk : decide (v.kind = 4) = true := decide_eq_true hk
    have HB := Lib.hid (show leafKept ⟨#[109, 105, 110, 76, 101, 110, 103, 116, 104]⟩ x kn v = sizeFits false x.int (Lib.runeCount v.text : Int) by rw [HV.out, hdk]; rfl)
    rw [hdk] at HOF
    clear hk hdk
    generalize sizeFits false x.int (Lib.runeCount v.text : Int) = bb at *
    go_enter Tryz.func123, Tryz.ntmps123
    go_wp2_with fail
    refine HOF.out.mono ?_; rintro e w1 ⟨rfl, hb1⟩
    have h1 := hb1.size
    simp only [World.size_alloc] at h1
    have hF1 := (hb1.block (w.heap.size + 1 + 1) (by simp)).trans HF.out
    have hA1 := (hb1.block w.heap.size (by simp; omega)).trans HA.out
    have q0 := cell_of_row w1 _ 0 _ _ _ hA1
    have q1 := cell_of_row w1 _ 1 _ _ _ hA1
    have q2 := cell_of_row w1 _ 0 _ _ _ hF1
    have q3 := cell_of_row w1 _ 1 _ _ _ hF1
    have q4 := frozen_of_row w1 _ 0 _ _ hF1
    have q5 := frozen_of_row w1 _ 1 _ _ hF1
    simp only [List.getElem?_toArray, List.getElem?_cons_zero, List.getElem?_cons_succ] at q0 q1 q2 q3
    have HF1 := Lib.hid hF1
    have HB1 := Lib.hid (HBW.out.trans (hb1.mono HBW.out.size))
    have HFT1 := Lib.hid (HFT.out w1 hb1)
    clear hb1 hF1 hA1
    go_wp2_with (go_at_call 75; refine HFT1.out.mono ?_; rintro e w' ⟨rfl, rfl⟩)
    refine bodyPost_ret (results_ct rfl _ _ (w.heap.size + 1 + 1) 72 _ (0, 0) _ (by rfl) (set2 HF1.out) Tryz.underlying72 rfl (by kernel_rfl)) rfl ?_
    exact ⟨by rw [HB.out]; rfl, below_set2 HB1.out (by omega)⟩
  · have hdk : decide (v.kind = 4) = false := decide_eq_false hk
    have HB := Lib.hid (show leafKept ⟨#[109, 105, 110, 76, 101, 110, 103, 116, 104]⟩ x kn v = true by rw [HV.out, hdk]; rfl)
    rw [hdk] at HOF
    clear hk hdk
    go_enter Tryz.func123, Tryz.ntmps123
    go_wp2_with fail
    refine HOF.out.mono ?_; rintro e w1 ⟨rfl, hb1⟩
    have h1 := hb1.size
    simp only [World.size_alloc] at h1
    have hF1 := (hb1.block (w.heap.size + 1 + 1) (by simp)).trans HF.out
    have q2 := cell_of_row w1 _ 0 _ _ _ hF1
    have q3 := cell_of_row w1 _ 1 _ _ _ hF1
    have q4 := frozen_of_row w1 _ 0 _ _ hF1
    have q5 := frozen_of_row w1 _ 1 _ _ hF1
    simp only [List.getElem?_toArray, List.getElem?_cons_zero, List.getElem?_cons_succ] at q2 q3
    have HF1 := Lib.hid hF1
    have HB1 := Lib.hid (HBW.out.trans (hb1.mono HBW.out.size))
    clear hb1 hF1
    go_wp2
    refine bodyPost_ret (results_ct rfl _ _ (w.heap.size + 1 + 1) 72 _ (0, 0) _ (by rfl) (set2 HF1.out) Tryz.underlying72 rfl (by kernel_rfl)) rfl ?_
    exact ⟨by rw [HB.out]; rfl, below_set2 HB1.out (by omega)⟩
set_option maxRecDepth 20000 in
set_option maxHeartbeats 4000000 in
theorem bi_maxLength_c (x kn v : JV) (vs : List Value) (w : World) (ok okv : Nat → Prop) (X M : Nat) (hx : BoxAt w ok X x) (hm : CellAt w ok M (.bool true) 4) (hr : Rep w okv v vs) (hs : v.text.size < 4611686018427387904) :
    Calls Tryz.prog 123 #[.agg #[.func (.func 51) #[] #[], .func (.func 75) #[] #[.pointer (some ⟨X, 0, none⟩), .pointer (some ⟨M, 0, none⟩)]], .agg vs.toArray] w (BoolPost w (leafKept ⟨#[109, 97, 120, 76, 101, 110, 103, 116, 104]⟩ x kn v)) := by
  have hlen : 0 ≤ (Lib.runeCount v.text : Int) ∧ (Lib.runeCount v.text : Int) ≤ 9223372036854775807 := by
    have h1 := Lib.runeCount_le v.text
    omega
  obtain ⟨an, cn, ai, ci, rfl⟩ := hr.form
  have hb : Below w.heap.size w (((w.alloc (.cells #[.func (.func 51) #[] #[], .func (.func 75) #[] #[.pointer (some ⟨X, 0, none⟩), .pointer (some ⟨M, 0, none⟩)]] 115)).alloc (.cells #[.int .i64 v.kind, .int .i64 v.int, .string v.text, .slice an v.names.length cn, .slice ai v.items.length ci] 25)).alloc (.cells #[.slice none 0 0, .string ⟨#[]⟩] 72)) := (by repeat (first | with_reducible exact Below.refl _ _ | with_reducible refine below_drewN ?_ _ | with_reducible refine Below.drew ?_ | with_reducible refine below_set5 ?_ (by first | (simp; done) | (simp; omega)) | with_reducible refine Below.alloc ?_ (by first | (simp; done) | (simp; omega)) _ | with_reducible refine Below.setCell ?_ (by first | (simp; done) | (simp; omega)) _))
  have HBW := Lib.hid hb
  have hF := heap_alloc_new ((w.alloc (.cells #[.func (.func 51) #[] #[], .func (.func 75) #[] #[.pointer (some ⟨X, 0, none⟩), .pointer (some ⟨M, 0, none⟩)]] 115)).alloc (.cells #[.int .i64 v.kind, .int .i64 v.int, .string v.text, .slice an v.names.length cn, .slice ai v.items.length ci] 25)) (.cells #[.slice none 0 0, .string ⟨#[]⟩] 72)
  simp only [World.size_alloc] at hF
  have HF := Lib.hid hF
  have HA := Lib.hid (show (((w.alloc (.cells #[.func (.func 51) #[] #[], .func (.func 75) #[] #[.pointer (some ⟨X, 0, none⟩), .pointer (some ⟨M, 0, none⟩)]] 115)).alloc (.cells #[.int .i64 v.kind, .int .i64 v.int, .string v.text, .slice an v.names.length cn, .slice ai v.items.length ci] 25)).alloc (.cells #[.slice none 0 0, .string ⟨#[]⟩] 72)).heap[w.heap.size]? = some (.cells #[.func (.func 51) #[] #[], .func (.func 75) #[] #[.pointer (some ⟨X, 0, none⟩), .pointer (some ⟨M, 0, none⟩)]] 115 (0, 0)) from (heap_alloc_old _ _ (by simp; omega)).trans ((heap_alloc_old _ _ (by simp)).trans (heap_alloc_new w _)))
  have HOF := Lib.hid (of_makers_4_c v _ (((w.alloc (.cells #[.func (.func 51) #[] #[], .func (.func 75) #[] #[.pointer (some ⟨X, 0, none⟩), .pointer (some ⟨M, 0, none⟩)]] 115)).alloc (.cells #[.int .i64 v.kind, .int .i64 v.int, .string v.text, .slice an v.names.length cn, .slice ai v.items.length ci] 25)).alloc (.cells #[.slice none 0 0, .string ⟨#[]⟩] 72)) okv (hr.below hb) hs)
  have HFT := Lib.hid (fun (W : World) (hw : Below (((w.alloc (.cells #[.func (.func 51) #[] #[], .func (.func 75) #[] #[.pointer (some ⟨X, 0, none⟩), .pointer (some ⟨M, 0, none⟩)]] 115)).alloc (.cells #[.int .i64 v.kind, .int .i64 v.int, .string v.text, .slice an v.names.length cn, .slice ai v.items.length ci] 25)).alloc (.cells #[.slice none 0 0, .string ⟨#[]⟩] 72)).heap.size (((w.alloc (.cells #[.func (.func 51) #[] #[], .func (.func 75) #[] #[.pointer (some ⟨X, 0, none⟩), .pointer (some ⟨M, 0, none⟩)]] 115)).alloc (.cells #[.int .i64 v.kind, .int .i64 v.int, .string v.text, .slice an v.names.length cn, .slice ai v.items.length ci] 25)).alloc (.cells #[.slice none 0 0, .string ⟨#[]⟩] 72)) W) => sizeFits_c x (Lib.runeCount v.text : Int) hlen true W ok X M (hx.kept (fun b hlt ho => ⟨ho, (hb.trans (hw.mono hb.size)).block b hlt⟩)) (hm.kept (fun b hlt ho => ⟨ho, (hb.trans (hw.mono hb.size)).block b hlt⟩)))
  have HV := Lib.hid (show leafKept ⟨#[109, 97, 120, 76, 101, 110, 103, 116, 104]⟩ x kn v = (!decide (v.kind = 4) || sizeFits true x.int (Lib.runeCount v.text : Int)) by unfold leafKept; rw [if_neg (by decide), if_neg (by decide), if_neg (by decide), if_neg (by decide), if_neg (by decide), if_neg (by decide), if_neg (by decide), if_pos rfl])
  clear hr hb hx hm hF
  have hww : (((w.alloc (.cells #[.func (.func 51) #[] #[], .func (.func 75) #[] #[.pointer (some ⟨X, 0, none⟩), .pointer (some ⟨M, 0, none⟩)]] 115)).alloc (.cells #[.int .i64 v.kind, .int .i64 v.int, .string v.text, .slice an v.names.length cn, .slice ai v.items.length ci] 25)).alloc (.cells #[.slice none 0 0, .string ⟨#[]⟩] 72)).heap.size = w.heap.size + 1 + 1 + 1 := by simp
  by_cases hk : v.kind = 4
  · have hdk : decide (v.kind = 4) = true := decide_eq_true hk
    have HB := Lib.hid (show leafKept ⟨#[109, 97, 120, 76, 101, 110, 103, 116, 104]⟩ x kn v = sizeFits true x.int (Lib.runeCount v.text : Int) by rw [HV.out, hdk]; rfl)
    rw [hdk] at HOF
    clear hk hdk
    generalize sizeFits true x.int (Lib.runeCount v.text : Int) = bb at *
    go_enter Tryz.func123, Tryz.ntmps123
    go_wp2_with fail
    refine HOF.out.mono ?_; rintro e w1 ⟨rfl, hb1⟩
    have h1 := hb1.size
    simp only [World.size_alloc] at h1
    have hF1 := (hb1.block (w.heap.size + 1 + 1) (by simp)).trans HF.out
    have hA1 := (hb1.block w.heap.size (by simp; omega)).trans HA.out
    have q0 := cell_of_row w1 _ 0 _ _ _ hA1
    have q1 := cell_of_row w1 _ 1 _ _ _ hA1
    have q2 := cell_of_row w1 _ 0 _ _ _ hF1
    have q3 := cell_of_row w1 _ 1 _ _ _ hF1
    have q4 := frozen_of_row w1 _ 0 _ _ hF1
    have q5 := frozen_of_row w1 _ 1 _ _ hF1
    simp only [List.getElem?_toArray, List.getElem?_cons_zero, List.getElem?_cons_succ] at q0 q1 q2 q3
    have HF1 := Lib.hid hF1
    have HB1 := Lib.hid (HBW.out.trans (hb1.mono HBW.out.size))
    have HFT1 := Lib.hid (HFT.out w1 hb1)
    clear hb1 hF1 hA1
    go_wp2_with (go_at_call 75; refine HFT1.out.mono ?_; rintro e w' ⟨rfl, rfl⟩)
    refine bodyPost_ret (results_ct rfl _ _ (w.heap.size + 1 + 1) 72 _ (0, 0) _ (by rfl) (set2 HF1.out) Tryz.underlying72 rfl (by kernel_rfl)) rfl ?_
    exact ⟨by rw [HB.out]; rfl, below_set2 HB1.out (by omega)⟩
  · have hdk : decide (v.kind = 4) = false := decide_eq_false hk
    have HB := Lib.hid (show leafKept ⟨#[109, 97, 120, 76, 101, 110, 103, 116, 104]⟩ x kn v = true by rw [HV.out, hdk]; rfl)
    rw [hdk] at HOF
    clear hk hdk
    go_enter Tryz.func123, Tryz.ntmps123
    go_wp2_with fail
    refine HOF.out.mono ?_; rintro e w1 ⟨rfl, hb1⟩
    have h1 := hb1.size
    simp only [World.size_alloc] at h1
    have hF1 := (hb1.block (w.heap.size + 1 + 1) (by simp)).trans HF.out
    have q2 := cell_of_row w1 _ 0 _ _ _ hF1
    have q3 := cell_of_row w1 _ 1 _ _ _ hF1
    have q4 := frozen_of_row w1 _ 0 _ _ hF1
    have q5 := frozen_of_row w1 _ 1 _ _ hF1
    simp only [List.getElem?_toArray, List.getElem?_cons_zero, List.getElem?_cons_succ] at q2 q3
    have HF1 := Lib.hid hF1
    have HB1 := Lib.hid (HBW.out.trans (hb1.mono HBW.out.size))
    clear hb1 hF1
    go_wp2
    refine bodyPost_ret (results_ct rfl _ _ (w.heap.size + 1 + 1) 72 _ (0, 0) _ (by rfl) (set2 HF1.out) Tryz.underlying72 rfl (by kernel_rfl)) rfl ?_
    exact ⟨by rw [HB.out]; rfl, below_set2 HB1.out (by omega)⟩
end Go.Proofs.YtnmojmmgkipjcaaGreatDoor
namespace Go.Proofs.YtnmojmmgkipjcaaGreatDoor
open Go.RowKit
def minimumB (a b : Int) : Bool := decide (b ≤ a)
set_option maxHeartbeats 4000000 in
theorem minimum_f (a b : Int) (ha : -9223372036854775808 ≤ a ∧ a ≤ 9223372036854775807) (hb : -9223372036854775808 ≤ b ∧ b ≤ 9223372036854775807) (w : World) : Calls Tryz.prog 53 #[.int .i64 a, .int .i64 b] w fun e w' => e = .returned (.bool (minimumB a b)) ∧ w = w' := by
  obtain ⟨ha0, ha1⟩ := ha
  obtain ⟨hb0, hb1⟩ := hb
  have hne : True := trivial
  go_enter Tryz.func53, Tryz.ntmps53
  go_wp2
  go_ret
  unfold minimumB
  exact ⟨by simp, rfl⟩
set_option maxHeartbeats 4000000 in
theorem minimum_g (x : JV) (hx1 : -9223372036854775808 ≤ x.int) (n : Int) (hn : -9223372036854775808 ≤ n ∧ n ≤ 9223372036854775807) (w : World) (ok : Nat → Prop) (X O : Nat) (hx : BoxAt w ok X x) (ho : CellAt w ok O (.func (.func 53) #[] #[]) 94) :
    Calls Tryz.prog 78 #[.int .i64 n, .pointer (some ⟨O, 0, none⟩), .pointer (some ⟨X, 0, none⟩)] w fun e w' => e = .returned (.bool (minimumB n x.int)) ∧ w = w' := by
  obtain ⟨_, cs, h1, h2⟩ := hx
  have hxi : -9223372036854775808 ≤ x.int ∧ x.int ≤ 9223372036854775807 := by
    obtain ⟨k, i, s, ns, is⟩ := x
    rw [rep_mk] at h2
    exact ⟨hx1, h2.2.1.2⟩
  have HF := Lib.hid (fun (W : World) => minimum_f n x.int hn hxi W)
  obtain ⟨an, cn, ai, ci, rfl⟩ := h2.form
  obtain ⟨⟨a0, a1, a2, a3, a4⟩, _⟩ := cellsOf5 h1
  have m0 := cell_of_row w _ 0 _ _ _ ho.2
  simp only [List.getElem?_toArray, List.getElem?_cons_zero] at m0
  clear h1 h2 ho hx1 hxi hn
  go_enter Tryz.func78, Tryz.ntmps78
  go_wp2_with (go_at_call 53; refine (HF.out _).mono ?_; rintro e w' ⟨rfl, rfl⟩)
  go_ret
  exact ⟨rfl, rfl⟩
def maximumB (a b : Int) : Bool := decide (a ≤ b)
set_option maxHeartbeats 4000000 in
theorem maximum_f (a b : Int) (ha : -9223372036854775808 ≤ a ∧ a ≤ 9223372036854775807) (hb : -9223372036854775808 ≤ b ∧ b ≤ 9223372036854775807) (w : World) : Calls Tryz.prog 54 #[.int .i64 a, .int .i64 b] w fun e w' => e = .returned (.bool (maximumB a b)) ∧ w = w' := by
  obtain ⟨ha0, ha1⟩ := ha
  obtain ⟨hb0, hb1⟩ := hb
  have hne : True := trivial
  go_enter Tryz.func54, Tryz.ntmps54
  go_wp2
  go_ret
  unfold maximumB
  exact ⟨by simp, rfl⟩
set_option maxHeartbeats 4000000 in
theorem maximum_g (x : JV) (hx1 : -9223372036854775808 ≤ x.int) (n : Int) (hn : -9223372036854775808 ≤ n ∧ n ≤ 9223372036854775807) (w : World) (ok : Nat → Prop) (X O : Nat) (hx : BoxAt w ok X x) (ho : CellAt w ok O (.func (.func 54) #[] #[]) 94) :
    Calls Tryz.prog 78 #[.int .i64 n, .pointer (some ⟨O, 0, none⟩), .pointer (some ⟨X, 0, none⟩)] w fun e w' => e = .returned (.bool (maximumB n x.int)) ∧ w = w' := by
  obtain ⟨_, cs, h1, h2⟩ := hx
  have hxi : -9223372036854775808 ≤ x.int ∧ x.int ≤ 9223372036854775807 := by
    obtain ⟨k, i, s, ns, is⟩ := x
    rw [rep_mk] at h2
    exact ⟨hx1, h2.2.1.2⟩
  have HF := Lib.hid (fun (W : World) => maximum_f n x.int hn hxi W)
  obtain ⟨an, cn, ai, ci, rfl⟩ := h2.form
  obtain ⟨⟨a0, a1, a2, a3, a4⟩, _⟩ := cellsOf5 h1
  have m0 := cell_of_row w _ 0 _ _ _ ho.2
  simp only [List.getElem?_toArray, List.getElem?_cons_zero] at m0
  clear h1 h2 ho hx1 hxi hn
  go_enter Tryz.func78, Tryz.ntmps78
  go_wp2_with (go_at_call 54; refine (HF.out _).mono ?_; rintro e w' ⟨rfl, rfl⟩)
  go_ret
  exact ⟨rfl, rfl⟩
def divisibleB (a b : Int) : Bool := decide (a.tmod b = 0)
set_option maxHeartbeats 4000000 in
theorem divisible_f (a b : Int) (ha : -9223372036854775808 ≤ a ∧ a ≤ 9223372036854775807) (hb : 1 ≤ b ∧ b ≤ 9223372036854775807) (w : World) : Calls Tryz.prog 55 #[.int .i64 a, .int .i64 b] w fun e w' => e = .returned (.bool (divisibleB a b)) ∧ w = w' := by
  obtain ⟨ha0, ha1⟩ := ha
  obtain ⟨hb0, hb1⟩ := hb
  have hne : ¬ b = 0 := by omega
  go_enter Tryz.func55, Tryz.ntmps55
  go_wp2
  go_ret
  unfold divisibleB
  exact ⟨by rfl, rfl⟩
set_option maxHeartbeats 4000000 in
theorem divisible_g (x : JV) (hx1 : 1 ≤ x.int) (n : Int) (hn : -9223372036854775808 ≤ n ∧ n ≤ 9223372036854775807) (w : World) (ok : Nat → Prop) (X O : Nat) (hx : BoxAt w ok X x) (ho : CellAt w ok O (.func (.func 55) #[] #[]) 94) :
    Calls Tryz.prog 78 #[.int .i64 n, .pointer (some ⟨O, 0, none⟩), .pointer (some ⟨X, 0, none⟩)] w fun e w' => e = .returned (.bool (divisibleB n x.int)) ∧ w = w' := by
  obtain ⟨_, cs, h1, h2⟩ := hx
  have hxi : 1 ≤ x.int ∧ x.int ≤ 9223372036854775807 := by
    obtain ⟨k, i, s, ns, is⟩ := x
    rw [rep_mk] at h2
    exact ⟨hx1, h2.2.1.2⟩
  have HF := Lib.hid (fun (W : World) => divisible_f n x.int hn hxi W)
  obtain ⟨an, cn, ai, ci, rfl⟩ := h2.form
  obtain ⟨⟨a0, a1, a2, a3, a4⟩, _⟩ := cellsOf5 h1
  have m0 := cell_of_row w _ 0 _ _ _ ho.2
  simp only [List.getElem?_toArray, List.getElem?_cons_zero] at m0
  clear h1 h2 ho hx1 hxi hn
  go_enter Tryz.func78, Tryz.ntmps78
  go_wp2_with (go_at_call 55; refine (HF.out _).mono ?_; rintro e w' ⟨rfl, rfl⟩)
  go_ret
  exact ⟨rfl, rfl⟩
set_option maxRecDepth 20000 in
set_option maxHeartbeats 4000000 in
theorem of_ranged_1_1_c (v : JV) (vs : List Value) (w : World) (ok : Nat → Prop) (hr : Rep w ok v vs) (hs : v.text.size < 4611686018427387904) : Calls Tryz.prog 77 #[.agg vs.toArray] w (OfPost w v.int (decide (v.kind = 3))) := by
  obtain ⟨an, cn, ai, ci, rfl⟩ := hr.form
  have hlen : v.items.length ≤ maxLen := by
    obtain ⟨k, i, s, ns, is⟩ := v
    rw [rep_mk] at hr
    obtain ⟨_, _, _, _, _, _, _, _, _, hci, _⟩ := hr
    exact Nat.le_trans hci.1 hci.2
  unfold maxLen at hlen
  obtain ⟨a0, a1, a2, a3, a4⟩ := cells5 w (.int .i64 v.kind) (.int .i64 v.int) (.string v.text) (.slice an v.names.length cn) (.slice ai v.items.length ci) 25
  have HB := Lib.hid (show Below w.heap.size w (w.alloc (.cells #[.int .i64 v.kind, .int .i64 v.int, .string v.text, .slice an v.names.length cn, .slice ai v.items.length ci] 25)) from (Below.refl _ _).alloc (Nat.le_refl _) _)
  clear hr
  go_enter Tryz.func77, Tryz.ntmps77
  go_wp2
  go_quiet (fail)
  go_wp2
  refine bodyPost_ret (results_tmp2 rfl _ _ _) rfl ?_
  exact ⟨by first | rfl | (rw [show (v.kind == 3) = decide (v.kind = 3) from rfl]; rfl), below_drewN HB.out _⟩
set_option maxRecDepth 20000 in
set_option maxHeartbeats 4000000 in
theorem br_minimum_c (x kn v : JV) (vs : List Value) (w : World) (ok okv : Nat → Prop) (X O : Nat) (hx1 : -9223372036854775808 ≤ x.int) (hx : BoxAt w ok X x) (hm : CellAt w ok O (.func (.func 53) #[] #[]) 94) (hr : Rep w okv v vs) (hs : v.text.size < 4611686018427387904) :
    Calls Tryz.prog 124 #[.agg #[.func (.func 77) #[] #[], .func (.func 78) #[] #[.pointer (some ⟨O, 0, none⟩), .pointer (some ⟨X, 0, none⟩)]], .agg vs.toArray] w (BoolPost w (leafKept ⟨#[109, 105, 110, 105, 109, 117, 109]⟩ x kn v)) := by
  have hlen : -9223372036854775808 ≤ v.int ∧ v.int ≤ 9223372036854775807 := by
    obtain ⟨k, i, s, ns, is⟩ := v
    rw [rep_mk] at hr
    exact hr.2.1
  obtain ⟨an, cn, ai, ci, rfl⟩ := hr.form
  have hb : Below w.heap.size w (((w.alloc (.cells #[.func (.func 77) #[] #[], .func (.func 78) #[] #[.pointer (some ⟨O, 0, none⟩), .pointer (some ⟨X, 0, none⟩)]] 119)).alloc (.cells #[.int .i64 v.kind, .int .i64 v.int, .string v.text, .slice an v.names.length cn, .slice ai v.items.length ci] 25)).alloc (.cells #[.slice none 0 0, .string ⟨#[]⟩] 72)) := (by repeat (first | with_reducible exact Below.refl _ _ | with_reducible refine below_drewN ?_ _ | with_reducible refine Below.drew ?_ | with_reducible refine below_set5 ?_ (by first | (simp; done) | (simp; omega)) | with_reducible refine Below.alloc ?_ (by first | (simp; done) | (simp; omega)) _ | with_reducible refine Below.setCell ?_ (by first | (simp; done) | (simp; omega)) _))
  have HBW := Lib.hid hb
  have hF := heap_alloc_new ((w.alloc (.cells #[.func (.func 77) #[] #[], .func (.func 78) #[] #[.pointer (some ⟨O, 0, none⟩), .pointer (some ⟨X, 0, none⟩)]] 119)).alloc (.cells #[.int .i64 v.kind, .int .i64 v.int, .string v.text, .slice an v.names.length cn, .slice ai v.items.length ci] 25)) (.cells #[.slice none 0 0, .string ⟨#[]⟩] 72)
  simp only [World.size_alloc] at hF
  have HF := Lib.hid hF
  have HA := Lib.hid (show (((w.alloc (.cells #[.func (.func 77) #[] #[], .func (.func 78) #[] #[.pointer (some ⟨O, 0, none⟩), .pointer (some ⟨X, 0, none⟩)]] 119)).alloc (.cells #[.int .i64 v.kind, .int .i64 v.int, .string v.text, .slice an v.names.length cn, .slice ai v.items.length ci] 25)).alloc (.cells #[.slice none 0 0, .string ⟨#[]⟩] 72)).heap[w.heap.size]? = some (.cells #[.func (.func 77) #[] #[], .func (.func 78) #[] #[.pointer (some ⟨O, 0, none⟩), .pointer (some ⟨X, 0, none⟩)]] 119 (0, 0)) from (heap_alloc_old _ _ (by simp; omega)).trans ((heap_alloc_old _ _ (by simp)).trans (heap_alloc_new w _)))
  have HOF := Lib.hid (of_ranged_1_1_c v _ (((w.alloc (.cells #[.func (.func 77) #[] #[], .func (.func 78) #[] #[.pointer (some ⟨O, 0, none⟩), .pointer (some ⟨X, 0, none⟩)]] 119)).alloc (.cells #[.int .i64 v.kind, .int .i64 v.int, .string v.text, .slice an v.names.length cn, .slice ai v.items.length ci] 25)).alloc (.cells #[.slice none 0 0, .string ⟨#[]⟩] 72)) okv (hr.below hb) hs)
  have HFT := Lib.hid (fun (W : World) (hw : Below (((w.alloc (.cells #[.func (.func 77) #[] #[], .func (.func 78) #[] #[.pointer (some ⟨O, 0, none⟩), .pointer (some ⟨X, 0, none⟩)]] 119)).alloc (.cells #[.int .i64 v.kind, .int .i64 v.int, .string v.text, .slice an v.names.length cn, .slice ai v.items.length ci] 25)).alloc (.cells #[.slice none 0 0, .string ⟨#[]⟩] 72)).heap.size (((w.alloc (.cells #[.func (.func 77) #[] #[], .func (.func 78) #[] #[.pointer (some ⟨O, 0, none⟩), .pointer (some ⟨X, 0, none⟩)]] 119)).alloc (.cells #[.int .i64 v.kind, .int .i64 v.int, .string v.text, .slice an v.names.length cn, .slice ai v.items.length ci] 25)).alloc (.cells #[.slice none 0 0, .string ⟨#[]⟩] 72)) W) => minimum_g x hx1 v.int hlen W ok X O (hx.kept (fun b hlt ho => ⟨ho, (hb.trans (hw.mono hb.size)).block b hlt⟩)) (hm.kept (fun b hlt ho => ⟨ho, (hb.trans (hw.mono hb.size)).block b hlt⟩)))
  have HV := Lib.hid (show leafKept ⟨#[109, 105, 110, 105, 109, 117, 109]⟩ x kn v = (!decide (v.kind = 3) || minimumB v.int x.int) by unfold leafKept minimumB; rw [if_neg (by decide), if_neg (by decide), if_neg (by decide), if_neg (by decide), if_neg (by decide), if_neg (by decide), if_neg (by decide), if_neg (by decide), if_pos rfl])
  clear hr hb hx hm hF hx1
  have hww : (((w.alloc (.cells #[.func (.func 77) #[] #[], .func (.func 78) #[] #[.pointer (some ⟨O, 0, none⟩), .pointer (some ⟨X, 0, none⟩)]] 119)).alloc (.cells #[.int .i64 v.kind, .int .i64 v.int, .string v.text, .slice an v.names.length cn, .slice ai v.items.length ci] 25)).alloc (.cells #[.slice none 0 0, .string ⟨#[]⟩] 72)).heap.size = w.heap.size + 1 + 1 + 1 := by simp
  by_cases hk : v.kind = 3
  · have hdk : decide (v.kind = 3) = true := decide_eq_true hk
    have HB := Lib.hid (show leafKept ⟨#[109, 105, 110, 105, 109, 117, 109]⟩ x kn v = minimumB v.int x.int by rw [HV.out, hdk]; rfl)
    rw [hdk] at HOF
    clear hk hdk
    generalize minimumB v.int x.int = bb at *
    go_enter Tryz.func124, Tryz.ntmps124
    go_wp2_with fail
    refine HOF.out.mono ?_; rintro e w1 ⟨rfl, hb1⟩
    have h1 := hb1.size
    simp only [World.size_alloc] at h1
    have hF1 := (hb1.block (w.heap.size + 1 + 1) (by simp)).trans HF.out
    have hA1 := (hb1.block w.heap.size (by simp; omega)).trans HA.out
    have q0 := cell_of_row w1 _ 0 _ _ _ hA1
    have q1 := cell_of_row w1 _ 1 _ _ _ hA1
    have q2 := cell_of_row w1 _ 0 _ _ _ hF1
    have q3 := cell_of_row w1 _ 1 _ _ _ hF1
    have q4 := frozen_of_row w1 _ 0 _ _ hF1
    have q5 := frozen_of_row w1 _ 1 _ _ hF1
    simp only [List.getElem?_toArray, List.getElem?_cons_zero, List.getElem?_cons_succ] at q0 q1 q2 q3
    have HF1 := Lib.hid hF1
    have HB1 := Lib.hid (HBW.out.trans (hb1.mono HBW.out.size))
    have HFT1 := Lib.hid (HFT.out w1 hb1)
    clear hb1 hF1 hA1
    go_wp2_with (go_at_call 78; refine HFT1.out.mono ?_; rintro e w' ⟨rfl, rfl⟩)
    refine bodyPost_ret (results_ct rfl _ _ (w.heap.size + 1 + 1) 72 _ (0, 0) _ (by rfl) (set2 HF1.out) Tryz.underlying72 rfl (by kernel_rfl)) rfl ?_
    exact ⟨by rw [HB.out]; rfl, below_set2 HB1.out (by omega)⟩
  · have hdk : decide (v.kind = 3) = false := decide_eq_false hk
    have HB := Lib.hid (show leafKept ⟨#[109, 105, 110, 105, 109, 117, 109]⟩ x kn v = true by rw [HV.out, hdk]; rfl)
    rw [hdk] at HOF
    clear hk hdk
    go_enter Tryz.func124, Tryz.ntmps124
    go_wp2_with fail
    refine HOF.out.mono ?_; rintro e w1 ⟨rfl, hb1⟩
    have h1 := hb1.size
    simp only [World.size_alloc] at h1
    have hF1 := (hb1.block (w.heap.size + 1 + 1) (by simp)).trans HF.out
    have q2 := cell_of_row w1 _ 0 _ _ _ hF1
    have q3 := cell_of_row w1 _ 1 _ _ _ hF1
    have q4 := frozen_of_row w1 _ 0 _ _ hF1
    have q5 := frozen_of_row w1 _ 1 _ _ hF1
    simp only [List.getElem?_toArray, List.getElem?_cons_zero, List.getElem?_cons_succ] at q2 q3
    have HF1 := Lib.hid hF1
    have HB1 := Lib.hid (HBW.out.trans (hb1.mono HBW.out.size))
    clear hb1 hF1
    go_wp2
    refine bodyPost_ret (results_ct rfl _ _ (w.heap.size + 1 + 1) 72 _ (0, 0) _ (by rfl) (set2 HF1.out) Tryz.underlying72 rfl (by kernel_rfl)) rfl ?_
    exact ⟨by rw [HB.out]; rfl, below_set2 HB1.out (by omega)⟩
set_option maxRecDepth 20000 in
set_option maxHeartbeats 4000000 in
theorem br_maximum_c (x kn v : JV) (vs : List Value) (w : World) (ok okv : Nat → Prop) (X O : Nat) (hx1 : -9223372036854775808 ≤ x.int) (hx : BoxAt w ok X x) (hm : CellAt w ok O (.func (.func 54) #[] #[]) 94) (hr : Rep w okv v vs) (hs : v.text.size < 4611686018427387904) :
    Calls Tryz.prog 124 #[.agg #[.func (.func 77) #[] #[], .func (.func 78) #[] #[.pointer (some ⟨O, 0, none⟩), .pointer (some ⟨X, 0, none⟩)]], .agg vs.toArray] w (BoolPost w (leafKept ⟨#[109, 97, 120, 105, 109, 117, 109]⟩ x kn v)) := by
  have hlen : -9223372036854775808 ≤ v.int ∧ v.int ≤ 9223372036854775807 := by
    obtain ⟨k, i, s, ns, is⟩ := v
    rw [rep_mk] at hr
    exact hr.2.1
  obtain ⟨an, cn, ai, ci, rfl⟩ := hr.form
  have hb : Below w.heap.size w (((w.alloc (.cells #[.func (.func 77) #[] #[], .func (.func 78) #[] #[.pointer (some ⟨O, 0, none⟩), .pointer (some ⟨X, 0, none⟩)]] 119)).alloc (.cells #[.int .i64 v.kind, .int .i64 v.int, .string v.text, .slice an v.names.length cn, .slice ai v.items.length ci] 25)).alloc (.cells #[.slice none 0 0, .string ⟨#[]⟩] 72)) := (by repeat (first | with_reducible exact Below.refl _ _ | with_reducible refine below_drewN ?_ _ | with_reducible refine Below.drew ?_ | with_reducible refine below_set5 ?_ (by first | (simp; done) | (simp; omega)) | with_reducible refine Below.alloc ?_ (by first | (simp; done) | (simp; omega)) _ | with_reducible refine Below.setCell ?_ (by first | (simp; done) | (simp; omega)) _))
  have HBW := Lib.hid hb
  have hF := heap_alloc_new ((w.alloc (.cells #[.func (.func 77) #[] #[], .func (.func 78) #[] #[.pointer (some ⟨O, 0, none⟩), .pointer (some ⟨X, 0, none⟩)]] 119)).alloc (.cells #[.int .i64 v.kind, .int .i64 v.int, .string v.text, .slice an v.names.length cn, .slice ai v.items.length ci] 25)) (.cells #[.slice none 0 0, .string ⟨#[]⟩] 72)
  simp only [World.size_alloc] at hF
  have HF := Lib.hid hF
  have HA := Lib.hid (show (((w.alloc (.cells #[.func (.func 77) #[] #[], .func (.func 78) #[] #[.pointer (some ⟨O, 0, none⟩), .pointer (some ⟨X, 0, none⟩)]] 119)).alloc (.cells #[.int .i64 v.kind, .int .i64 v.int, .string v.text, .slice an v.names.length cn, .slice ai v.items.length ci] 25)).alloc (.cells #[.slice none 0 0, .string ⟨#[]⟩] 72)).heap[w.heap.size]? = some (.cells #[.func (.func 77) #[] #[], .func (.func 78) #[] #[.pointer (some ⟨O, 0, none⟩), .pointer (some ⟨X, 0, none⟩)]] 119 (0, 0)) from (heap_alloc_old _ _ (by simp; omega)).trans ((heap_alloc_old _ _ (by simp)).trans (heap_alloc_new w _)))
  have HOF := Lib.hid (of_ranged_1_1_c v _ (((w.alloc (.cells #[.func (.func 77) #[] #[], .func (.func 78) #[] #[.pointer (some ⟨O, 0, none⟩), .pointer (some ⟨X, 0, none⟩)]] 119)).alloc (.cells #[.int .i64 v.kind, .int .i64 v.int, .string v.text, .slice an v.names.length cn, .slice ai v.items.length ci] 25)).alloc (.cells #[.slice none 0 0, .string ⟨#[]⟩] 72)) okv (hr.below hb) hs)
  have HFT := Lib.hid (fun (W : World) (hw : Below (((w.alloc (.cells #[.func (.func 77) #[] #[], .func (.func 78) #[] #[.pointer (some ⟨O, 0, none⟩), .pointer (some ⟨X, 0, none⟩)]] 119)).alloc (.cells #[.int .i64 v.kind, .int .i64 v.int, .string v.text, .slice an v.names.length cn, .slice ai v.items.length ci] 25)).alloc (.cells #[.slice none 0 0, .string ⟨#[]⟩] 72)).heap.size (((w.alloc (.cells #[.func (.func 77) #[] #[], .func (.func 78) #[] #[.pointer (some ⟨O, 0, none⟩), .pointer (some ⟨X, 0, none⟩)]] 119)).alloc (.cells #[.int .i64 v.kind, .int .i64 v.int, .string v.text, .slice an v.names.length cn, .slice ai v.items.length ci] 25)).alloc (.cells #[.slice none 0 0, .string ⟨#[]⟩] 72)) W) => maximum_g x hx1 v.int hlen W ok X O (hx.kept (fun b hlt ho => ⟨ho, (hb.trans (hw.mono hb.size)).block b hlt⟩)) (hm.kept (fun b hlt ho => ⟨ho, (hb.trans (hw.mono hb.size)).block b hlt⟩)))
  have HV := Lib.hid (show leafKept ⟨#[109, 97, 120, 105, 109, 117, 109]⟩ x kn v = (!decide (v.kind = 3) || maximumB v.int x.int) by unfold leafKept maximumB; rw [if_neg (by decide), if_neg (by decide), if_neg (by decide), if_neg (by decide), if_neg (by decide), if_neg (by decide), if_neg (by decide), if_neg (by decide), if_neg (by decide), if_pos rfl])
  clear hr hb hx hm hF hx1
  have hww : (((w.alloc (.cells #[.func (.func 77) #[] #[], .func (.func 78) #[] #[.pointer (some ⟨O, 0, none⟩), .pointer (some ⟨X, 0, none⟩)]] 119)).alloc (.cells #[.int .i64 v.kind, .int .i64 v.int, .string v.text, .slice an v.names.length cn, .slice ai v.items.length ci] 25)).alloc (.cells #[.slice none 0 0, .string ⟨#[]⟩] 72)).heap.size = w.heap.size + 1 + 1 + 1 := by simp
  by_cases hk : v.kind = 3
  · have hdk : decide (v.kind = 3) = true := decide_eq_true hk
    have HB := Lib.hid (show leafKept ⟨#[109, 97, 120, 105, 109, 117, 109]⟩ x kn v = maximumB v.int x.int by rw [HV.out, hdk]; rfl)
    rw [hdk] at HOF
    clear hk hdk
    generalize maximumB v.int x.int = bb at *
    go_enter Tryz.func124, Tryz.ntmps124
    go_wp2_with fail
    refine HOF.out.mono ?_; rintro e w1 ⟨rfl, hb1⟩
    have h1 := hb1.size
    simp only [World.size_alloc] at h1
    have hF1 := (hb1.block (w.heap.size + 1 + 1) (by simp)).trans HF.out
    have hA1 := (hb1.block w.heap.size (by simp; omega)).trans HA.out
    have q0 := cell_of_row w1 _ 0 _ _ _ hA1
    have q1 := cell_of_row w1 _ 1 _ _ _ hA1
    have q2 := cell_of_row w1 _ 0 _ _ _ hF1
    have q3 := cell_of_row w1 _ 1 _ _ _ hF1
    have q4 := frozen_of_row w1 _ 0 _ _ hF1
    have q5 := frozen_of_row w1 _ 1 _ _ hF1
    simp only [List.getElem?_toArray, List.getElem?_cons_zero, List.getElem?_cons_succ] at q0 q1 q2 q3
    have HF1 := Lib.hid hF1
    have HB1 := Lib.hid (HBW.out.trans (hb1.mono HBW.out.size))
    have HFT1 := Lib.hid (HFT.out w1 hb1)
    clear hb1 hF1 hA1
    go_wp2_with (go_at_call 78; refine HFT1.out.mono ?_; rintro e w' ⟨rfl, rfl⟩)
    refine bodyPost_ret (results_ct rfl _ _ (w.heap.size + 1 + 1) 72 _ (0, 0) _ (by rfl) (set2 HF1.out) Tryz.underlying72 rfl (by kernel_rfl)) rfl ?_
    exact ⟨by rw [HB.out]; rfl, below_set2 HB1.out (by omega)⟩
  · have hdk : decide (v.kind = 3) = false := decide_eq_false hk
    have HB := Lib.hid (show leafKept ⟨#[109, 97, 120, 105, 109, 117, 109]⟩ x kn v = true by rw [HV.out, hdk]; rfl)
    rw [hdk] at HOF
    clear hk hdk
    go_enter Tryz.func124, Tryz.ntmps124
    go_wp2_with fail
    refine HOF.out.mono ?_; rintro e w1 ⟨rfl, hb1⟩
    have h1 := hb1.size
    simp only [World.size_alloc] at h1
    have hF1 := (hb1.block (w.heap.size + 1 + 1) (by simp)).trans HF.out
    have q2 := cell_of_row w1 _ 0 _ _ _ hF1
    have q3 := cell_of_row w1 _ 1 _ _ _ hF1
    have q4 := frozen_of_row w1 _ 0 _ _ hF1
    have q5 := frozen_of_row w1 _ 1 _ _ hF1
    simp only [List.getElem?_toArray, List.getElem?_cons_zero, List.getElem?_cons_succ] at q2 q3
    have HF1 := Lib.hid hF1
    have HB1 := Lib.hid (HBW.out.trans (hb1.mono HBW.out.size))
    clear hb1 hF1
    go_wp2
    refine bodyPost_ret (results_ct rfl _ _ (w.heap.size + 1 + 1) 72 _ (0, 0) _ (by rfl) (set2 HF1.out) Tryz.underlying72 rfl (by kernel_rfl)) rfl ?_
    exact ⟨by rw [HB.out]; rfl, below_set2 HB1.out (by omega)⟩
set_option maxRecDepth 20000 in
set_option maxHeartbeats 4000000 in
theorem br_divisible_c (x kn v : JV) (vs : List Value) (w : World) (ok okv : Nat → Prop) (X O : Nat) (hx1 : 1 ≤ x.int) (hx : BoxAt w ok X x) (hm : CellAt w ok O (.func (.func 55) #[] #[]) 94) (hr : Rep w okv v vs) (hs : v.text.size < 4611686018427387904) :
    Calls Tryz.prog 124 #[.agg #[.func (.func 77) #[] #[], .func (.func 78) #[] #[.pointer (some ⟨O, 0, none⟩), .pointer (some ⟨X, 0, none⟩)]], .agg vs.toArray] w (BoolPost w (leafKept ⟨#[100, 105, 118, 105, 115, 105, 98, 108, 101]⟩ x kn v)) := by
  have hlen : -9223372036854775808 ≤ v.int ∧ v.int ≤ 9223372036854775807 := by
    obtain ⟨k, i, s, ns, is⟩ := v
    rw [rep_mk] at hr
    exact hr.2.1
  obtain ⟨an, cn, ai, ci, rfl⟩ := hr.form
  have hb : Below w.heap.size w (((w.alloc (.cells #[.func (.func 77) #[] #[], .func (.func 78) #[] #[.pointer (some ⟨O, 0, none⟩), .pointer (some ⟨X, 0, none⟩)]] 119)).alloc (.cells #[.int .i64 v.kind, .int .i64 v.int, .string v.text, .slice an v.names.length cn, .slice ai v.items.length ci] 25)).alloc (.cells #[.slice none 0 0, .string ⟨#[]⟩] 72)) := (by repeat (first | with_reducible exact Below.refl _ _ | with_reducible refine below_drewN ?_ _ | with_reducible refine Below.drew ?_ | with_reducible refine below_set5 ?_ (by first | (simp; done) | (simp; omega)) | with_reducible refine Below.alloc ?_ (by first | (simp; done) | (simp; omega)) _ | with_reducible refine Below.setCell ?_ (by first | (simp; done) | (simp; omega)) _))
  have HBW := Lib.hid hb
  have hF := heap_alloc_new ((w.alloc (.cells #[.func (.func 77) #[] #[], .func (.func 78) #[] #[.pointer (some ⟨O, 0, none⟩), .pointer (some ⟨X, 0, none⟩)]] 119)).alloc (.cells #[.int .i64 v.kind, .int .i64 v.int, .string v.text, .slice an v.names.length cn, .slice ai v.items.length ci] 25)) (.cells #[.slice none 0 0, .string ⟨#[]⟩] 72)
  simp only [World.size_alloc] at hF
  have HF := Lib.hid hF
  have HA := Lib.hid (show (((w.alloc (.cells #[.func (.func 77) #[] #[], .func (.func 78) #[] #[.pointer (some ⟨O, 0, none⟩), .pointer (some ⟨X, 0, none⟩)]] 119)).alloc (.cells #[.int .i64 v.kind, .int .i64 v.int, .string v.text, .slice an v.names.length cn, .slice ai v.items.length ci] 25)).alloc (.cells #[.slice none 0 0, .string ⟨#[]⟩] 72)).heap[w.heap.size]? = some (.cells #[.func (.func 77) #[] #[], .func (.func 78) #[] #[.pointer (some ⟨O, 0, none⟩), .pointer (some ⟨X, 0, none⟩)]] 119 (0, 0)) from (heap_alloc_old _ _ (by simp; omega)).trans ((heap_alloc_old _ _ (by simp)).trans (heap_alloc_new w _)))
  have HOF := Lib.hid (of_ranged_1_1_c v _ (((w.alloc (.cells #[.func (.func 77) #[] #[], .func (.func 78) #[] #[.pointer (some ⟨O, 0, none⟩), .pointer (some ⟨X, 0, none⟩)]] 119)).alloc (.cells #[.int .i64 v.kind, .int .i64 v.int, .string v.text, .slice an v.names.length cn, .slice ai v.items.length ci] 25)).alloc (.cells #[.slice none 0 0, .string ⟨#[]⟩] 72)) okv (hr.below hb) hs)
  have HFT := Lib.hid (fun (W : World) (hw : Below (((w.alloc (.cells #[.func (.func 77) #[] #[], .func (.func 78) #[] #[.pointer (some ⟨O, 0, none⟩), .pointer (some ⟨X, 0, none⟩)]] 119)).alloc (.cells #[.int .i64 v.kind, .int .i64 v.int, .string v.text, .slice an v.names.length cn, .slice ai v.items.length ci] 25)).alloc (.cells #[.slice none 0 0, .string ⟨#[]⟩] 72)).heap.size (((w.alloc (.cells #[.func (.func 77) #[] #[], .func (.func 78) #[] #[.pointer (some ⟨O, 0, none⟩), .pointer (some ⟨X, 0, none⟩)]] 119)).alloc (.cells #[.int .i64 v.kind, .int .i64 v.int, .string v.text, .slice an v.names.length cn, .slice ai v.items.length ci] 25)).alloc (.cells #[.slice none 0 0, .string ⟨#[]⟩] 72)) W) => divisible_g x hx1 v.int hlen W ok X O (hx.kept (fun b hlt ho => ⟨ho, (hb.trans (hw.mono hb.size)).block b hlt⟩)) (hm.kept (fun b hlt ho => ⟨ho, (hb.trans (hw.mono hb.size)).block b hlt⟩)))
  have HV := Lib.hid (show leafKept ⟨#[100, 105, 118, 105, 115, 105, 98, 108, 101]⟩ x kn v = (!decide (v.kind = 3) || divisibleB v.int x.int) by unfold leafKept divisibleB; rw [if_neg (by decide), if_neg (by decide), if_neg (by decide), if_neg (by decide), if_neg (by decide), if_neg (by decide), if_neg (by decide), if_neg (by decide), if_neg (by decide), if_neg (by decide), if_pos rfl])
  clear hr hb hx hm hF hx1
  have hww : (((w.alloc (.cells #[.func (.func 77) #[] #[], .func (.func 78) #[] #[.pointer (some ⟨O, 0, none⟩), .pointer (some ⟨X, 0, none⟩)]] 119)).alloc (.cells #[.int .i64 v.kind, .int .i64 v.int, .string v.text, .slice an v.names.length cn, .slice ai v.items.length ci] 25)).alloc (.cells #[.slice none 0 0, .string ⟨#[]⟩] 72)).heap.size = w.heap.size + 1 + 1 + 1 := by simp
  by_cases hk : v.kind = 3
  · have hdk : decide (v.kind = 3) = true := decide_eq_true hk
    have HB := Lib.hid (show leafKept ⟨#[100, 105, 118, 105, 115, 105, 98, 108, 101]⟩ x kn v = divisibleB v.int x.int by rw [HV.out, hdk]; rfl)
    rw [hdk] at HOF
    clear hk hdk
    generalize divisibleB v.int x.int = bb at *
    go_enter Tryz.func124, Tryz.ntmps124
    go_wp2_with fail
    refine HOF.out.mono ?_; rintro e w1 ⟨rfl, hb1⟩
    have h1 := hb1.size
    simp only [World.size_alloc] at h1
    have hF1 := (hb1.block (w.heap.size + 1 + 1) (by simp)).trans HF.out
    have hA1 := (hb1.block w.heap.size (by simp; omega)).trans HA.out
    have q0 := cell_of_row w1 _ 0 _ _ _ hA1
    have q1 := cell_of_row w1 _ 1 _ _ _ hA1
    have q2 := cell_of_row w1 _ 0 _ _ _ hF1
    have q3 := cell_of_row w1 _ 1 _ _ _ hF1
    have q4 := frozen_of_row w1 _ 0 _ _ hF1
    have q5 := frozen_of_row w1 _ 1 _ _ hF1
    simp only [List.getElem?_toArray, List.getElem?_cons_zero, List.getElem?_cons_succ] at q0 q1 q2 q3
    have HF1 := Lib.hid hF1
    have HB1 := Lib.hid (HBW.out.trans (hb1.mono HBW.out.size))
    have HFT1 := Lib.hid (HFT.out w1 hb1)
    clear hb1 hF1 hA1
    go_wp2_with (go_at_call 78; refine HFT1.out.mono ?_; rintro e w' ⟨rfl, rfl⟩)
    refine bodyPost_ret (results_ct rfl _ _ (w.heap.size + 1 + 1) 72 _ (0, 0) _ (by rfl) (set2 HF1.out) Tryz.underlying72 rfl (by kernel_rfl)) rfl ?_
    exact ⟨by rw [HB.out]; rfl, below_set2 HB1.out (by omega)⟩
  · have hdk : decide (v.kind = 3) = false := decide_eq_false hk
    have HB := Lib.hid (show leafKept ⟨#[100, 105, 118, 105, 115, 105, 98, 108, 101]⟩ x kn v = true by rw [HV.out, hdk]; rfl)
    rw [hdk] at HOF
    clear hk hdk
    go_enter Tryz.func124, Tryz.ntmps124
    go_wp2_with fail
    refine HOF.out.mono ?_; rintro e w1 ⟨rfl, hb1⟩
    have h1 := hb1.size
    simp only [World.size_alloc] at h1
    have hF1 := (hb1.block (w.heap.size + 1 + 1) (by simp)).trans HF.out
    have q2 := cell_of_row w1 _ 0 _ _ _ hF1
    have q3 := cell_of_row w1 _ 1 _ _ _ hF1
    have q4 := frozen_of_row w1 _ 0 _ _ hF1
    have q5 := frozen_of_row w1 _ 1 _ _ hF1
    simp only [List.getElem?_toArray, List.getElem?_cons_zero, List.getElem?_cons_succ] at q2 q3
    have HF1 := Lib.hid hF1
    have HB1 := Lib.hid (HBW.out.trans (hb1.mono HBW.out.size))
    clear hb1 hF1
    go_wp2
    refine bodyPost_ret (results_ct rfl _ _ (w.heap.size + 1 + 1) 72 _ (0, 0) _ (by rfl) (set2 HF1.out) Tryz.underlying72 rfl (by kernel_rfl)) rfl ?_
    exact ⟨by rw [HB.out]; rfl, below_set2 HB1.out (by omega)⟩
end Go.Proofs.YtnmojmmgkipjcaaGreatDoor
