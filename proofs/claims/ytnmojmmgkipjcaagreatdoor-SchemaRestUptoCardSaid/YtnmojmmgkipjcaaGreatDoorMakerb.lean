/- The makers of the rules that lead to no schema. Conditions: what the tree holds is at most 2 to the 40. -/
import Derived.Test.YtnmojmmgkipjcaaGreatDoorMakera
import Derived.Test.YtnmojmmgkipjcaaGreatDoorHasw
namespace Go.Proofs.YtnmojmmgkipjcaaGreatDoor
open Go.RowKit
def KindsPost (x : JV) (w : World) (e : Ending) (w' : World) : Prop := ∃ a c, e = .returned (.slice a (kindsJ x).length c) ∧ (kindsJ x).length ≤ c ∧ c ≤ 2 ∧ IntsL w' (fun b => w.heap.size ≤ b) a (kindsJ x) ∧ Below w.heap.size w w'
theorem kpost_none {x : JV} {w w' : World} (h : kindsJ x = []) (hb : Below w.heap.size w w') : KindsPost x w (.returned (.slice none 0 0)) w' := ⟨none, 0, by rw [h]; rfl, by rw [h]; exact Nat.le_refl _, by omega, .inl h, hb⟩
theorem kpost_some {x : JV} {w w' : World} {l : List Int} {B : Nat} {T : TypeId} (h : kindsJ x = l) (hl : l.length ≤ 2) (hb : Below w.heap.size w w') (hB : w.heap.size ≤ B) (hc : w'.heap[B]? = some (.cells (l.map (Value.int .i64)).toArray T (0, 0))) : KindsPost x w (.returned (.slice (some ⟨B, 0, none⟩) l.length l.length)) w' := by
  refine ⟨some ⟨B, 0, none⟩, l.length, by rw [h], by rw [h]; exact Nat.le_refl _, hl, .inr ⟨B, 0, rfl, hB, fun j v hj => ?_⟩, hb⟩
  rw [Nat.zero_add, cell_of_row _ _ _ _ _ _ hc]
  rw [← hj, h]
  simp
set_option maxRecDepth 20000 in
set_option maxHeartbeats 4000000 in
theorem kinds_c (x : JV) (cs : List Value) (w : World) (ok : Nat → Prop) (hr : Rep w ok x cs) : Calls Tryz.prog 62 #[.agg cs.toArray] w (KindsPost x w) := by
  obtain ⟨an, cn, ai, ci, rfl⟩ := hr.form
  clear hr
  obtain ⟨a0, a1, a2, a3, a4⟩ := cells5 w (.int .i64 x.kind) (.int .i64 x.int) (.string x.text) (.slice an x.names.length cn) (.slice ai x.items.length ci) 25
  have HB := Lib.hid (show Below w.heap.size w (w.alloc (.cells #[.int .i64 x.kind, .int .i64 x.int, .string x.text, .slice an x.names.length cn, .slice ai x.items.length ci] 25)) from (Below.refl _ _).alloc (Nat.le_refl _) _)
  by_cases h4 : x.kind = 4
  case neg =>
    have HK := Lib.hid (show kindsJ x = [] from if_neg h4)
    have e4 : (x.kind != 4) = true := by simp [h4]
    clear h4
    go_enter Tryz.func62, Tryz.ntmps62
    go_wp2
    go_ret
    exact kpost_none HK.out HB.out
  have HK := Lib.hid (show kindsJ x = typeKinds x.text from if_pos h4)
  have e4 : (x.kind != 4) = false := by simp [h4]
  clear h4
  by_cases h0 : x.text = ⟨#[110, 117, 108, 108]⟩
  · have HL := Lib.hid (show kindsJ x = [0] by rw [HK.out]; unfold typeKinds; rw [if_pos h0])
    have q0 : (x.text.toList == ([110, 117, 108, 108] : List UInt8)) = true := lit_t h0
    clear h0
    go_enter Tryz.func62, Tryz.ntmps62
    go_wp2
    go_ret
    exact kpost_some HL.out (by decide) (by repeat (first | with_reducible exact Below.refl _ _ | with_reducible refine below_drewN ?_ _ | with_reducible refine Below.drew ?_ | with_reducible refine Below.alloc ?_ (by first | (simp; done) | (simp; omega)) _ | with_reducible refine Below.setCell ?_ (by first | (simp; done) | (simp; omega)) _)) (by omega) (by have h := heap_alloc_new (w.alloc (.cells #[.int .i64 x.kind, .int .i64 x.int, .string x.text, .slice an x.names.length cn, .slice ai x.items.length ci] 25)) (.cells #[.int .i64 0] 3); rw [World.size_alloc] at h; exact h)
  have q0 : (x.text.toList == ([110, 117, 108, 108] : List UInt8)) = false := lit_f h0
  by_cases h1 : x.text = ⟨#[98, 111, 111, 108]⟩
  · have HL := Lib.hid (show kindsJ x = [1, 2] by rw [HK.out]; unfold typeKinds; rw [if_neg h0, if_pos h1])
    have q1 : (x.text.toList == ([98, 111, 111, 108] : List UInt8)) = true := lit_t h1
    clear h1
    go_enter Tryz.func62, Tryz.ntmps62
    go_wp2
    go_ret
    exact kpost_some HL.out (by decide) (by repeat (first | with_reducible exact Below.refl _ _ | with_reducible refine below_drewN ?_ _ | with_reducible refine Below.drew ?_ | with_reducible refine Below.alloc ?_ (by first | (simp; done) | (simp; omega)) _ | with_reducible refine Below.setCell ?_ (by first | (simp; done) | (simp; omega)) _)) (by omega) (by have h := heap_alloc_new (w.alloc (.cells #[.int .i64 x.kind, .int .i64 x.int, .string x.text, .slice an x.names.length cn, .slice ai x.items.length ci] 25)) (.cells #[.int .i64 1, .int .i64 2] 3); rw [World.size_alloc] at h; exact h)
  have q1 : (x.text.toList == ([98, 111, 111, 108] : List UInt8)) = false := lit_f h1
  by_cases h2 : x.text = ⟨#[105, 110, 116]⟩
  · have HL := Lib.hid (show kindsJ x = [3] by rw [HK.out]; unfold typeKinds; rw [if_neg h0, if_neg h1, if_pos h2])
    have q2 : (x.text.toList == ([105, 110, 116] : List UInt8)) = true := lit_t h2
    clear h2
    go_enter Tryz.func62, Tryz.ntmps62
    go_wp2
    go_ret
    exact kpost_some HL.out (by decide) (by repeat (first | with_reducible exact Below.refl _ _ | with_reducible refine below_drewN ?_ _ | with_reducible refine Below.drew ?_ | with_reducible refine Below.alloc ?_ (by first | (simp; done) | (simp; omega)) _ | with_reducible refine Below.setCell ?_ (by first | (simp; done) | (simp; omega)) _)) (by omega) (by have h := heap_alloc_new (w.alloc (.cells #[.int .i64 x.kind, .int .i64 x.int, .string x.text, .slice an x.names.length cn, .slice ai x.items.length ci] 25)) (.cells #[.int .i64 3] 3); rw [World.size_alloc] at h; exact h)
  have q2 : (x.text.toList == ([105, 110, 116] : List UInt8)) = false := lit_f h2
  by_cases h3 : x.text = ⟨#[115, 116, 114, 105, 110, 103]⟩
  · have HL := Lib.hid (show kindsJ x = [4] by rw [HK.out]; unfold typeKinds; rw [if_neg h0, if_neg h1, if_neg h2, if_pos h3])
    have q3 : (x.text.toList == ([115, 116, 114, 105, 110, 103] : List UInt8)) = true := lit_t h3
    clear h3
    go_enter Tryz.func62, Tryz.ntmps62
    go_wp2
    go_ret
    exact kpost_some HL.out (by decide) (by repeat (first | with_reducible exact Below.refl _ _ | with_reducible refine below_drewN ?_ _ | with_reducible refine Below.drew ?_ | with_reducible refine Below.alloc ?_ (by first | (simp; done) | (simp; omega)) _ | with_reducible refine Below.setCell ?_ (by first | (simp; done) | (simp; omega)) _)) (by omega) (by have h := heap_alloc_new (w.alloc (.cells #[.int .i64 x.kind, .int .i64 x.int, .string x.text, .slice an x.names.length cn, .slice ai x.items.length ci] 25)) (.cells #[.int .i64 4] 3); rw [World.size_alloc] at h; exact h)
  have q3 : (x.text.toList == ([115, 116, 114, 105, 110, 103] : List UInt8)) = false := lit_f h3
  by_cases h4 : x.text = ⟨#[97, 114, 114, 97, 121]⟩
  · have HL := Lib.hid (show kindsJ x = [5] by rw [HK.out]; unfold typeKinds; rw [if_neg h0, if_neg h1, if_neg h2, if_neg h3, if_pos h4])
    have q4 : (x.text.toList == ([97, 114, 114, 97, 121] : List UInt8)) = true := lit_t h4
    clear h4
    go_enter Tryz.func62, Tryz.ntmps62
    go_wp2
    go_ret
    exact kpost_some HL.out (by decide) (by repeat (first | with_reducible exact Below.refl _ _ | with_reducible refine below_drewN ?_ _ | with_reducible refine Below.drew ?_ | with_reducible refine Below.alloc ?_ (by first | (simp; done) | (simp; omega)) _ | with_reducible refine Below.setCell ?_ (by first | (simp; done) | (simp; omega)) _)) (by omega) (by have h := heap_alloc_new (w.alloc (.cells #[.int .i64 x.kind, .int .i64 x.int, .string x.text, .slice an x.names.length cn, .slice ai x.items.length ci] 25)) (.cells #[.int .i64 5] 3); rw [World.size_alloc] at h; exact h)
  have q4 : (x.text.toList == ([97, 114, 114, 97, 121] : List UInt8)) = false := lit_f h4
  by_cases h5 : x.text = ⟨#[111, 98, 106, 101, 99, 116]⟩
  · have HL := Lib.hid (show kindsJ x = [6] by rw [HK.out]; unfold typeKinds; rw [if_neg h0, if_neg h1, if_neg h2, if_neg h3, if_neg h4, if_pos h5])
    have q5 : (x.text.toList == ([111, 98, 106, 101, 99, 116] : List UInt8)) = true := lit_t h5
    clear h5
    go_enter Tryz.func62, Tryz.ntmps62
    go_wp2
    go_ret
    exact kpost_some HL.out (by decide) (by repeat (first | with_reducible exact Below.refl _ _ | with_reducible refine below_drewN ?_ _ | with_reducible refine Below.drew ?_ | with_reducible refine Below.alloc ?_ (by first | (simp; done) | (simp; omega)) _ | with_reducible refine Below.setCell ?_ (by first | (simp; done) | (simp; omega)) _)) (by omega) (by have h := heap_alloc_new (w.alloc (.cells #[.int .i64 x.kind, .int .i64 x.int, .string x.text, .slice an x.names.length cn, .slice ai x.items.length ci] 25)) (.cells #[.int .i64 6] 3); rw [World.size_alloc] at h; exact h)
  have q5 : (x.text.toList == ([111, 98, 106, 101, 99, 116] : List UInt8)) = false := lit_f h5
  have HL := Lib.hid (show kindsJ x = [] by rw [HK.out]; unfold typeKinds; rw [if_neg h0, if_neg h1, if_neg h2, if_neg h3, if_neg h4, if_neg h5])
  clear h0 h1 h2 h3 h4 h5
  go_enter Tryz.func62, Tryz.ntmps62
  go_wp2
  go_ret
  exact kpost_none HL.out HB.out
end Go.Proofs.YtnmojmmgkipjcaaGreatDoor
namespace Go.Proofs.YtnmojmmgkipjcaaGreatDoor
open Go.RowKit
/-- a maker's contract: given what its word is given, the rule; else it gives up -/
def LeafPost (x : JV) (n : ByteArray) (kn : JV) (w : World) (ok : Nat → Prop) (e : Ending) (w' : World) : Prop :=
  Below w.heap.size w w' ∧ ((leafOk n x = true ∧ ∃ rv, e = .returned rv ∧ LeafAt w' (fun b => ok b ∨ w.heap.size ≤ b) n x kn rv) ∨ (leafOk n x = false ∧ e = refV 210))
theorem box_new {w w' : World} {ok : Nat → Prop} {x : JV} {cs : List Value} {X : Nat} (hr : Rep w ok x cs) (hb : Below w.heap.size w w') (hX : w.heap.size ≤ X) (hc : w'.heap[X]? = some (.cells cs.toArray 25 (0, 0))) : BoxAt w' (fun b => ok b ∨ w.heap.size ≤ b) X x :=
  ⟨.inr hX, cs, hc, Rep.kept (fun b hlt ho => ⟨.inl ho, hb.block b hlt⟩) x cs hr⟩
set_option maxRecDepth 20000 in
set_option maxHeartbeats 4000000 in
theorem makeEnum_c (r d : Value) (whole x kn : JV) (ws cs : List Value) (w : World) (ok : Nat → Prop) (hw : Rep w ok whole ws) (hr : Rep w ok x cs) : Calls Tryz.prog 41 #[r, .agg ws.toArray, .agg cs.toArray, d] w (LeafPost x ⟨#[101, 110, 117, 109]⟩ kn w ok) := by
  obtain ⟨wn, wc, wi, wd, rfl⟩ := hw.form
  have HR := Lib.hid hr
  obtain ⟨an, cn, ai, ci, rfl⟩ := hr.form
  clear hw hr
  have HV := Lib.hid (show leafOk ⟨#[101, 110, 117, 109]⟩ x = (decide (x.kind = 5) && !x.items.isEmpty) by unfold leafOk; rw [if_neg (by decide), if_pos rfl])
  have HB := Lib.hid (show Below w.heap.size w ((w.alloc (.cells #[.int .i64 whole.kind, .int .i64 whole.int, .string whole.text, .slice wn whole.names.length wc, .slice wi whole.items.length wd] 25)).alloc (.cells #[.int .i64 x.kind, .int .i64 x.int, .string x.text, .slice an x.names.length cn, .slice ai x.items.length ci] 25)) from (by repeat (first | with_reducible exact Below.refl _ _ | with_reducible refine below_drewN ?_ _ | with_reducible refine Below.drew ?_ | with_reducible refine Below.alloc ?_ (by first | (simp; done) | (simp; omega)) _ | with_reducible refine Below.setCell ?_ (by first | (simp; done) | (simp; omega)) _)))
  have HX := Lib.hid (heap_alloc_new (w.alloc (.cells #[.int .i64 whole.kind, .int .i64 whole.int, .string whole.text, .slice wn whole.names.length wc, .slice wi whole.items.length wd] 25)) (.cells #[.int .i64 x.kind, .int .i64 x.int, .string x.text, .slice an x.names.length cn, .slice ai x.items.length ci] 25))
  by_cases h5 : x.kind = 5 ∧ 0 < x.items.length
  · have HL := Lib.hid (show leafOk ⟨#[101, 110, 117, 109]⟩ x = true by rw [HV.out, h5.1]; cases hx : x.items with | nil => rw [hx] at h5; simp at h5 | cons a b => rfl)
    have e5 : (x.kind == 5) = true := by simp [h5.1]
    have HN := Lib.hid (fun (W : World) => (show Calls Tryz.prog 30 #[.bool (decide (0 < x.items.length))] W (fun r w' => r = .returned (.tuple #[]) ∧ W = w') from by rw [decide_eq_true h5.2]; exact need_t W))
    clear h5
    go_enter Tryz.func41, Tryz.ntmps41
    go_wp2_with (go_at_call 30; refine (HN.out _).mono ?_; rintro e w' ⟨rfl, rfl⟩)
    go_ret
    refine ⟨HB.out, .inl ⟨HL.out, _, rfl, ?_⟩⟩
    unfold LeafAt
    rw [if_neg (by decide), if_pos rfl]
    exact ⟨_, rfl, box_new HR.out HB.out (by omega) (by have h := HX.out; rw [World.size_alloc] at h; exact h)⟩
  · have HL := Lib.hid (show leafOk ⟨#[101, 110, 117, 109]⟩ x = false by
      rw [HV.out]
      by_cases h : x.kind = 5
      · have : x.items = [] := by
          cases hx : x.items with
          | nil => rfl
          | cons a b => exact absurd ⟨h, by rw [hx]; simp⟩ h5
        rw [this]
        simp
      · simp [h])
    by_cases hk : x.kind = 5
    · have e5 : (x.kind == 5) = true := by simp [hk]
      have HN := Lib.hid (fun (W : World) => (show Calls Tryz.prog 30 #[.bool (decide (0 < x.items.length))] W (fun r w' => r = refV 210 ∧ W = w') from by rw [decide_eq_false (fun h => h5 ⟨hk, h⟩)]; exact need_f W))
      clear h5 hk
      go_enter Tryz.func41, Tryz.ntmps41
      go_wp2_with fail
      refine (HN.out _).mono ?_; rintro e w' ⟨rfl, rfl⟩
      unfold refV
      go_wp2
      exact ⟨rfl, HB.out, .inr ⟨HL.out, rfl⟩⟩
    · have e5 : (x.kind == 5) = false := by simp [hk]
      clear h5 hk
      go_enter Tryz.func41, Tryz.ntmps41
      go_wp2_with fail
      refine (need_f _).mono ?_; rintro e w' ⟨rfl, rfl⟩
      unfold refV
      go_wp2
      exact ⟨rfl, HB.out, .inr ⟨HL.out, rfl⟩⟩
set_option maxRecDepth 20000 in
set_option maxHeartbeats 4000000 in
theorem makeSized_c (r d : Value) (whole x kn : JV) (ws cs : List Value) (n : ByteArray) (hn : n = ⟨#[109, 105, 110, 73, 116, 101, 109, 115]⟩ ∨ n = ⟨#[109, 97, 120, 73, 116, 101, 109, 115]⟩ ∨ n = ⟨#[109, 105, 110, 76, 101, 110, 103, 116, 104]⟩ ∨ n = ⟨#[109, 97, 120, 76, 101, 110, 103, 116, 104]⟩) (w : World) (ok : Nat → Prop) (hw : Rep w ok whole ws) (hr : Rep w ok x cs) (b c : Nat) (hb : w.heap[b]? = some (.cells #[.func (.func (sizedFn n)) #[] #[]] 91 (0, 0))) (hc : w.heap[c]? = some (.cells #[.bool (sizedMost n)] 4 (0, 0))) (hok : ok c) :
    Calls Tryz.prog 74 #[r, .agg ws.toArray, .agg cs.toArray, d, .pointer (some ⟨b, 0, none⟩), .pointer (some ⟨c, 0, none⟩)] w (LeafPost x n kn w ok) := by
  obtain ⟨wn, wc, wi, wd, rfl⟩ := hw.form
  have HR := Lib.hid hr
  obtain ⟨an, cn, ai, ci, rfl⟩ := hr.form
  clear hw hr
  have HN := Lib.hid hn
  have HV := Lib.hid (show leafOk n x = (decide (x.kind = 3) && decide (0 ≤ x.int)) by
    unfold leafOk
    rcases hn with h | h | h | h <;> subst h <;> rw [if_neg (by decide), if_neg (by decide), if_neg (by decide), if_neg (by decide), if_pos (by decide)])
  have HB := Lib.hid (show Below w.heap.size w ((w.alloc (.cells #[.int .i64 whole.kind, .int .i64 whole.int, .string whole.text, .slice wn whole.names.length wc, .slice wi whole.items.length wd] 25)).alloc (.cells #[.int .i64 x.kind, .int .i64 x.int, .string x.text, .slice an x.names.length cn, .slice ai x.items.length ci] 25)) from (by repeat (first | with_reducible exact Below.refl _ _ | with_reducible refine below_drewN ?_ _ | with_reducible refine Below.drew ?_ | with_reducible refine Below.alloc ?_ (by first | (simp; done) | (simp; omega)) _ | with_reducible refine Below.setCell ?_ (by first | (simp; done) | (simp; omega)) _)))
  have HX := Lib.hid (heap_alloc_new (w.alloc (.cells #[.int .i64 whole.kind, .int .i64 whole.int, .string whole.text, .slice wn whole.names.length wc, .slice wi whole.items.length wd] 25)) (.cells #[.int .i64 x.kind, .int .i64 x.int, .string x.text, .slice an x.names.length cn, .slice ai x.items.length ci] 25))
  have hbc := cell_of_row _ _ 0 _ _ _ hb
  have HC := Lib.hid hc
  have hbl := (Array.getElem?_eq_some_iff.1 hb).1
  have HOC := Lib.hid hok
  simp only [List.getElem?_toArray, List.getElem?_cons_zero] at hbc
  clear hn hb hc hok
  by_cases h3 : x.kind = 3 ∧ 0 ≤ x.int
  · have HL := Lib.hid (show leafOk n x = true by rw [HV.out, h3.1]; simp [h3.2])
    have e3 : (x.kind == 3) = true := by simp [h3.1]
    have HND := Lib.hid (fun (W : World) => (show Calls Tryz.prog 30 #[.bool (decide (0 ≤ x.int))] W (fun r w' => r = .returned (.tuple #[]) ∧ W = w') from by rw [decide_eq_true h3.2]; exact need_t W))
    clear h3
    go_enter Tryz.func74, Tryz.ntmps74
    go_wp2_with (go_at_call 30; refine (HND.out _).mono ?_; rintro e w' ⟨rfl, rfl⟩)
    go_ret
    refine ⟨HB.out, .inl ⟨HL.out, _, rfl, ?_⟩⟩
    unfold LeafAt
    have hbx := box_new HR.out HB.out (X := w.heap.size + 1) (by omega) (by have h := HX.out; rw [World.size_alloc] at h; exact h)
    have hcx : CellAt ((w.alloc (.cells #[.int .i64 whole.kind, .int .i64 whole.int, .string whole.text, .slice wn whole.names.length wc, .slice wi whole.items.length wd] 25)).alloc (.cells #[.int .i64 x.kind, .int .i64 x.int, .string x.text, .slice an x.names.length cn, .slice ai x.items.length ci] 25)) (fun b => ok b ∨ w.heap.size ≤ b) c (.bool (sizedMost n)) 4 := ⟨.inl HOC.out, (HB.out.block c (Array.getElem?_eq_some_iff.1 HC.out).1).trans HC.out⟩
    have hne := HN.out
    rw [if_neg (by rcases hne with h | h | h | h <;> rw [h] <;> decide), if_neg (by rcases hne with h | h | h | h <;> rw [h] <;> decide), if_neg (by rcases hne with h | h | h | h <;> rw [h] <;> decide), if_neg (by rcases hne with h | h | h | h <;> rw [h] <;> decide), if_pos hne]
    exact ⟨_, _, rfl, hbx, hcx⟩
  · have HL := Lib.hid (show leafOk n x = false by
      rw [HV.out, ← Bool.decide_and]
      exact decide_eq_false h3)
    by_cases hk : x.kind = 3
    · have e3 : (x.kind == 3) = true := by simp [hk]
      have HND := Lib.hid (fun (W : World) => (show Calls Tryz.prog 30 #[.bool (decide (0 ≤ x.int))] W (fun r w' => r = refV 210 ∧ W = w') from by rw [decide_eq_false (fun h => h3 ⟨hk, h⟩)]; exact need_f W))
      clear h3 hk
      go_enter Tryz.func74, Tryz.ntmps74
      go_wp2_with fail
      refine (HND.out _).mono ?_; rintro e w' ⟨rfl, rfl⟩
      unfold refV
      go_wp2
      exact ⟨rfl, HB.out, .inr ⟨HL.out, rfl⟩⟩
    · have e3 : (x.kind == 3) = false := by simp [hk]
      clear h3 hk
      go_enter Tryz.func74, Tryz.ntmps74
      go_wp2_with fail
      refine (need_f _).mono ?_; rintro e w' ⟨rfl, rfl⟩
      unfold refV
      go_wp2
      exact ⟨rfl, HB.out, .inr ⟨HL.out, rfl⟩⟩
set_option maxRecDepth 20000 in
set_option maxHeartbeats 4000000 in
theorem makeRanged_c (r d : Value) (whole x kn : JV) (ws cs : List Value) (n : ByteArray) (least : Int) (hn : (n = ⟨#[109, 105, 110, 105, 109, 117, 109]⟩ ∨ n = ⟨#[109, 97, 120, 105, 109, 117, 109]⟩) ∧ least = -9223372036854775808 ∨ n = ⟨#[100, 105, 118, 105, 115, 105, 98, 108, 101]⟩ ∧ least = 1) (w : World) (ok : Nat → Prop) (hw : Rep w ok whole ws) (hr : Rep w ok x cs) (b c : Nat) (hb : w.heap[b]? = some (.cells #[.int .i64 least] 2 (0, 0))) (hc : w.heap[c]? = some (.cells #[.func (.func (rangedFn n)) #[] #[]] 94 (0, 0))) (hok : ok c) :
    Calls Tryz.prog 76 #[r, .agg ws.toArray, .agg cs.toArray, d, .pointer (some ⟨b, 0, none⟩), .pointer (some ⟨c, 0, none⟩)] w (LeafPost x n kn w ok) := by
  obtain ⟨wn, wc, wi, wd, rfl⟩ := hw.form
  have HR := Lib.hid hr
  obtain ⟨an, cn, ai, ci, rfl⟩ := hr.form
  clear hw hr
  have HN := Lib.hid hn
  have hint : -9223372036854775808 ≤ x.int := by
    obtain ⟨k, i, s, ns, is⟩ := x
    have h := HR.out
    rw [rep_mk] at h
    exact h.2.1.1
  have HV := Lib.hid (show leafOk n x = (decide (x.kind = 3) && decide (least ≤ x.int)) by
    unfold leafOk
    rcases hn with ⟨h | h, hl⟩ | ⟨h, hl⟩
    · subst h; subst hl
      rw [if_neg (by decide), if_neg (by decide), if_neg (by decide), if_neg (by decide), if_neg (by decide), if_pos (by decide), decide_eq_true hint, Bool.and_true]
    · subst h; subst hl
      rw [if_neg (by decide), if_neg (by decide), if_neg (by decide), if_neg (by decide), if_neg (by decide), if_pos (by decide), decide_eq_true hint, Bool.and_true]
    · subst h; subst hl
      rw [if_neg (by decide), if_neg (by decide), if_neg (by decide), if_neg (by decide), if_neg (by decide), if_neg (by decide), if_pos (by decide)])
  have HB := Lib.hid (show Below w.heap.size w ((w.alloc (.cells #[.int .i64 whole.kind, .int .i64 whole.int, .string whole.text, .slice wn whole.names.length wc, .slice wi whole.items.length wd] 25)).alloc (.cells #[.int .i64 x.kind, .int .i64 x.int, .string x.text, .slice an x.names.length cn, .slice ai x.items.length ci] 25)) from (by repeat (first | with_reducible exact Below.refl _ _ | with_reducible refine below_drewN ?_ _ | with_reducible refine Below.drew ?_ | with_reducible refine Below.alloc ?_ (by first | (simp; done) | (simp; omega)) _ | with_reducible refine Below.setCell ?_ (by first | (simp; done) | (simp; omega)) _)))
  have HX := Lib.hid (heap_alloc_new (w.alloc (.cells #[.int .i64 whole.kind, .int .i64 whole.int, .string whole.text, .slice wn whole.names.length wc, .slice wi whole.items.length wd] 25)) (.cells #[.int .i64 x.kind, .int .i64 x.int, .string x.text, .slice an x.names.length cn, .slice ai x.items.length ci] 25))
  have hbc := cell_of_row _ _ 0 _ _ _ hb
  have HC := Lib.hid hc
  have hbl := (Array.getElem?_eq_some_iff.1 hb).1
  have HOC := Lib.hid hok
  simp only [List.getElem?_toArray, List.getElem?_cons_zero] at hbc
  clear hn hb hc hok hint
  by_cases h3 : x.kind = 3 ∧ least ≤ x.int
  · have HL := Lib.hid (show leafOk n x = true by rw [HV.out, h3.1]; simp [h3.2])
    have e3 : (x.kind == 3) = true := by simp [h3.1]
    have HND := Lib.hid (fun (W : World) => (show Calls Tryz.prog 30 #[.bool (decide (least ≤ x.int))] W (fun r w' => r = .returned (.tuple #[]) ∧ W = w') from by rw [decide_eq_true h3.2]; exact need_t W))
    clear h3
    go_enter Tryz.func76, Tryz.ntmps76
    go_wp2_with (go_at_call 30; refine (HND.out _).mono ?_; rintro e w' ⟨rfl, rfl⟩)
    go_ret
    refine ⟨HB.out, .inl ⟨HL.out, _, rfl, ?_⟩⟩
    unfold LeafAt
    have hbx := box_new HR.out HB.out (X := w.heap.size + 1) (by omega) (by have h := HX.out; rw [World.size_alloc] at h; exact h)
    have hcx : CellAt ((w.alloc (.cells #[.int .i64 whole.kind, .int .i64 whole.int, .string whole.text, .slice wn whole.names.length wc, .slice wi whole.items.length wd] 25)).alloc (.cells #[.int .i64 x.kind, .int .i64 x.int, .string x.text, .slice an x.names.length cn, .slice ai x.items.length ci] 25)) (fun b => ok b ∨ w.heap.size ≤ b) c (.func (.func (rangedFn n)) #[] #[]) 94 := ⟨.inl HOC.out, (HB.out.block c (Array.getElem?_eq_some_iff.1 HC.out).1).trans HC.out⟩
    have hne := HN.out
    rw [if_neg (by rcases hne with ⟨h | h, _⟩ | ⟨h, _⟩ <;> rw [h] <;> decide), if_neg (by rcases hne with ⟨h | h, _⟩ | ⟨h, _⟩ <;> rw [h] <;> decide), if_neg (by rcases hne with ⟨h | h, _⟩ | ⟨h, _⟩ <;> rw [h] <;> decide), if_neg (by rcases hne with ⟨h | h, _⟩ | ⟨h, _⟩ <;> rw [h] <;> decide), if_neg (by rcases hne with ⟨h | h, _⟩ | ⟨h, _⟩ <;> rw [h] <;> decide)]
    exact ⟨_, _, rfl, hbx, hcx⟩
  · have HL := Lib.hid (show leafOk n x = false by
      rw [HV.out, ← Bool.decide_and]
      exact decide_eq_false h3)
    by_cases hk : x.kind = 3
    · have e3 : (x.kind == 3) = true := by simp [hk]
      have HND := Lib.hid (fun (W : World) => (show Calls Tryz.prog 30 #[.bool (decide (least ≤ x.int))] W (fun r w' => r = refV 210 ∧ W = w') from by rw [decide_eq_false (fun h => h3 ⟨hk, h⟩)]; exact need_f W))
      clear h3 hk
      go_enter Tryz.func76, Tryz.ntmps76
      go_wp2_with fail
      refine (HND.out _).mono ?_; rintro e w' ⟨rfl, rfl⟩
      unfold refV
      go_wp2
      exact ⟨rfl, HB.out, .inr ⟨HL.out, rfl⟩⟩
    · have e3 : (x.kind == 3) = false := by simp [hk]
      clear h3 hk
      go_enter Tryz.func76, Tryz.ntmps76
      go_wp2_with fail
      refine (need_f _).mono ?_; rintro e w' ⟨rfl, rfl⟩
      unfold refV
      go_wp2
      exact ⟨rfl, HB.out, .inr ⟨HL.out, rfl⟩⟩
end Go.Proofs.YtnmojmmgkipjcaaGreatDoor
namespace Go.Proofs.YtnmojmmgkipjcaaGreatDoor
open Go.RowKit
set_option maxRecDepth 20000 in
set_option maxHeartbeats 4000000 in
theorem makeAdditional_c (r d : Value) (whole x : JV) (ws cs : List Value) (w : World) (ok : Nat → Prop) (hw : Rep w ok whole ws) (hwb : whole.bulk ≤ 1099511627776) (hr : Rep w ok x cs) :
    Calls Tryz.prog 44 #[r, .agg ws.toArray, .agg cs.toArray, d] w (LeafPost x ⟨#[97, 100, 100, 105, 116, 105, 111, 110, 97, 108]⟩ ((hasJ whole ⟨#[112, 114, 111, 112, 101, 114, 116, 105, 101, 115]⟩).getD (jnil 0)) w ok) := by
  have HWR := Lib.hid hw
  obtain ⟨wn, wc, wi, wd, rfl⟩ := hw.form
  have HR := Lib.hid hr
  obtain ⟨an, cn, ai, ci, rfl⟩ := hr.form
  clear hw hr
  have HV := Lib.hid (show leafOk ⟨#[97, 100, 100, 105, 116, 105, 111, 110, 97, 108]⟩ x = (decide (x.kind = 2) || decide (x.kind = 1)) by unfold leafOk; rw [if_neg (by decide), if_neg (by decide), if_neg (by decide), if_pos rfl])
  have hb : Below w.heap.size w ((w.alloc (.cells #[.int .i64 whole.kind, .int .i64 whole.int, .string whole.text, .slice wn whole.names.length wc, .slice wi whole.items.length wd] 25)).alloc (.cells #[.int .i64 x.kind, .int .i64 x.int, .string x.text, .slice an x.names.length cn, .slice ai x.items.length ci] 25)) := (by repeat (first | with_reducible exact Below.refl _ _ | with_reducible refine below_drewN ?_ _ | with_reducible refine Below.drew ?_ | with_reducible refine below_set5 ?_ (by first | (simp; done) | (simp; omega)) | with_reducible refine Below.alloc ?_ (by first | (simp; done) | (simp; omega)) _ | with_reducible refine Below.setCell ?_ (by first | (simp; done) | (simp; omega)) _))
  have HB := Lib.hid hb
  have HHAS := Lib.hid (has_c whole ⟨#[112, 114, 111, 112, 101, 114, 116, 105, 101, 115]⟩ _ ((w.alloc (.cells #[.int .i64 whole.kind, .int .i64 whole.int, .string whole.text, .slice wn whole.names.length wc, .slice wi whole.items.length wd] 25)).alloc (.cells #[.int .i64 x.kind, .int .i64 x.int, .string x.text, .slice an x.names.length cn, .slice ai x.items.length ci] 25)) ok (HWR.out.below hb) hwb)
  have HX := Lib.hid (heap_alloc_new (w.alloc (.cells #[.int .i64 whole.kind, .int .i64 whole.int, .string whole.text, .slice wn whole.names.length wc, .slice wi whole.items.length wd] 25)) (.cells #[.int .i64 x.kind, .int .i64 x.int, .string x.text, .slice an x.names.length cn, .slice ai x.items.length ci] 25))
  clear hb
  by_cases h2 : x.kind = 2 ∨ x.kind = 1
  · have HL := Lib.hid (show leafOk ⟨#[97, 100, 100, 105, 116, 105, 111, 110, 97, 108]⟩ x = true by rw [HV.out]; simpa using h2)
    have HK := Lib.hid (show ∀ (w1 : World) (u : JV) (us : List Value), us.length = 5 → True from fun _ _ _ _ => trivial)
    have fin : ∀ (w1 : World) (yan : Option Addr) (ycn : Nat) (yai : Option Addr) (yci : Nat), Rep w1 (fun b => ((w.alloc (.cells #[.int .i64 whole.kind, .int .i64 whole.int, .string whole.text, .slice wn whole.names.length wc, .slice wi whole.items.length wd] 25)).alloc (.cells #[.int .i64 x.kind, .int .i64 x.int, .string x.text, .slice an x.names.length cn, .slice ai x.items.length ci] 25)).heap.size ≤ b) ((hasJ whole ⟨#[112, 114, 111, 112, 101, 114, 116, 105, 101, 115]⟩).getD (jnil 0)) [.int .i64 ((hasJ whole ⟨#[112, 114, 111, 112, 101, 114, 116, 105, 101, 115]⟩).getD (jnil 0)).kind, .int .i64 ((hasJ whole ⟨#[112, 114, 111, 112, 101, 114, 116, 105, 101, 115]⟩).getD (jnil 0)).int, .string ((hasJ whole ⟨#[112, 114, 111, 112, 101, 114, 116, 105, 101, 115]⟩).getD (jnil 0)).text, .slice yan ((hasJ whole ⟨#[112, 114, 111, 112, 101, 114, 116, 105, 101, 115]⟩).getD (jnil 0)).names.length ycn, .slice yai ((hasJ whole ⟨#[112, 114, 111, 112, 101, 114, 116, 105, 101, 115]⟩).getD (jnil 0)).items.length yci] →
        Below ((w.alloc (.cells #[.int .i64 whole.kind, .int .i64 whole.int, .string whole.text, .slice wn whole.names.length wc, .slice wi whole.items.length wd] 25)).alloc (.cells #[.int .i64 x.kind, .int .i64 x.int, .string x.text, .slice an x.names.length cn, .slice ai x.items.length ci] 25)).heap.size ((w.alloc (.cells #[.int .i64 whole.kind, .int .i64 whole.int, .string whole.text, .slice wn whole.names.length wc, .slice wi whole.items.length wd] 25)).alloc (.cells #[.int .i64 x.kind, .int .i64 x.int, .string x.text, .slice an x.names.length cn, .slice ai x.items.length ci] 25)) w1 →
        ∀ w2, w1.heap[w1.heap.size]? = none → Below w1.heap.size w1 w2 → w2.heap[w1.heap.size]? = some (.cells #[.int .i64 ((hasJ whole ⟨#[112, 114, 111, 112, 101, 114, 116, 105, 101, 115]⟩).getD (jnil 0)).kind, .int .i64 ((hasJ whole ⟨#[112, 114, 111, 112, 101, 114, 116, 105, 101, 115]⟩).getD (jnil 0)).int, .string ((hasJ whole ⟨#[112, 114, 111, 112, 101, 114, 116, 105, 101, 115]⟩).getD (jnil 0)).text, .slice yan ((hasJ whole ⟨#[112, 114, 111, 112, 101, 114, 116, 105, 101, 115]⟩).getD (jnil 0)).names.length ycn, .slice yai ((hasJ whole ⟨#[112, 114, 111, 112, 101, 114, 116, 105, 101, 115]⟩).getD (jnil 0)).items.length yci] 25 (0, 0)) →
        LeafPost x ⟨#[97, 100, 100, 105, 116, 105, 111, 110, 97, 108]⟩ ((hasJ whole ⟨#[112, 114, 111, 112, 101, 114, 116, 105, 101, 115]⟩).getD (jnil 0)) w ok (.returned (keepsV 73 #[.pointer (some ⟨w.heap.size + 1, 0, none⟩), .pointer (some ⟨w1.heap.size, 0, none⟩)])) w2 := by
      intro w1 yan ycn yai yci hrep hb1 w2 _ hb2 hK
      have hs1 := hb1.size
      simp only [World.size_alloc] at hs1
      have hbl := HB.out.trans ((hb1.mono HB.out.size).trans (hb2.mono (by omega)))
      refine ⟨hbl, .inl ⟨HL.out, _, rfl, ?_⟩⟩
      unfold LeafAt
      rw [if_neg (by decide), if_neg (by decide), if_neg (by decide), if_pos rfl]
      have hx1 := hb1.block (w.heap.size + 1) (by simp)
      have hx2 := hb2.block (w.heap.size + 1) (by omega)
      refine ⟨_, _, rfl, box_new HR.out hbl (by omega) ((hx2.trans hx1).trans (by have h := HX.out; rw [World.size_alloc] at h; exact h)), .inr (by omega), _, hK, ?_⟩
      exact Rep.kept (fun b hlt ho => ⟨.inr (by simp only [World.size_alloc] at ho; omega), hb2.block b hlt⟩) _ _ hrep
    have FIN := Lib.hid fin
    clear fin HK
    by_cases hk : x.kind = 2
    · have e2 : (x.kind == 2) = true := by simp [hk]
      clear h2 hk
      go_enter Tryz.func44, Tryz.ntmps44
      go_wp2_with (first
        | (go_at_call 30; refine (need_t _).mono ?_; rintro e w' ⟨rfl, rfl⟩)
        | (go_at_call 72; refine HHAS.out.mono ?_; rintro e w1 ⟨yan, ycn, yai, yci, rfl, hrep, hb1⟩; have HF := Lib.hid (FIN.out w1 yan ycn yai yci hrep hb1); obtain ⟨⟨t0, t1, t2, t3, t4⟩, f0, f1, f2, f3, f4⟩ := cellsOf5 (heap_alloc_new w1 (.cells #[.int .i64 0, .int .i64 0, .string ⟨#[]⟩, .slice none 0 0, .slice none 0 0] 25)); clear hrep hb1))
      go_ret
      exact HF.out _ (by simp) ((Below.refl _ _).alloc (Nat.le_refl _) _) (heap_alloc_new w1 _)
    · have e2 : (x.kind == 2) = false := by simp [hk]
      have e1 : (x.kind == 1) = true := by rcases h2 with h | h <;> simp_all
      clear h2 hk
      go_enter Tryz.func44, Tryz.ntmps44
      go_wp2_with (first
        | (go_at_call 30; refine (need_t _).mono ?_; rintro e w' ⟨rfl, rfl⟩)
        | (go_at_call 72; refine HHAS.out.mono ?_; rintro e w1 ⟨yan, ycn, yai, yci, rfl, hrep, hb1⟩; have HF := Lib.hid (FIN.out w1 yan ycn yai yci hrep hb1); obtain ⟨⟨t0, t1, t2, t3, t4⟩, f0, f1, f2, f3, f4⟩ := cellsOf5 (heap_alloc_new w1 (.cells #[.int .i64 0, .int .i64 0, .string ⟨#[]⟩, .slice none 0 0, .slice none 0 0] 25)); clear hrep hb1))
      go_ret
      exact HF.out _ (by simp) ((Below.refl _ _).alloc (Nat.le_refl _) _) (heap_alloc_new w1 _)
  · have HL := Lib.hid (show leafOk ⟨#[97, 100, 100, 105, 116, 105, 111, 110, 97, 108]⟩ x = false by rw [HV.out]; simp only [not_or] at h2; simp [h2.1, h2.2])
    have e2 : (x.kind == 2) = false := by simp only [not_or] at h2; simp [h2.1]
    have e1 : (x.kind == 1) = false := by simp only [not_or] at h2; simp [h2.2]
    clear h2
    go_enter Tryz.func44, Tryz.ntmps44
    go_wp2_with fail
    refine (need_f _).mono ?_; rintro e w' ⟨rfl, rfl⟩
    unfold refV
    go_wp2
    exact ⟨rfl, HB.out, .inr ⟨HL.out, rfl⟩⟩
end Go.Proofs.YtnmojmmgkipjcaaGreatDoor
namespace Go.Proofs.YtnmojmmgkipjcaaGreatDoor
open Go.RowKit
theorem intTy : SlTy Tryz.prog 101 3 (.int .i64 0) 1 8 := ⟨by kernel_rfl, by kernel_rfl, by kernel_rfl, by decide⟩
theorem kinds_len (y : JV) : (kindsJ y).length ≤ 2 := by
  unfold kindsJ typeKinds
  repeat' split
  all_goals simp
theorem flat_len (l : List JV) : (l.flatMap kindsJ).length ≤ 2 * l.length := by
  induction l with
  | nil => simp
  | cons x r ih => have := kinds_len x; simp only [List.flatMap_cons, List.length_append, List.length_cons]; omega
theorem take_flat (l : List JV) (j : Nat) (h : j < l.length) : (l.take (j + 1)).flatMap kindsJ = (l.take j).flatMap kindsJ ++ kindsJ l[j] := by
  rw [List.take_succ_eq_append_getElem h, List.flatMap_append]; simp
theorem len_bulk {k i : Int} {s : ByteArray} {ns : List ByteArray} {is : List JV} {N : Nat} (h : (JV.mk k i s ns is).bulk ≤ N) : is.length ≤ N := by
  have h1 := JV.len_bulks is
  rw [JV.bulk] at h
  omega
/-- numbers that are being gathered behind a cell -/
structure GathAt (w : World) (B A : Nat) (l : List Int) (v : Value) : Prop where
  ge : B ≤ A
  cell : w.heap[A]? = some (.cells #[v] 101 (0, 0))
  row : Row w 3 1 v l.length (l.map (Value.int .i64))
  ne : v.ownBlock ≠ some A
  own : ∀ g, v.ownBlock = some g → B ≤ g
theorem GathAt.below {w w' : World} {B A : Nat} {l : List Int} {v : Value} (h : GathAt w B A l v) (hb : Below w.heap.size w w') : GathAt w' B A l v :=
  ⟨h.ge, (hb.block A (Array.getElem?_eq_some_iff.1 h.cell).1).trans h.cell, h.row.below hb, h.ne, h.own⟩
theorem GathAt.start (w : World) : GathAt (w.alloc (.cells #[.slice none 0 0] 101)) w.heap.size w.heap.size [] (.slice none 0 0) :=
  ⟨Nat.le_refl _, heap_alloc_new w _, row_nil _ _ _, (by simp [Value.ownBlock]), (by simp [Value.ownBlock])⟩
theorem GathAt.put {w w' : World} {B A : Nat} {l l' : List Int} {v v' : Value} (h : GathAt w B A l v) (hB : B ≤ w.heap.size) (hr : Row w' 3 1 v' (l.length + l'.length) (l.map (Value.int .i64) ++ l'.map (Value.int .i64))) (hu : Upd w w' v.ownBlock v'.ownBlock) :
    GathAt (w'.setCell ⟨A, 0, none⟩ v') B A (l ++ l') v' ∧ Below B w (w'.setCell ⟨A, 0, none⟩ v') := by
  have hAl := (Array.getElem?_eq_some_iff.1 h.cell).1
  have hne : v'.ownBlock ≠ some A := by
    rcases hu.own with e | ⟨g, e, hg⟩
    · rw [e]; exact h.ne
    · rw [e]; intro he; injection he with he; omega
  have hA : w'.heap[A]? = some (.cells #[v] 101 (0, 0)) := (hu.block hAl h.ne).trans h.cell
  have hs : Upd w' (w'.setCell ⟨A, 0, none⟩ v') (some A) (some A) := Upd.of_setCell _ _ _
  refine ⟨⟨h.ge, heap_setCell_same w' A 0 _ _ _ hA, ?_, hne, fun g hg => ?_⟩, (hu.below hB h.own).trans (hs.below (Nat.le_trans hB hu.grown.size) (fun g e => by injection e with e; have := h.ge; omega))⟩
  · have := hr.kept hs (.inr hne)
    simpa using this
  · rcases hu.own with e | ⟨g', e, hg'⟩
    · exact h.own g (e ▸ hg)
    · rw [e] at hg; injection hg with hg; omega
theorem GathAt.done {w : World} {B A : Nat} {l : List Int} {v : Value} {ok : Nat → Prop} (h : GathAt w B A l v) (ho : ∀ b, B ≤ b → ok b) : ∃ a c, CellAt w ok A (.slice a l.length c) 101 ∧ IntsL w ok a l := by
  obtain ⟨a, cap, rfl, _, _, h3⟩ := h.row.form
  refine ⟨a, cap, ⟨ho A h.ge, h.cell⟩, ?_⟩
  rcases h3 with ⟨_, h3, _⟩ | ⟨g, rfl, h3, _, h4⟩
  · exact .inl (List.eq_nil_of_length_eq_zero h3)
  · exact .inr ⟨g, 0, rfl, ho g (h.own g h3), h4⟩
theorem IntsL.news {w : World} {ok : Nat → Prop} {a : Option Addr} {l : List Int} (h : IntsL w ok a l) (hl : 0 < l.length) : ∃ p, a = some p ∧ ∀ j u, (l.map (Value.int .i64))[j]? = some u → w.cell? (p.add j) = some u := by
  rcases h with rfl | ⟨b, off, rfl, _, h⟩
  · simp at hl
  · exact ⟨_, rfl, fun j u hj => by rw [add_none]; exact h j u hj⟩
theorem one_ints (l : List Int) : ∀ u ∈ l.map (Value.int .i64), u.oneCell' = true := by
  intro u hu
  obtain ⟨z, _, rfl⟩ := List.mem_map.1 hu
  rfl
set_option maxRecDepth 20000 in
set_option maxHeartbeats 4000000 in
theorem makeRequired_c (r d : Value) (whole x kn : JV) (ws cs : List Value) (w : World) (ok : Nat → Prop) (hw : Rep w ok whole ws) (hr : Rep w ok x cs) (hbk : x.bulk ≤ 1099511627776) : Calls Tryz.prog 42 #[r, .agg ws.toArray, .agg cs.toArray, d] w (LeafPost x ⟨#[114, 101, 113, 117, 105, 114, 101, 100]⟩ kn w ok) := by
  obtain ⟨wn, wc, wi, wd, rfl⟩ := hw.form
  have HR := Lib.hid hr
  obtain ⟨k, i, s, ns, is⟩ := x
  rw [rep_mk] at hr
  obtain ⟨_, _, _, an, cn, ai, ci, rfl, _, _, _, hit⟩ := hr
  have hlen := len_bulk hbk
  have HV := Lib.hid (show leafOk ⟨#[114, 101, 113, 117, 105, 114, 101, 100]⟩ (.mk k i s ns is) = (decide (k = 5) && is.all (fun y => decide (y.kind = 4))) by unfold leafOk; rw [if_neg (by decide), if_neg (by decide), if_pos rfl]; rfl)
  have hb : Below w.heap.size w ((w.alloc (.cells #[.int .i64 whole.kind, .int .i64 whole.int, .string whole.text, .slice wn whole.names.length wc, .slice wi whole.items.length wd] 25)).alloc (.cells #[.int .i64 k, .int .i64 i, .string s, .slice an ns.length cn, .slice ai is.length ci] 25)) := (by repeat (first | with_reducible exact Below.refl _ _ | with_reducible refine below_drewN ?_ _ | with_reducible refine Below.drew ?_ | with_reducible refine below_set5 ?_ (by first | (simp; done) | (simp; omega)) | with_reducible refine Below.alloc ?_ (by first | (simp; done) | (simp; omega)) _ | with_reducible refine Below.setCell ?_ (by first | (simp; done) | (simp; omega)) _))
  have HB := Lib.hid hb
  have HIT := Lib.hid (hit.below hb)
  have HX := Lib.hid (heap_alloc_new (w.alloc (.cells #[.int .i64 whole.kind, .int .i64 whole.int, .string whole.text, .slice wn whole.names.length wc, .slice wi whole.items.length wd] 25)) (.cells #[.int .i64 k, .int .i64 i, .string s, .slice an ns.length cn, .slice ai is.length ci] 25))
  clear hw hit hb hbk
  by_cases h5 : k = 5
  case neg =>
    have HL := Lib.hid (show leafOk ⟨#[114, 101, 113, 117, 105, 114, 101, 100]⟩ (.mk k i s ns is) = false by rw [HV.out, decide_eq_false h5]; rfl)
    have e5 : (k == 5) = false := by simp [h5]
    clear h5
    go_enter Tryz.func42, Tryz.ntmps42
    go_wp2_with fail
    refine (need_f _).mono ?_; rintro e w' ⟨rfl, rfl⟩
    unfold refV
    go_wp2
    exact ⟨rfl, HB.out, .inr ⟨HL.out, rfl⟩⟩
  subst h5
  have HV2 := Lib.hid (show leafOk ⟨#[114, 101, 113, 117, 105, 114, 101, 100]⟩ (.mk 5 i s ns is) = is.all (fun y => decide (y.kind = 4)) by rw [HV.out]; rfl)
  go_enter Tryz.func42, Tryz.ntmps42
  go_wp2_with (go_at_call 30; refine (need_t _).mono ?_; rintro e w' ⟨rfl, rfl⟩)
  have hX := HX.out
  rw [World.size_alloc] at hX
  have HX2 := Lib.hid hX
  clear hX HX
  generalize hW0 : ((w.alloc (.cells #[.int .i64 whole.kind, .int .i64 whole.int, .string whole.text, .slice wn whole.names.length wc, .slice wi whole.items.length wd] 25)).alloc (.cells #[.int .i64 5, .int .i64 i, .string s, .slice an ns.length cn, .slice ai is.length ci] 25)) = W0 at *
  have hXl : w.heap.size + 1 < W0.heap.size := by rw [← hW0]; simp
  clear hW0
  go_loopw [18] (fun q wr => ∃ j : Nat, j ≤ is.length ∧ q = .int .i64 j ∧ Hid (∀ y ∈ is.take j, y.kind = 4) ∧ Hid (Below W0.heap.size W0 wr)) (fun q _ => is.length - (intOf q).toNat)
  case atStart => exact ⟨0, Nat.zero_le _, rfl, Lib.hid (by simp), Lib.hid (Below.refl _ _)⟩
  case round =>
    obtain ⟨j, hj, rfl, HA, HBL⟩ := hrel
    have hsz := HBL.out.size
    by_cases hlt : j < is.length
    · obtain ⟨b2, off2, an2, cn2, ai2, ci2, rfl, hrj, hlj⟩ := (HIT.out.below HBL.out).at j hlt
      obtain ⟨l0, l1, l2, l3, l4⟩ := lie5 hlj
      have hb0 := cell_lt l0
      simp only at hb0
      by_cases h4 : is[j].kind = 4
      · have e4 : (is[j].kind == 4) = true := by simp [h4]
        have HA2 := Lib.hid (show ∀ y ∈ is.take (j + 1), y.kind = 4 by
          intro y hy
          rw [List.take_succ_eq_append_getElem hlt, List.mem_append] at hy
          rcases hy with hy | hy
          · exact HA.out y hy
          · rw [List.mem_singleton.1 hy]; exact h4)
        clear hrj hlj h4
        generalize is[j] = y at *
        go_wp2_with (go_at_call 30; refine (need_t _).mono ?_; rintro e w' ⟨rfl, rfl⟩)
        go_roundw
        case rel => exact ⟨j + 1, by omega, by go_num, HA2, Lib.hid (HBL.out.trans (Below.mono ((by repeat (first | with_reducible exact Below.refl _ _ | with_reducible refine below_drewN ?_ _ | with_reducible refine Below.drew ?_ | with_reducible refine below_set5 ?_ (by first | (simp; done) | (simp; omega)) | with_reducible refine Below.alloc ?_ (by first | (simp; done) | (simp; omega)) _ | with_reducible refine Below.setCell ?_ (by first | (simp; done) | (simp; omega)) _)) : Below wr.heap.size wr _) hsz))⟩
        case measure => simp [intOf]; omega
      · have e4 : (is[j].kind == 4) = false := by simp [h4]
        have HL := Lib.hid (show leafOk ⟨#[114, 101, 113, 117, 105, 114, 101, 100]⟩ (.mk 5 i s ns is) = false by
          rw [HV2.out, List.all_eq_false]
          exact ⟨is[j], List.getElem_mem hlt, by simp [h4]⟩)
        clear hrj hlj h4
        generalize is[j] = y at *
        go_wp2_with fail
        refine (need_f _).mono ?_; rintro e w' ⟨rfl, rfl⟩
        unfold refV
        go_wp2
        exact ⟨rfl, HB.out.trans ((HBL.out.trans (Below.mono ((by repeat (first | with_reducible exact Below.refl _ _ | with_reducible refine below_drewN ?_ _ | with_reducible refine Below.drew ?_ | with_reducible refine below_set5 ?_ (by first | (simp; done) | (simp; omega)) | with_reducible refine Below.alloc ?_ (by first | (simp; done) | (simp; omega)) _ | with_reducible refine Below.setCell ?_ (by first | (simp; done) | (simp; omega)) _)) : Below wr.heap.size wr _) hsz)).mono HB.out.size), .inr ⟨HL.out, rfl⟩⟩
    · obtain rfl : j = is.length := by omega
      have HL := Lib.hid (show leafOk ⟨#[114, 101, 113, 117, 105, 114, 101, 100]⟩ (.mk 5 i s ns is) = true by
        rw [HV2.out, List.all_eq_true]
        intro y hy
        have h := HA.out
        rw [List.take_length] at h
        simp [h y hy])
      go_wp2
      go_ret
      have hbl := HB.out.trans (HBL.out.mono HB.out.size)
      refine ⟨hbl, .inl ⟨HL.out, _, rfl, ?_⟩⟩
      unfold LeafAt
      rw [if_neg (by decide), if_neg (by decide), if_pos rfl]
      exact ⟨_, rfl, box_new HR.out hbl (by omega) ((HBL.out.block _ hXl).trans HX2.out)⟩
set_option maxRecDepth 20000 in
set_option maxHeartbeats 8000000 in
theorem makeType_c (r d : Value) (whole x kn : JV) (ws cs : List Value) (w : World) (ok : Nat → Prop) (hw : Rep w ok whole ws) (hr : Rep w ok x cs) (hbk : x.bulk ≤ 1099511627776) : Calls Tryz.prog 40 #[r, .agg ws.toArray, .agg cs.toArray, d] w (LeafPost x ⟨#[116, 121, 112, 101]⟩ kn w ok) := by
  obtain ⟨wn, wc, wi, wd, rfl⟩ := hw.form
  have HR := Lib.hid hr
  obtain ⟨k, i, s, ns, is⟩ := x
  rw [rep_mk] at hr
  obtain ⟨_, _, _, an, cn, ai, ci, rfl, _, _, _, hit⟩ := hr
  have hlen := len_bulk hbk
  have HV0 := Lib.hid (show leafOk ⟨#[116, 121, 112, 101]⟩ (.mk k i s ns is) = typesOk (typeL (.mk k i s ns is)) by unfold leafOk; rw [if_pos rfl])
  have HIT := Lib.hid hit
  clear hw hit hbk
  by_cases h5 : k = 5
  case neg =>
    have HTL := Lib.hid (show typeL (.mk k i s ns is) = [JV.mk k i s ns is] from if_neg h5)
    have HV := Lib.hid (HV0.out.trans (by rw [HTL.out]))
    have e5 : (k == 5) = false := by simp [h5]
    clear h5 HV0
    go_enter Tryz.func40, Tryz.ntmps40
    go_wp2_with (go_at_call 30; refine (need_t _).mono ?_; rintro e w' ⟨rfl, rfl⟩)
    have hX := heap_alloc_new ((w.alloc (.cells #[.int .i64 whole.kind, .int .i64 whole.int, .string whole.text, .slice wn whole.names.length wc, .slice wi whole.items.length wd] 25)).alloc (.cells #[.int .i64 k, .int .i64 i, .string s, .slice an ns.length cn, .slice ai is.length ci] 25)) (.cells #[.int .i64 k, .int .i64 i, .string s, .slice an ns.length cn, .slice ai is.length ci] 25)
    simp only [World.size_alloc] at hX
    have HX := Lib.hid hX
    have HB := Lib.hid (show Below w.heap.size w (((w.alloc (.cells #[.int .i64 whole.kind, .int .i64 whole.int, .string whole.text, .slice wn whole.names.length wc, .slice wi whole.items.length wd] 25)).alloc (.cells #[.int .i64 k, .int .i64 i, .string s, .slice an ns.length cn, .slice ai is.length ci] 25)).alloc (.cells #[.int .i64 k, .int .i64 i, .string s, .slice an ns.length cn, .slice ai is.length ci] 25)) from (by repeat (first | with_reducible exact Below.refl _ _ | with_reducible refine below_drewN ?_ _ | with_reducible refine Below.drew ?_ | with_reducible refine below_set5 ?_ (by first | (simp; done) | (simp; omega)) | with_reducible refine Below.alloc ?_ (by first | (simp; done) | (simp; omega)) _ | with_reducible refine Below.setCell ?_ (by first | (simp; done) | (simp; omega)) _)))
    have hW1s : (((w.alloc (.cells #[.int .i64 whole.kind, .int .i64 whole.int, .string whole.text, .slice wn whole.names.length wc, .slice wi whole.items.length wd] 25)).alloc (.cells #[.int .i64 k, .int .i64 i, .string s, .slice an ns.length cn, .slice ai is.length ci] 25)).alloc (.cells #[.int .i64 k, .int .i64 i, .string s, .slice an ns.length cn, .slice ai is.length ci] 25)).heap.size = w.heap.size + 1 + 1 + 1 := by simp
    have hG0 := GathAt.start (((w.alloc (.cells #[.int .i64 whole.kind, .int .i64 whole.int, .string whole.text, .slice wn whole.names.length wc, .slice wi whole.items.length wd] 25)).alloc (.cells #[.int .i64 k, .int .i64 i, .string s, .slice an ns.length cn, .slice ai is.length ci] 25)).alloc (.cells #[.int .i64 k, .int .i64 i, .string s, .slice an ns.length cn, .slice ai is.length ci] 25))
    rw [show (((w.alloc (.cells #[.int .i64 whole.kind, .int .i64 whole.int, .string whole.text, .slice wn whole.names.length wc, .slice wi whole.items.length wd] 25)).alloc (.cells #[.int .i64 k, .int .i64 i, .string s, .slice an ns.length cn, .slice ai is.length ci] 25)).alloc (.cells #[.int .i64 k, .int .i64 i, .string s, .slice an ns.length cn, .slice ai is.length ci] 25)).heap.size = w.heap.size + 1 + 1 + 1 from hW1s] at hG0
    clear hX
    generalize hW1 : (((w.alloc (.cells #[.int .i64 whole.kind, .int .i64 whole.int, .string whole.text, .slice wn whole.names.length wc, .slice wi whole.items.length wd] 25)).alloc (.cells #[.int .i64 k, .int .i64 i, .string s, .slice an ns.length cn, .slice ai is.length ci] 25)).alloc (.cells #[.int .i64 k, .int .i64 i, .string s, .slice an ns.length cn, .slice ai is.length ci] 25)) = W1 at *
    clear hW1
    have HG0 := Lib.hid hG0
    have HW1S := Lib.hid hW1s
    clear hW1s hG0
    have HITL := Lib.hid (show ItemsAt W1 (fun b => ok b ∨ w.heap.size ≤ b) (some ⟨w.heap.size + 1 + 1, 0, none⟩) [JV.mk k i s ns is] from .inr ⟨_, 0, rfl, .inr (by omega), by
      rw [RepAll]
      refine ⟨⟨_, Rep.kept (fun b hlt ho => ⟨.inl ho, HB.out.block b hlt⟩) _ _ HR.out, fun j v hj => ?_⟩, by rw [RepAll]; trivial⟩
      rw [Nat.zero_add, cell_of_row _ _ _ _ _ _ HX.out]
      rw [← hj]
      simp⟩)
    clear HX
    go_loopw [27] (fun q wr => ∃ (j : Nat) (v : Value), j ≤ 1 ∧ q = .int .i64 j ∧ Hid (∀ y ∈ ([JV.mk k i s ns is]).take j, kindsJ y ≠ []) ∧ Hid (GathAt wr (w.heap.size + 1 + 1 + 1) (w.heap.size + 1 + 1 + 1) ((([JV.mk k i s ns is]).take j).flatMap kindsJ) v) ∧ Hid (Below W1.heap.size W1 wr)) (fun q _ => 1 - (intOf q).toNat)
    case atStart => exact ⟨0, .slice none 0 0, Nat.zero_le _, rfl, Lib.hid (by simp), Lib.hid HG0.out, Lib.hid ((Below.refl _ _).alloc (Nat.le_refl _) _)⟩
    case round =>
      obtain ⟨j, v, hj, rfl, HA, HG, HBL⟩ := hrel
      have hsz := HBL.out.size
      by_cases hlt : j < ([JV.mk k i s ns is]).length
      · obtain ⟨b2, off2, an2, cn2, ai2, ci2, hal, hrj, hlj⟩ := (HITL.out.below HBL.out).at j hlt
        obtain ⟨rfl, rfl⟩ : b2 = w.heap.size + 1 + 1 ∧ 0 = off2 := ⟨by injection hal with h; injection h with h; exact h.symm, by injection hal with h; injection h⟩
        simp only [Nat.zero_add] at hlj
        obtain ⟨l0, l1, l2, l3, l4⟩ := lie5 hlj
        have hb0 := cell_lt l0
        simp only at hb0
        have hltN : j < 1 := hlt
        have HTF := Lib.hid (take_flat ([JV.mk k i s ns is]) j hlt)
        have HLE := Lib.hid (Nat.le_trans (flat_len (([JV.mk k i s ns is]).take j)) (Nat.mul_le_mul_left 2 (Nat.le_trans (List.length_take_le _ _) hj)))
        have hkl := kinds_len ([JV.mk k i s ns is])[j]
        have hgc := cell_of_row _ _ 0 _ _ _ HG.out.cell
        have hgf := frozen_of_row _ _ 0 _ _ HG.out.cell
        have hgl := (Array.getElem?_eq_some_iff.1 HG.out.cell).1
        simp only [List.getElem?_toArray, List.getElem?_cons_zero] at hgc
        have HBA := Lib.hid (show Below wr.heap.size wr (wr.alloc (.cells #[.int .i64 ([JV.mk k i s ns is])[j].kind, .int .i64 ([JV.mk k i s ns is])[j].int, .string ([JV.mk k i s ns is])[j].text, .slice an2 ([JV.mk k i s ns is])[j].names.length cn2, .slice ai2 ([JV.mk k i s ns is])[j].items.length ci2] 25)) from (Below.refl _ _).alloc (Nat.le_refl _) _)
        by_cases hk : kindsJ ([JV.mk k i s ns is])[j] = []
        · have HL := Lib.hid (show leafOk ⟨#[116, 121, 112, 101]⟩ (.mk k i s ns is) = false by
            rw [HV.out]
            unfold typesOk
            rw [Bool.and_eq_false_iff]
            exact .inr (List.all_eq_false.2 ⟨([JV.mk k i s ns is])[j], List.getElem_mem hlt, by intro h; rw [hk] at h; cases h⟩))
          have HK := Lib.hid (fun (W : World) (hb : Below wr.heap.size wr W) => kinds_c ([JV.mk k i s ns is])[j] _ W _ (hrj.below hb))
          clear hkl hrj hlj hal
          generalize ([JV.mk k i s ns is])[j] = y at *
          have HKN := Lib.hid hk
          clear hk
          go_wp2_with fail
          refine (HK.out _ (by repeat (first | with_reducible exact Below.refl _ _ | with_reducible refine below_drewN ?_ _ | with_reducible refine Below.drew ?_ | with_reducible refine below_set5 ?_ (by first | (simp; done) | (simp; omega)) | with_reducible refine Below.alloc ?_ (by first | (simp; done) | (simp; omega)) _ | with_reducible refine Below.setCell ?_ (by first | (simp; done) | (simp; omega)) _))).mono ?_; rintro e w2 ⟨ka, kc, rfl, _, _, _, hb2⟩
          have HB2 := Lib.hid hb2
          have hkn : (kindsJ y).length = 0 := by rw [HKN.out]; rfl
          rw [hkn]
          clear hb2 hkn
          go_wp2_with fail
          refine (need_f _).mono ?_; rintro e w' ⟨rfl, rfl⟩
          unfold refV
          go_wp2
          exact ⟨rfl, HB.out.trans (((HBL.out.trans ((Below.mono ((by repeat (first | with_reducible exact Below.refl _ _ | with_reducible refine below_drewN ?_ _ | with_reducible refine Below.drew ?_ | with_reducible refine below_set5 ?_ (by first | (simp; done) | (simp; omega)) | with_reducible refine Below.alloc ?_ (by first | (simp; done) | (simp; omega)) _ | with_reducible refine Below.setCell ?_ (by first | (simp; done) | (simp; omega)) _)) : Below wr.heap.size wr _) hsz))).trans (HB2.out.mono (by simp only [World.size_alloc]; omega))).mono HB.out.size), .inr ⟨HL.out, rfl⟩⟩
        · have HA2 := Lib.hid (show ∀ y ∈ ([JV.mk k i s ns is]).take (j + 1), kindsJ y ≠ [] by
            intro y hy
            rw [List.take_succ_eq_append_getElem hlt, List.mem_append] at hy
            rcases hy with hy | hy
            · exact HA.out y hy
            · rw [List.mem_singleton.1 hy]; exact hk)
          have HK := Lib.hid (fun (W : World) (hb : Below wr.heap.size wr W) => kinds_c ([JV.mk k i s ns is])[j] _ W _ (hrj.below hb))
          have HKP := Lib.hid (show 0 < (kindsJ ([JV.mk k i s ns is])[j]).length from List.length_pos_iff.2 hk)
          clear hrj hlj hk hal
          generalize ([JV.mk k i s ns is])[j] = y at *
          generalize (([JV.mk k i s ns is]).take j).flatMap kindsJ = G at *
          have HND := Lib.hid (fun (W : World) => (show Calls Tryz.prog 30 #[.bool (decide (0 < (kindsJ y).length))] W (fun r w' => r = .returned (.tuple #[]) ∧ W = w') from by rw [decide_eq_true HKP.out]; exact need_t W))
          go_wp2_with fail
          refine (HK.out _ (by repeat (first | with_reducible exact Below.refl _ _ | with_reducible refine below_drewN ?_ _ | with_reducible refine Below.drew ?_ | with_reducible refine below_set5 ?_ (by first | (simp; done) | (simp; omega)) | with_reducible refine Below.alloc ?_ (by first | (simp; done) | (simp; omega)) _ | with_reducible refine Below.setCell ?_ (by first | (simp; done) | (simp; omega)) _))).mono ?_; rintro e w2 ⟨ka, kc, rfl, hkc1, hkc2, hki, hb2⟩
          have HB2 := Lib.hid hb2
          obtain ⟨p, rfl, hnews⟩ := hki.news HKP.out
          have HNW := Lib.hid hnews
          have HG2 := Lib.hid ((HG.out.below HBA.out).below hb2)
          have hgc2 := cell_of_row _ _ 0 _ _ _ HG2.out.cell
          have hgf2 := frozen_of_row _ _ 0 _ _ HG2.out.cell
          simp only [List.getElem?_toArray, List.getElem?_cons_zero] at hgc2
          clear hb2 hki hnews hgc hgf l0 l1 l2 l3 l4
          go_wp2_with fail
          refine (HND.out _).mono ?_; rintro e w' ⟨rfl, rfl⟩
          go_wp2_with (at_builtin; refine wpList_app intTy rfl _ _ rfl v G.length (G.map (Value.int .i64)) rfl HG2.out.row p (kindsJ y).length kc ((kindsJ y).map (Value.int .i64)) rfl (by simp) HNW.out (one_ints _) (by have := HLE.out; unfold maxLen; omega) (by have := HLE.out; omega) ?_; intro v' w3 hrow hu; obtain ⟨ga, gc, rfl, -⟩ := hrow.form; have hgc3 := hu.cell hgc2 HG2.out.ne; have HP := Lib.hid (HG2.out.put (by have := HB2.out.size; have h9 := HW1S.out; simp only [World.size_alloc] at this; omega) hrow hu); have hg3 := hu.grown.size; obtain ⟨hgf3⟩ : w3.frozen? ⟨(w.heap.size + 1 + 1 + 1), 0, none⟩ = false ∧ True := ⟨by rw [hu.frozen (by have := HB2.out.size; have h9 := HW1S.out; simp only [World.size_alloc] at this; simp only; omega) HG2.out.ne]; exact hgf2, trivial⟩; clear hrow hu)
          go_roundw
          case rel => exact ⟨j + 1, _, by omega, by go_num, HA2, Lib.hid (by rw [HTF.out]; exact HP.out.1), Lib.hid (((HBL.out.trans ((Below.mono ((by repeat (first | with_reducible exact Below.refl _ _ | with_reducible refine below_drewN ?_ _ | with_reducible refine Below.drew ?_ | with_reducible refine below_set5 ?_ (by first | (simp; done) | (simp; omega)) | with_reducible refine Below.alloc ?_ (by first | (simp; done) | (simp; omega)) _ | with_reducible refine Below.setCell ?_ (by first | (simp; done) | (simp; omega)) _)) : Below wr.heap.size wr _) hsz))).trans (HB2.out.mono (by simp only [World.size_alloc]; omega))).trans (Below.mono HP.out.2 (Nat.le_of_eq HW1S.out)))⟩
          case measure => simp [intOf]; omega
      · obtain rfl : j = 1 := by first | omega | (simp only [List.length_singleton] at hlt; omega)
        have HL := Lib.hid (show leafOk ⟨#[116, 121, 112, 101]⟩ (.mk k i s ns is) = true by
          rw [HV.out]
          unfold typesOk
          rw [Bool.and_eq_true]
          refine ⟨rfl, List.all_eq_true.2 fun y hy => ?_⟩
          have h := HA.out y (by rw [show 1 = ([JV.mk k i s ns is]).length from rfl, List.take_length]; exact hy)
          simp [h])
        go_wp2
        go_ret
        have hbl := HB.out.trans (HBL.out.mono HB.out.size)
        refine ⟨hbl, .inl ⟨HL.out, _, rfl, ?_⟩⟩
        unfold LeafAt
        rw [if_pos rfl]
        have hg := HG.out
        rw [show 1 = ([JV.mk k i s ns is]).length from rfl, List.take_length] at hg
        obtain ⟨a, c, h1, h2⟩ := hg.done (ok := fun b => ok b ∨ w.heap.size ≤ b) (fun b hb => .inr (by omega))
        rw [HTL.out]
        exact ⟨_, a, c, rfl, h1, h2⟩
  subst h5
  have HTL := Lib.hid (show typeL (.mk 5 i s ns is) = is from rfl)
  have HV := Lib.hid (show leafOk ⟨#[116, 121, 112, 101]⟩ (.mk 5 i s ns is) = typesOk is from HV0.out)
  by_cases h0 : 0 < is.length
  case neg =>
    have HL := Lib.hid (show leafOk ⟨#[116, 121, 112, 101]⟩ (.mk 5 i s ns is) = false by rw [HV.out]; cases is with | nil => rfl | cons a b => exact absurd (by simp) h0)
    have HN := Lib.hid (fun (W : World) => (show Calls Tryz.prog 30 #[.bool (decide (0 < is.length))] W (fun r w' => r = refV 210 ∧ W = w') from by rw [decide_eq_false h0]; exact need_f W))
    clear h0 HV0
    go_enter Tryz.func40, Tryz.ntmps40
    go_wp2_with fail
    refine (HN.out _).mono ?_; rintro e w' ⟨rfl, rfl⟩
    unfold refV
    go_wp2
    exact ⟨rfl, (by repeat (first | with_reducible exact Below.refl _ _ | with_reducible refine below_drewN ?_ _ | with_reducible refine Below.drew ?_ | with_reducible refine below_set5 ?_ (by first | (simp; done) | (simp; omega)) | with_reducible refine Below.alloc ?_ (by first | (simp; done) | (simp; omega)) _ | with_reducible refine Below.setCell ?_ (by first | (simp; done) | (simp; omega)) _)), .inr ⟨HL.out, rfl⟩⟩
  have HPOS := Lib.hid h0
  have HN := Lib.hid (fun (W : World) => (show Calls Tryz.prog 30 #[.bool (decide (0 < is.length))] W (fun r w' => r = .returned (.tuple #[]) ∧ W = w') from by rw [decide_eq_true h0]; exact need_t W))
  clear h0 HV0
  go_enter Tryz.func40, Tryz.ntmps40
  go_wp2_with (go_at_call 30; refine (HN.out _).mono ?_; rintro e w' ⟨rfl, rfl⟩)
  have hX := heap_alloc_new ((w.alloc (.cells #[.int .i64 whole.kind, .int .i64 whole.int, .string whole.text, .slice wn whole.names.length wc, .slice wi whole.items.length wd] 25)).alloc (.cells #[.int .i64 5, .int .i64 i, .string s, .slice an ns.length cn, .slice ai is.length ci] 25)) (.cells #[.int .i64 5, .int .i64 i, .string s, .slice an ns.length cn, .slice ai is.length ci] 25)
  simp only [World.size_alloc] at hX
  have HX := Lib.hid hX
  have HB := Lib.hid (show Below w.heap.size w (((w.alloc (.cells #[.int .i64 whole.kind, .int .i64 whole.int, .string whole.text, .slice wn whole.names.length wc, .slice wi whole.items.length wd] 25)).alloc (.cells #[.int .i64 5, .int .i64 i, .string s, .slice an ns.length cn, .slice ai is.length ci] 25)).alloc (.cells #[.int .i64 5, .int .i64 i, .string s, .slice an ns.length cn, .slice ai is.length ci] 25)) from (by repeat (first | with_reducible exact Below.refl _ _ | with_reducible refine below_drewN ?_ _ | with_reducible refine Below.drew ?_ | with_reducible refine below_set5 ?_ (by first | (simp; done) | (simp; omega)) | with_reducible refine Below.alloc ?_ (by first | (simp; done) | (simp; omega)) _ | with_reducible refine Below.setCell ?_ (by first | (simp; done) | (simp; omega)) _)))
  have hW1s : (((w.alloc (.cells #[.int .i64 whole.kind, .int .i64 whole.int, .string whole.text, .slice wn whole.names.length wc, .slice wi whole.items.length wd] 25)).alloc (.cells #[.int .i64 5, .int .i64 i, .string s, .slice an ns.length cn, .slice ai is.length ci] 25)).alloc (.cells #[.int .i64 5, .int .i64 i, .string s, .slice an ns.length cn, .slice ai is.length ci] 25)).heap.size = w.heap.size + 1 + 1 + 1 := by simp
  have hG0 := GathAt.start (((w.alloc (.cells #[.int .i64 whole.kind, .int .i64 whole.int, .string whole.text, .slice wn whole.names.length wc, .slice wi whole.items.length wd] 25)).alloc (.cells #[.int .i64 5, .int .i64 i, .string s, .slice an ns.length cn, .slice ai is.length ci] 25)).alloc (.cells #[.int .i64 5, .int .i64 i, .string s, .slice an ns.length cn, .slice ai is.length ci] 25))
  rw [show (((w.alloc (.cells #[.int .i64 whole.kind, .int .i64 whole.int, .string whole.text, .slice wn whole.names.length wc, .slice wi whole.items.length wd] 25)).alloc (.cells #[.int .i64 5, .int .i64 i, .string s, .slice an ns.length cn, .slice ai is.length ci] 25)).alloc (.cells #[.int .i64 5, .int .i64 i, .string s, .slice an ns.length cn, .slice ai is.length ci] 25)).heap.size = w.heap.size + 1 + 1 + 1 from hW1s] at hG0
  clear hX
  generalize hW1 : (((w.alloc (.cells #[.int .i64 whole.kind, .int .i64 whole.int, .string whole.text, .slice wn whole.names.length wc, .slice wi whole.items.length wd] 25)).alloc (.cells #[.int .i64 5, .int .i64 i, .string s, .slice an ns.length cn, .slice ai is.length ci] 25)).alloc (.cells #[.int .i64 5, .int .i64 i, .string s, .slice an ns.length cn, .slice ai is.length ci] 25)) = W1 at *
  clear hW1
  have HG0 := Lib.hid hG0
  have HW1S := Lib.hid hW1s
  clear hW1s hG0
  have HITL := Lib.hid (show ItemsAt W1 (fun b => ok b ∨ w.heap.size ≤ b) ai is from HIT.out.kept (fun b hlt ho => ⟨.inl ho, HB.out.block b hlt⟩))
  clear HX
  go_loopw [27] (fun q wr => ∃ (j : Nat) (v : Value), j ≤ is.length ∧ q = .int .i64 j ∧ Hid (∀ y ∈ (is).take j, kindsJ y ≠ []) ∧ Hid (GathAt wr (w.heap.size + 1 + 1 + 1) (w.heap.size + 1 + 1 + 1) (((is).take j).flatMap kindsJ) v) ∧ Hid (Below W1.heap.size W1 wr)) (fun q _ => is.length - (intOf q).toNat)
  case atStart => exact ⟨0, .slice none 0 0, Nat.zero_le _, rfl, Lib.hid (by simp), Lib.hid HG0.out, Lib.hid ((Below.refl _ _).alloc (Nat.le_refl _) _)⟩
  case round =>
    obtain ⟨j, v, hj, rfl, HA, HG, HBL⟩ := hrel
    have hsz := HBL.out.size
    by_cases hlt : j < (is).length
    · obtain ⟨b2, off2, an2, cn2, ai2, ci2, hal, hrj, hlj⟩ := (HITL.out.below HBL.out).at j hlt
      subst hal
      obtain ⟨l0, l1, l2, l3, l4⟩ := lie5 hlj
      have hb0 := cell_lt l0
      simp only at hb0
      have hltN : j < is.length := hlt
      have HTF := Lib.hid (take_flat (is) j hlt)
      have HLE := Lib.hid (Nat.le_trans (flat_len ((is).take j)) (Nat.mul_le_mul_left 2 (Nat.le_trans (List.length_take_le _ _) hj)))
      have hkl := kinds_len (is)[j]
      have hgc := cell_of_row _ _ 0 _ _ _ HG.out.cell
      have hgf := frozen_of_row _ _ 0 _ _ HG.out.cell
      have hgl := (Array.getElem?_eq_some_iff.1 HG.out.cell).1
      simp only [List.getElem?_toArray, List.getElem?_cons_zero] at hgc
      have HBA := Lib.hid (show Below wr.heap.size wr (wr.alloc (.cells #[.int .i64 (is)[j].kind, .int .i64 (is)[j].int, .string (is)[j].text, .slice an2 (is)[j].names.length cn2, .slice ai2 (is)[j].items.length ci2] 25)) from (Below.refl _ _).alloc (Nat.le_refl _) _)
      by_cases hk : kindsJ (is)[j] = []
      · have HL := Lib.hid (show leafOk ⟨#[116, 121, 112, 101]⟩ (.mk 5 i s ns is) = false by
          rw [HV.out]
          unfold typesOk
          rw [Bool.and_eq_false_iff]
          exact .inr (List.all_eq_false.2 ⟨(is)[j], List.getElem_mem hlt, by intro h; rw [hk] at h; cases h⟩))
        have HK := Lib.hid (fun (W : World) (hb : Below wr.heap.size wr W) => kinds_c (is)[j] _ W _ (hrj.below hb))
        clear hkl hrj hlj
        generalize (is)[j] = y at *
        have HKN := Lib.hid hk
        clear hk
        go_wp2_with fail
        refine (HK.out _ (by repeat (first | with_reducible exact Below.refl _ _ | with_reducible refine below_drewN ?_ _ | with_reducible refine Below.drew ?_ | with_reducible refine below_set5 ?_ (by first | (simp; done) | (simp; omega)) | with_reducible refine Below.alloc ?_ (by first | (simp; done) | (simp; omega)) _ | with_reducible refine Below.setCell ?_ (by first | (simp; done) | (simp; omega)) _))).mono ?_; rintro e w2 ⟨ka, kc, rfl, _, _, _, hb2⟩
        have HB2 := Lib.hid hb2
        have hkn : (kindsJ y).length = 0 := by rw [HKN.out]; rfl
        rw [hkn]
        clear hb2 hkn
        go_wp2_with fail
        refine (need_f _).mono ?_; rintro e w' ⟨rfl, rfl⟩
        unfold refV
        go_wp2
        exact ⟨rfl, HB.out.trans (((HBL.out.trans ((Below.mono ((by repeat (first | with_reducible exact Below.refl _ _ | with_reducible refine below_drewN ?_ _ | with_reducible refine Below.drew ?_ | with_reducible refine below_set5 ?_ (by first | (simp; done) | (simp; omega)) | with_reducible refine Below.alloc ?_ (by first | (simp; done) | (simp; omega)) _ | with_reducible refine Below.setCell ?_ (by first | (simp; done) | (simp; omega)) _)) : Below wr.heap.size wr _) hsz))).trans (HB2.out.mono (by simp only [World.size_alloc]; omega))).mono HB.out.size), .inr ⟨HL.out, rfl⟩⟩
      · have HA2 := Lib.hid (show ∀ y ∈ (is).take (j + 1), kindsJ y ≠ [] by
          intro y hy
          rw [List.take_succ_eq_append_getElem hlt, List.mem_append] at hy
          rcases hy with hy | hy
          · exact HA.out y hy
          · rw [List.mem_singleton.1 hy]; exact hk)
        have HK := Lib.hid (fun (W : World) (hb : Below wr.heap.size wr W) => kinds_c (is)[j] _ W _ (hrj.below hb))
        have HKP := Lib.hid (show 0 < (kindsJ (is)[j]).length from List.length_pos_iff.2 hk)
        clear hrj hlj hk
        generalize (is)[j] = y at *
        generalize ((is).take j).flatMap kindsJ = G at *
        have HND := Lib.hid (fun (W : World) => (show Calls Tryz.prog 30 #[.bool (decide (0 < (kindsJ y).length))] W (fun r w' => r = .returned (.tuple #[]) ∧ W = w') from by rw [decide_eq_true HKP.out]; exact need_t W))
        go_wp2_with fail
        refine (HK.out _ (by repeat (first | with_reducible exact Below.refl _ _ | with_reducible refine below_drewN ?_ _ | with_reducible refine Below.drew ?_ | with_reducible refine below_set5 ?_ (by first | (simp; done) | (simp; omega)) | with_reducible refine Below.alloc ?_ (by first | (simp; done) | (simp; omega)) _ | with_reducible refine Below.setCell ?_ (by first | (simp; done) | (simp; omega)) _))).mono ?_; rintro e w2 ⟨ka, kc, rfl, hkc1, hkc2, hki, hb2⟩
        have HB2 := Lib.hid hb2
        obtain ⟨p, rfl, hnews⟩ := hki.news HKP.out
        have HNW := Lib.hid hnews
        have HG2 := Lib.hid ((HG.out.below HBA.out).below hb2)
        have hgc2 := cell_of_row _ _ 0 _ _ _ HG2.out.cell
        have hgf2 := frozen_of_row _ _ 0 _ _ HG2.out.cell
        simp only [List.getElem?_toArray, List.getElem?_cons_zero] at hgc2
        clear hb2 hki hnews hgc hgf l0 l1 l2 l3 l4
        go_wp2_with fail
        refine (HND.out _).mono ?_; rintro e w' ⟨rfl, rfl⟩
        go_wp2_with (at_builtin; refine wpList_app intTy rfl _ _ rfl v G.length (G.map (Value.int .i64)) rfl HG2.out.row p (kindsJ y).length kc ((kindsJ y).map (Value.int .i64)) rfl (by simp) HNW.out (one_ints _) (by have := HLE.out; unfold maxLen; omega) (by have := HLE.out; omega) ?_; intro v' w3 hrow hu; obtain ⟨ga, gc, rfl, -⟩ := hrow.form; have hgc3 := hu.cell hgc2 HG2.out.ne; have HP := Lib.hid (HG2.out.put (by have := HB2.out.size; have h9 := HW1S.out; simp only [World.size_alloc] at this; omega) hrow hu); have hg3 := hu.grown.size; obtain ⟨hgf3⟩ : w3.frozen? ⟨(w.heap.size + 1 + 1 + 1), 0, none⟩ = false ∧ True := ⟨by rw [hu.frozen (by have := HB2.out.size; have h9 := HW1S.out; simp only [World.size_alloc] at this; simp only; omega) HG2.out.ne]; exact hgf2, trivial⟩; clear hrow hu)
        go_roundw
        case rel => exact ⟨j + 1, _, by omega, by go_num, HA2, Lib.hid (by rw [HTF.out]; exact HP.out.1), Lib.hid (((HBL.out.trans ((Below.mono ((by repeat (first | with_reducible exact Below.refl _ _ | with_reducible refine below_drewN ?_ _ | with_reducible refine Below.drew ?_ | with_reducible refine below_set5 ?_ (by first | (simp; done) | (simp; omega)) | with_reducible refine Below.alloc ?_ (by first | (simp; done) | (simp; omega)) _ | with_reducible refine Below.setCell ?_ (by first | (simp; done) | (simp; omega)) _)) : Below wr.heap.size wr _) hsz))).trans (HB2.out.mono (by simp only [World.size_alloc]; omega))).trans (Below.mono HP.out.2 (Nat.le_of_eq HW1S.out)))⟩
        case measure => simp [intOf]; omega
    · obtain rfl : j = is.length := by first | omega | (simp only [List.length_singleton] at hlt; omega)
      have HL := Lib.hid (show leafOk ⟨#[116, 121, 112, 101]⟩ (.mk 5 i s ns is) = true by
        rw [HV.out]
        unfold typesOk
        rw [Bool.and_eq_true]
        refine ⟨by cases is with | nil => exact absurd HPOS.out (by simp) | cons a b => rfl, List.all_eq_true.2 fun y hy => ?_⟩
        have h := HA.out y (by rw [show is.length = (is).length from rfl, List.take_length]; exact hy)
        simp [h])
      go_wp2
      go_ret
      have hbl := HB.out.trans (HBL.out.mono HB.out.size)
      refine ⟨hbl, .inl ⟨HL.out, _, rfl, ?_⟩⟩
      unfold LeafAt
      rw [if_pos rfl]
      have hg := HG.out
      rw [show is.length = (is).length from rfl, List.take_length] at hg
      obtain ⟨a, c, h1, h2⟩ := hg.done (ok := fun b => ok b ∨ w.heap.size ≤ b) (fun b hb => .inr (by omega))
      rw [HTL.out]
      exact ⟨_, a, c, rfl, h1, h2⟩
end Go.Proofs.YtnmojmmgkipjcaaGreatDoor
