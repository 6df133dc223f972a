/- The walks of slices.Clone of values, of Named and Listed. Conditions: what is cloned has less than 2 to the 40 values. -/
import Derived.Test.YtbkbokfegjodnaaDoorFcopyp
import Derived.Test.YtbkbokfegjodnaaDoorMemory
import Derived.WalkSpells
namespace Go.Proofs.YtbkbokfegjodnaaDoor
open Go.RowKit
/-- slices.Clone of values: a row of its own -/
theorem vclone_c (w : World) (a : Option Addr) (n c : Nat) (xs : List Value) (hrow : Row w 28 5 (.slice a n c) n xs) (h1 : ∀ u ∈ xs, u.oneCell' = true) (hn : n ≤ 1099511627776) :
    Calls Tryd.prog 56 #[.slice a n c] w fun e w' => ∃ a' c', e = .returned (.slice a' n c') ∧ Row w' 28 5 (.slice a' n c') n xs ∧ (∀ b ∈ ownA a', w.heap.size ≤ b) ∧ Below w.heap.size w w' := by
  have hnil := fun W : World => Lib.run_eql_slice_nil W 26 28 a n c 0 0 Tryd.underlying26
  obtain ⟨h0, hh⟩ := id hrow
  rcases hh with ⟨he, hz⟩ | ⟨g, cap, cur, he, _, hg, hnc, hcm, hcs, htk⟩
  · injection he with e1 e2 e3
    subst e1; subst e2; subst e3
    have hx : xs = [] := List.eq_nil_of_length_eq_zero (by rw [h0])
    subst hx
    go_enter Tryd.func56, Tryd.ntmps56
    go_wp2
    go_ret
    exact ⟨none, 0, rfl, row_nil _ _ _, fun b hb => by simp [ownA] at hb, Below.refl _ _⟩
  · injection he with e1 e2 e3
    subst e1; subst e3
    have hr0 : Row (w.alloc (.cells #[] 28)) 28 5 (.slice (some ⟨w.heap.size, 0, none⟩) 0 0) 0 [] := World.ownsRow_made w #[] 0 (Nat.zero_le _) (Nat.zero_le _) (by simp)
    have hb0 : Below w.heap.size w (w.alloc (.cells #[] 28)) := (Below.refl _ _).alloc (Nat.le_refl _) _
    have hnw : ∀ j u, xs[j]? = some u → (w.alloc (.cells #[] 28)).cell? ((⟨g, 0, none⟩ : Addr).add j) = some u := fun j u hj => cell_below hb0 (World.ownsRow.cells hrow (g := g) rfl j u hj)
    have HNW := Lib.hid hnw
    have HB0 := Lib.hid hb0
    have HL := Lib.hid h0
    have H1 := Lib.hid h1
    clear hrow hg htk hnw hb0 h0 h1
    go_enter Tryd.func56, Tryd.ntmps56
    go_wp2_with (at_builtin; refine wpList_app valTy rfl _ _ rfl _ 0 [] rfl hr0 ⟨g, 0, none⟩ n c xs rfl HL.out HNW.out H1.out (by unfold maxLen; omega) (by omega) ?_; intro v' w' h2 h3; have HV := Lib.hid (And.intro h2 h3); clear h2 h3 hr0)
    go_ret
    obtain ⟨h2, h3⟩ := HV.out
    rw [Nat.zero_add, List.nil_append] at h2
    obtain ⟨a', c', rfl, _⟩ := h2.form
    refine ⟨a', c', rfl, h2, fun b hb => ?_, HB0.out.trans (h3.below HB0.out.size (fun q hq => ?_))⟩
    · rcases h3.own with e | ⟨q, e, hq⟩
      · rw [ownA_elim hb] at e
        have := Option.some.inj e
        exact Nat.le_of_eq this.symm
      · rw [ownA_elim hb] at e
        have := Option.some.inj e
        have h9 := HB0.out.size
        omega
    · have e : w.heap.size = q := Option.some.inj hq
      exact Nat.le_of_eq e
set_option maxRecDepth 20000 in
/-- Named: the names and the items in rows of their own -/
theorem named_c (w : World) (ok : Nat → Prop) (an : Option Addr) (ns : List ByteArray) (cn : Nat) (hst : StrsAt w ok an ns) (hnil : an = none → ns.length = 0) (hbn : ns.length * 16 ≤ 140737488355328)
    (ai : Option Addr) (n ci : Nat) (xs : List Value) (hrow : Row w 28 5 (.slice ai n ci) n xs) (h1 : ∀ u ∈ xs, u.oneCell' = true) (hn : n ≤ 1099511627776) :
    Calls Tryd.prog 34 #[.slice an ns.length cn, .slice ai n ci] w fun e w' => ∃ a' c' b' d', e = .returned (.agg #[.int .i64 6, .int .i64 0, .string ⟨#[]⟩, .slice a' ns.length c', .slice b' n d']) ∧
      Row w' 9 1 (.slice a' ns.length c') ns.length (ns.map Value.string) ∧ Row w' 28 5 (.slice b' n d') n xs ∧ (∀ b ∈ ownA a', w.heap.size ≤ b) ∧ (∀ b ∈ ownA b', w.heap.size ≤ b) ∧ (∀ b ∈ ownA a', b ∉ ownA b') ∧ Below w.heap.size w w' := by
  have hb0 : Below w.heap.size w (w.alloc (.cells #[.int .i64 0, .int .i64 0, .string ⟨#[]⟩, .slice none 0 0, .slice none 0 0] 28)) := (Below.refl _ _).alloc (Nat.le_refl _) _
  have hx := heap_alloc_new w (.cells #[.int .i64 0, .int .i64 0, .string ⟨#[]⟩, .slice none 0 0, .slice none 0 0] 28)
  have hc1 := clone_c _ ok an ns cn (hst.below hb0) hnil hbn
  have HB0 := Lib.hid hb0
  have HX := Lib.hid hx
  have HR := Lib.hid (hrow.below hb0)
  clear hst hrow hb0 hx
  go_enter Tryd.func34, Tryd.ntmps34
  go_wp2_with fail
  refine hc1.mono ?_; rintro e w1 ⟨a', c', rfl, hr1, hf1, hb1⟩
  have hc2 := vclone_c w1 ai n ci xs (HR.out.below hb1) h1 hn
  have HX1 := Lib.hid ((hb1.block w.heap.size (by simp)).trans HX.out)
  have HB1 := Lib.hid (below_trans HB0.out hb1)
  have HR1 := Lib.hid (And.intro hr1 hf1)
  clear hc1 hr1 hf1 hb1 HX HB0 HR
  go_wp2_with fail
  refine hc2.mono ?_; rintro e w2 ⟨b', d', rfl, hr2, hf2, hb2⟩
  have hw1 : w.heap.size < w1.heap.size := (Array.getElem?_eq_some_iff.1 HX1.out).1
  have hx2 := (hb2.block w.heap.size hw1).trans HX1.out
  obtain ⟨⟨z0, z1, z2, z3, z4⟩, f0, f1, f2, f3, f4⟩ := cellsOf5 hx2
  have HX2 := Lib.hid hx2
  have HR2 := Lib.hid (And.intro hr2 (And.intro hf2 (And.intro (HR1.out.1.below hb2) (And.intro HR1.out.2 (HB1.out.trans (hb2.mono HB1.out.size))))))
  clear hc2 hr2 hf2 hb2 hx2
  go_wp2
  refine bodyPost_ret (results_cell_row rfl _ _ w.heap.size 28 _ (0, 0) _ (by rfl) (set5 HX2.out) Tryd.underlying28 rfl (by kernel_rfl)) rfl ?_
  obtain ⟨r2, f2', r1, f1', hb⟩ := HR2.out
  have hlt1 := HR1.out.1.own_lt
  have g1 : ∀ b ∈ ownA a', w.heap.size < b := fun b hm => by have := f1' b hm; simp only [World.size_alloc] at this; omega
  have g2 : ∀ b ∈ ownA b', w.heap.size < b := fun b hm => by have := f2' b hm; omega
  refine ⟨a', c', b', d', rfl, r1.same (fun g hg => other_set5 (by have := g1 g (ownA_mem hg); omega)), r2.same (fun g hg => other_set5 (by have := g2 g (ownA_mem hg); omega)), fun b hm => Nat.le_of_lt (g1 b hm), fun b hm => Nat.le_of_lt (g2 b hm), fun b hm hm2 => ?_, below_set5 hb (Nat.le_refl _)⟩
  have := hlt1 b hm
  have := f2' b hm2
  omega
set_option maxRecDepth 20000 in
/-- Listed: the items in a row of their own -/
theorem listed_c (w : World) (ai : Option Addr) (n ci : Nat) (xs : List Value) (hrow : Row w 28 5 (.slice ai n ci) n xs) (h1 : ∀ u ∈ xs, u.oneCell' = true) (hn : n ≤ 1099511627776) :
    Calls Tryd.prog 35 #[.slice ai n ci] w fun e w' => ∃ b' d', e = .returned (.agg #[.int .i64 5, .int .i64 0, .string ⟨#[]⟩, .slice none 0 0, .slice b' n d']) ∧
      Row w' 28 5 (.slice b' n d') n xs ∧ (∀ b ∈ ownA b', w.heap.size ≤ b) ∧ Below w.heap.size w w' := by
  have hb0 : Below w.heap.size w (w.alloc (.cells #[.int .i64 0, .int .i64 0, .string ⟨#[]⟩, .slice none 0 0, .slice none 0 0] 28)) := (Below.refl _ _).alloc (Nat.le_refl _) _
  have hx := heap_alloc_new w (.cells #[.int .i64 0, .int .i64 0, .string ⟨#[]⟩, .slice none 0 0, .slice none 0 0] 28)
  have hc2 := vclone_c _ ai n ci xs (hrow.below hb0) h1 hn
  have HB0 := Lib.hid hb0
  have HX := Lib.hid hx
  clear hrow hb0 hx
  go_enter Tryd.func35, Tryd.ntmps35
  go_wp2_with fail
  refine hc2.mono ?_; rintro e w2 ⟨b', d', rfl, hr2, hf2, hb2⟩
  have hx2 := (hb2.block w.heap.size (by simp)).trans HX.out
  obtain ⟨⟨z0, z1, z2, z3, z4⟩, f0, f1, f2, f3, f4⟩ := cellsOf5 hx2
  have HX2 := Lib.hid hx2
  have HR2 := Lib.hid (And.intro hr2 (And.intro hf2 (HB0.out.trans (hb2.mono HB0.out.size))))
  clear hc2 hr2 hf2 hb2 hx2
  go_wp2
  refine bodyPost_ret (results_cell_row rfl _ _ w.heap.size 28 _ (0, 0) _ (by rfl) (set5 HX2.out) Tryd.underlying28 rfl (by kernel_rfl)) rfl ?_
  obtain ⟨r2, f2', hb⟩ := HR2.out
  have g2 : ∀ b ∈ ownA b', w.heap.size < b := fun b hm => by have := f2' b hm; simp only [World.size_alloc] at this; omega
  exact ⟨b', d', rfl, r2.same (fun g hg => other_set5 (by have := g2 g (ownA_mem hg); omega)), fun b hm => Nat.le_of_lt (g2 b hm), below_set5 hb (Nat.le_refl _)⟩
end Go.Proofs.YtbkbokfegjodnaaDoor
