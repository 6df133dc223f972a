/- The walk of shallow: a value's own lists are written full, then grown. Conditions: they are rows of their own. -/
import Derived.Test.YtbkbokfegjodnaaDoorTurn
namespace Go.Proofs.YtbkbokfegjodnaaDoor
open Go.RowKit
set_option maxRecDepth 20000 in
set_option maxHeartbeats 4000000 in
theorem shallow_c (w : World) (k n : Int) (s : ByteArray) (an : Option Addr) (nn cn : Nat) (ai : Option Addr) (mm ci : Nat) (xs ys : List Value) (hrn : Row w 9 1 (.slice an nn cn) nn xs) (hri : Row w 28 5 (.slice ai mm ci) mm ys)
    (hn : nn ≤ 1099511627776) (hm : mm ≤ 1099511627776) :
    Calls Tryd.prog 36 #[.agg #[.int .i64 k, .int .i64 n, .string s, .slice an nn cn, .slice ai mm ci]] w fun e w' => e = .returned (.tuple #[]) ∧ Turn (fun g => g ∈ ownA an ∨ g ∈ ownA ai) w w' := by
  have hb0 : Below w.heap.size w (w.alloc (.cells #[.int .i64 k, .int .i64 n, .string s, .slice an nn cn, .slice ai mm ci] 28)) := (Below.refl _ _).alloc (Nat.le_refl _) _
  obtain ⟨⟨z0, z1, z2, z3, z4⟩, f0, f1, f2, f3, f4⟩ := cellsOf5 (heap_alloc_new w (.cells #[.int .i64 k, .int .i64 n, .string s, .slice an nn cn, .slice ai mm ci] 28))
  have h0 : ShAt w (fun g => g ∈ ownA an ∨ g ∈ ownA ai) w.heap.size nn mm (.slice an nn cn) (.slice ai mm ci) (w.alloc (.cells #[.int .i64 k, .int .i64 n, .string s, .slice an nn cn, .slice ai mm ci] 28)) :=
    ⟨Turn.of_below hb0, Nat.le_refl _, z3, z4, f3, f4, ⟨xs, hrn.below hb0⟩, ⟨ys, hri.below hb0⟩, fun g hg => ⟨.inl (.inl (ownA_mem hg)), by have := hrn.lt hg; omega⟩, fun g hg => ⟨.inl (.inr (ownA_mem hg)), by have := hri.lt hg; omega⟩⟩
  have H0 := Lib.hid h0
  clear h0 hb0 hrn hri z0 z1 z2 z3 z4 f0 f1 f2 f3 f4
  go_enter Tryd.func36, Tryd.ntmps36
  go_wp2_with fail
  go_loopw [2] (fun i wr => ∃ j : Nat, j ≤ mm ∧ i = .int .i64 j ∧ Hid (ShAt w (fun g => g ∈ ownA an ∨ g ∈ ownA ai) w.heap.size nn mm (.slice an nn cn) (.slice ai mm ci) wr)) (fun i _ => mm - (intOf i).toNat)
  case atStart => exact ⟨0, by omega, rfl, H0⟩
  case round =>
    clear H0
    obtain ⟨j, hj, rfl, H⟩ := hrel
    have c4 := H.out.c4
    by_cases hlt : j < mm
    · obtain ⟨ys', hy'⟩ := H.out.irow
      obtain ⟨a0, p0, hf, hcap, hcm, hf3⟩ := hy'.form
      injection hf with e1 _ e2
      subst e1; subst e2
      rcases hf3 with ⟨_, h0, _⟩ | ⟨g, hg0, _, hgl, _⟩
      · omega
      subst hg0
      obtain ⟨u0, q0⟩ := hy'.cellAt (j * 5) (by omega)
      obtain ⟨u1, q1⟩ := hy'.cellAt (j * 5 + 1) (by omega)
      obtain ⟨u2, q2⟩ := hy'.cellAt (j * 5 + 2) (by omega)
      obtain ⟨u3, q3⟩ := hy'.cellAt (j * 5 + 3) (by omega)
      obtain ⟨u4, q4⟩ := hy'.cellAt (j * 5 + 4) (by omega)
      have fr := World.ownsRow.frozenAt hy'
      unfold maxLen at hcm
      clear hy'
      go_wp2
      refine ⟨⟨j + 1, by omega, by simp, Lib.hid (((((H.out.iset _ _).iset _ _).iset _ _).iset _ _).iset _ _)⟩, ?_⟩
      simp only [intOf]; omega
    · go_wp2
      clear c4
      have H0 := H
      clear H
      go_loopw [3] (fun i wr => ∃ j : Nat, j ≤ nn ∧ i = .int .i64 j ∧ Hid (ShAt w (fun g => g ∈ ownA an ∨ g ∈ ownA ai) w.heap.size nn mm (.slice an nn cn) (.slice ai mm ci) wr)) (fun i _ => nn - (intOf i).toNat)
      case atStart => exact ⟨0, by omega, rfl, H0⟩
      case round =>
        clear H0
        obtain ⟨j2, hj2, rfl, H⟩ := hrel
        have c3 := H.out.c3
        by_cases hlt2 : j2 < nn
        · obtain ⟨ys', hy'⟩ := H.out.nrow
          obtain ⟨a0, p0, hf, hcap, hcm, hf3⟩ := hy'.form
          injection hf with e1 _ e2
          subst e1; subst e2
          rcases hf3 with ⟨_, h0, _⟩ | ⟨g, hg0, _, hgl, _⟩
          · omega
          subst hg0
          obtain ⟨u0, q0⟩ := hy'.cellAt j2 (by omega)
          have fr := World.ownsRow.frozenAt hy'
          unfold maxLen at hcm
          clear hy'
          go_wp2
          refine ⟨⟨j2 + 1, by omega, by simp, Lib.hid (H.out.nset _ _)⟩, ?_⟩
          simp only [intOf]; omega
        · go_wp2
          clear c3
          have H0 := H
          clear H
          go_loopw [4] (fun i wr => ∃ j : Nat, j ≤ 16 ∧ i = .int .i64 j ∧ ∃ nv iv, Hid (ShAt w (fun g => g ∈ ownA an ∨ g ∈ ownA ai) w.heap.size (nn + j) (mm + j) nv iv wr)) (fun i _ => 16 - (intOf i).toNat)
          case atStart => exact ⟨0, by omega, rfl, _, _, H0⟩
          case round =>
            clear H0
            obtain ⟨j3, hj3, rfl, nv, iv, H⟩ := hrel
            have c3 := H.out.c3
            have c4 := H.out.c4
            by_cases hlt3 : j3 < 16
            · obtain ⟨ys', hy'⟩ := H.out.irow
              go_wp2_with (first
                | (at_builtin; refine wpList_app valTy rfl _ _ rfl iv (mm + j3) ys' rfl (hy'.below ((Below.refl _ _).alloc (Nat.le_refl _) _)) ⟨wr.heap.size, 0, none⟩ 1 1 [.int .i64 9, .int .i64 0, .string ⟨#[]⟩, .slice none 0 0, .slice none 0 0] rfl rfl (World.news_of_block (heap_alloc_new wr _)) (by simp [Value.oneCell']) (by unfold maxLen; omega) (by omega) ?_
                   intro iv' w1 hr1 hu1
                   obtain ⟨ga, gc, hv1, _⟩ := hr1.form
                   subst hv1
                   obtain ⟨k4, g4⟩ := H.out.iup ((Below.refl _ _).alloc (Nat.le_refl _) _) hu1
                   have H2 := Lib.hid (H.out.iapp ((Below.refl _ _).alloc (Nat.le_refl _) _) hu1 hr1)
                   have c3' := H2.out.c3
                   obtain ⟨zs', hz'⟩ := H2.out.nrow
                   have hal := heap_alloc_new (w1.setCell ⟨w.heap.size, 4, none⟩ (.slice ga (mm + j3 + 1) gc)) (.cells #[.string ⟨#[63, 63]⟩] 9)
                   rw [show (w1.setCell ⟨w.heap.size, 4, none⟩ (.slice ga (mm + j3 + 1) gc)).heap.size = w1.heap.size by simp] at hal
                   clear hu1 hr1 H c3 c4)
                | (at_builtin; refine wpList_app strTy rfl _ _ rfl nv (nn + j3) zs' rfl (hz'.below ((Below.refl _ _).alloc (Nat.le_refl _) _)) ⟨w1.heap.size, 0, none⟩ 1 1 [.string ⟨#[63, 63]⟩] rfl rfl (World.news_of_block hal) (by simp [Value.oneCell']) (by unfold maxLen; omega) (by omega) ?_
                   intro nv' w2 hr2 hu2
                   obtain ⟨gb, gd, hv2, _⟩ := hr2.form
                   subst hv2
                   obtain ⟨k3, g3⟩ := H2.out.nup ((Below.refl _ _).alloc (Nat.le_refl _) _) hu2
                   have H3 := Lib.hid (H2.out.napp ((Below.refl _ _).alloc (Nat.le_refl _) _) hu2 hr2)
                   clear hu2 hr2 H2))
              refine ⟨⟨j3 + 1, by omega, by simp, _, _, Lib.hid H3.out⟩, ?_⟩
              simp only [intOf]; omega
            · go_wp2
              exact bodyPost_end (results_none rfl _ _ _) rfl ⟨rfl, H.out.turn⟩
end Go.Proofs.YtbkbokfegjodnaaDoor
