/- The walk of the document's Compare. Conditions: what a tree holds is at most 2 to the 40. -/
import Derived.Test.YtjmhoccikbgigaaDoorReflists
namespace Go.Proofs.YtjmhoccikbgigaaDoor
open Go.RowKit
theorem rank_same {k k' : Int} (h : sgn (rankK k) (rankK k') = 0) : (k = 5 → k' = 5) ∧ (k = 6 → k' = 6) := by
  have he : rankK k = rankK k' := by
    unfold sgn at h
    split at h
    · omega
    · split at h <;> omega
  constructor
  · rintro rfl
    unfold rankK at he
    simp only [show ¬ (5 : Int) = 0 by decide, show ¬ (5 : Int) = 3 by decide, show ¬ (5 : Int) = 4 by decide, show ¬ (5 : Int) = 6 by decide, if_true, if_false] at he
    repeat' split at he
    all_goals omega
  · rintro rfl
    unfold rankK at he
    simp only [show ¬ (6 : Int) = 0 by decide, show ¬ (6 : Int) = 3 by decide, show ¬ (6 : Int) = 4 by decide, if_true, if_false] at he
    repeat' split at he
    all_goals omega
set_option maxHeartbeats 4000000 in
theorem refcmp_step (m : Nat) (ih : RefSaid m) : RefSaid (m + 1) := by
  intro t u hm hbt hbu cs ds w ok ok' hr hu
  cases t with
  | mk k n s ns is =>
  cases u with
  | mk k' n' s' ns' is' =>
  have hsz : ∀ t ∈ is, t.size ≤ m := fun t ht => by have h1 := JV.size_le ht; rw [JV.size] at hm; omega
  have HO := Lib.hid (show ord (.mk k n s ns is) (.mk k' n' s' ns' is') = _ by rw [ord])
  have hr0 := hr
  have hu0 := hu
  have hfun := fun (W : World) (hW : Below w.heap.size w W) (e5 : k = 5) (e5' : k' = 5) => refLists5_c m ih n s ns is n' s' ns' is' hsz (by rw [← e5]; exact hbt) (by rw [← e5']; exact hbu) cs ds W ok ok' (by rw [← e5]; exact hr0.below hW) (by rw [← e5']; exact hu0.below hW)
  have hmem := fun (W : World) (hW : Below w.heap.size w W) (e6 : k = 6) (e6' : k' = 6) => refLists6_c m ih n s ns is n' s' ns' is' hsz (by rw [← e6]; exact hbt) (by rw [← e6']; exact hbu) cs ds W ok ok' (by rw [← e6]; exact hr0.below hW) (by rw [← e6']; exact hu0.below hW)
  have HSS := Lib.hid (show s.size ≤ maxLen ∧ s'.size ≤ maxLen by rw [JV.bulk] at hbt hbu; unfold maxLen; omega)
  clear hr0 hu0
  rw [rep_mk] at hr hu
  obtain ⟨_, _, _, an, cn, ai, ci, rfl, hcn, hci, hst, hit⟩ := hr
  obtain ⟨_, _, _, an', cn', ai', ci', rfl, hcn', hci', hst', hit'⟩ := hu
  unfold maxLen at hcn hci hcn' hci'
  have IH := Lib.hid ih
  clear ih
  have hcil := hci
  have hcil' := hci'
  have HFUN := Lib.hid hfun
  have HMEM := Lib.hid hmem
  clear hfun hmem hsz hst hst' hit hit' hcn hcn' hci hci' hcil hcil'
  obtain ⟨a0, a1, a2, a3, a4⟩ := cells5 w (.int .i64 k) (.int .i64 n) (.string s) (.slice an ns.length cn) (.slice ai is.length ci) 28
  have hb0 : Below w.heap.size w (w.alloc (.cells #[.int .i64 k, .int .i64 n, .string s, .slice an ns.length cn, .slice ai is.length ci] 28)) := (Below.refl _ _).alloc (Nat.le_refl _) _
  obtain ⟨b0, b1, b2, b3, b4⟩ := cells5 (w.alloc (.cells #[.int .i64 k, .int .i64 n, .string s, .slice an ns.length cn, .slice ai is.length ci] 28)) (.int .i64 k') (.int .i64 n') (.string s') (.slice an' ns'.length cn') (.slice ai' is'.length ci') 28
  have hb1 : Below ((w.alloc (.cells #[.int .i64 k, .int .i64 n, .string s, .slice an ns.length cn, .slice ai is.length ci] 28))).heap.size (w.alloc (.cells #[.int .i64 k, .int .i64 n, .string s, .slice an ns.length cn, .slice ai is.length ci] 28)) ((w.alloc (.cells #[.int .i64 k, .int .i64 n, .string s, .slice an ns.length cn, .slice ai is.length ci] 28)).alloc (.cells #[.int .i64 k', .int .i64 n', .string s', .slice an' ns'.length cn', .slice ai' is'.length ci'] 28)) := (Below.refl _ _).alloc (Nat.le_refl _) _
  have hB := below_trans hb0 hb1
  have A0 := cell_below hb1 a0
  have A1 := cell_below hb1 a1
  have A2 := cell_below hb1 a2
  have A3 := cell_below hb1 a3
  have A4 := cell_below hb1 a4
  clear a0 a1 a2 a3 a4
  simp only [World.size_alloc] at b0 b1 b2 b3 b4
  go_enter Tryd.func16, Tryd.ntmps16
  go_wp2_with fail
  have R0 := cell_regrown A0
  have R1 := cell_regrown A1
  have R2 := cell_regrown A2
  have R3 := cell_regrown A3
  have R4 := cell_regrown A4
  have S0 := cell_regrown b0
  have S1 := cell_regrown b1
  have S2 := cell_regrown b2
  have S3 := cell_regrown b3
  have S4 := cell_regrown b4
  have hrk := fun (d : Nat) (os : Array Obj) => regB (refRank_c k n s (.slice an ns.length cn) (.slice ai is.length ci) (Sort.grow (redrawn (((w.alloc (.cells #[.int .i64 k, .int .i64 n, .string s, .slice an ns.length cn, .slice ai is.length ci] 28)).alloc (.cells #[.int .i64 k', .int .i64 n', .string s', .slice an' ns'.length cn', .slice ai' is'.length ci'] 28))) d) os))
  have hrk' := fun (d : Nat) (os : Array Obj) => regB (refRank_c k' n' s' (.slice an' ns'.length cn') (.slice ai' is'.length ci') (Sort.grow (redrawn (((w.alloc (.cells #[.int .i64 k, .int .i64 n, .string s, .slice an ns.length cn, .slice ai is.length ci] 28)).alloc (.cells #[.int .i64 k', .int .i64 n', .string s', .slice an' ns'.length cn', .slice ai' is'.length ci'] 28))) d) os))
  generalize hrkk : rankK k = rk at *
  generalize hrkk' : rankK k' = rk' at *
  have hci := fun (d : Nat) (os : Array Obj) => regS (refInts_c rk rk' (Sort.grow (redrawn (((w.alloc (.cells #[.int .i64 k, .int .i64 n, .string s, .slice an ns.length cn, .slice ai is.length ci] 28)).alloc (.cells #[.int .i64 k', .int .i64 n', .string s', .slice an' ns'.length cn', .slice ai' is'.length ci'] 28))) d) os))
  have HGB := Lib.hid (fun (d : Nat) (os : Array Obj) => below_trans hB (below_regrown (((w.alloc (.cells #[.int .i64 k, .int .i64 n, .string s, .slice an ns.length cn, .slice ai is.length ci] 28)).alloc (.cells #[.int .i64 k', .int .i64 n', .string s', .slice an' ns'.length cn', .slice ai' is'.length ci'] 28))) d os))
  clear A0 A1 A2 A3 A4 b0 b1 b2 b3 b4 hb0 hb1 hB
  generalize hsg : sgn rk rk' = sg at *
  have HSG := Lib.hid hsg
  have HRK := Lib.hid (And.intro hrkk hrkk')
  clear hsg hrkk hrkk'
  generalize ((w.alloc (.cells #[.int .i64 k, .int .i64 n, .string s, .slice an ns.length cn, .slice ai is.length ci] 28)).alloc (.cells #[.int .i64 k', .int .i64 n', .string s', .slice an' ns'.length cn', .slice ai' is'.length ci'] 28)) = W at *
  refine wp_region_quiet_below (by kernel_rfl) (by kernel_rfl) ?_
  repeat (go_big_quiet_step (first | (go_at_call 18; first | with_reducible exact hrk _ _ | with_reducible exact hrk' _ _) | (go_at_call 40; exact hci _ _)))
  refine wpQuiet_nil ?_
  intro _ hw'
  obtain ⟨⟨dq, osq⟩, hw''⟩ := hw'
  subst hw''
  have r0 := R0 dq osq
  have r1 := R1 dq osq
  have r2 := R2 dq osq
  have r3 := R3 dq osq
  have r4 := R4 dq osq
  have s0 := S0 dq osq
  have s1 := S1 dq osq
  have s2 := S2 dq osq
  have s3 := S3 dq osq
  have s4 := S4 dq osq
  have hgb := HGB.out dq osq
  clear R0 R1 R2 R3 R4 S0 S1 S2 S3 S4 hrk hrk' hci HGB
  generalize Sort.grow (redrawn W dq) osq = W2 at *
  have HKK : sg = 0 → (k = 5 → k' = 5) ∧ (k = 6 → k' = 6) := fun h0 => rank_same (by rw [HRK.out.1, HRK.out.2, HSG.out]; exact h0)
  have HO2 := Lib.hid HO.out
  clear HO HSG HRK
  by_cases hs0 : sg = 0
  case neg =>
    clear HKK
    have hsb : (sg != 0) = true := by simp [hs0]
    have HF := Lib.hid (HO2.out.trans (if_pos hs0))
    clear hs0 HO2
    go_wp2
    go_ret
    exact ⟨by rw [HF.out]; rfl, hgb⟩
  case pos =>
    have HK := Lib.hid (HKK hs0)
    clear HKK
    have hsb : (sg != 0) = false := by simp [hs0]
    have HF := Lib.hid (HO2.out.trans (if_neg (by simp [hs0])))
    clear hs0 HO2
    rcases (show k = 3 ∨ k = 4 ∨ k = 5 ∨ k = 6 ∨ (k ≠ 3 ∧ k ≠ 4 ∧ k ≠ 5 ∧ k ≠ 6) by omega) with rfl | rfl | rfl | rfl | ⟨h3, h4, h5, h6⟩
    · have HV := Lib.hid (HF.out.trans (if_pos rfl))
      clear HF
      go_wp2_with fail
      refine (refInts_c _ _ _).mono ?_; rintro e w1 ⟨rfl, rfl⟩
      go_wp2
      go_ret
      exact ⟨by rw [HV.out]; rfl, hgb⟩
    · have HV := Lib.hid (HF.out.trans ((if_neg (by decide)).trans (if_pos rfl)))
      clear HF
      go_wp2_with fail
      refine (refTexts_c _ _ HSS.out.1 HSS.out.2 _).mono ?_; rintro e w1 ⟨rfl, dd, rfl⟩
      go_wp2
      go_ret
      exact ⟨by rw [HV.out]; rfl, below_drewN hgb _⟩
    · have HV := Lib.hid (HF.out.trans ((if_neg (by decide)).trans ((if_neg (by decide)).trans (if_pos rfl))))
      clear HF
      go_wp2_with fail
      refine (HFUN.out W2 hgb trivial (HK.out.1 trivial)).mono ?_; rintro e w1 ⟨rfl, hb1⟩
      go_wp2
      go_ret
      exact ⟨by rw [HV.out]; rfl, below_trans hgb hb1⟩
    · have HV := Lib.hid (HF.out.trans ((if_neg (by decide)).trans ((if_neg (by decide)).trans ((if_neg (by decide)).trans (if_pos rfl)))))
      clear HF
      go_wp2_with fail
      refine (HMEM.out W2 hgb trivial (HK.out.2 trivial)).mono ?_; rintro e w1 ⟨rfl, hb1⟩
      go_wp2
      go_ret
      exact ⟨by rw [HV.out]; rfl, below_trans hgb hb1⟩
    · have HV := Lib.hid (HF.out.trans ((if_neg h3).trans ((if_neg h4).trans ((if_neg h5).trans (if_neg h6)))))
      have b3 : (k == 3) = false := by simp [h3]
      have b4 : (k == 4) = false := by simp [h4]
      have b5 : (k == 5) = false := by simp [h5]
      have b6 : (k == 6) = false := by simp [h6]
      clear HF h3 h4 h5 h6
      go_wp2
      go_ret
      exact ⟨by rw [HV.out]; rfl, hgb⟩
theorem refcmp_all (m : Nat) : RefSaid m := by
  induction m with
  | zero => intro t _ hm; have := JV.size_pos t; omega
  | succ m ih => exact refcmp_step m ih
theorem refcmp_c (t u : JV) (hbt : t.bulk ≤ 1099511627776) (hbu : u.bulk ≤ 1099511627776) (cs ds : List Value) (w : World) (ok ok' : Nat → Prop) (hr : Rep w ok t cs) (hu : Rep w ok' u ds) :
    Calls Tryd.prog 16 #[.agg cs.toArray, .agg ds.toArray] w fun e w' => e = .returned (.int .i64 (ord t u)) ∧ Below w.heap.size w w' :=
  refcmp_all t.size t u (Nat.le_refl _) hbt hbu cs ds w ok ok' hr hu
end Go.Proofs.YtjmhoccikbgigaaDoor
