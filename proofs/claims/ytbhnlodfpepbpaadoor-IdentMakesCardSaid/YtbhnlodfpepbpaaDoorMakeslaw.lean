/- The walk of IdentMakes. Conditions: the tables hold their numbers. -/
import Derived.Test.YtbhnlodfpepbpaaDoorSumslaw
import Derived.Test.YtbhnlodfpepbpaaDoorMeets
import Derived.WalkSpells
import Derived.WalkLawsBesides
import Derived.Handy
import Derived.BigQuiet
import Derived.Lib.QuietBelow
namespace Go.Proofs.YtbhnlodfpepbpaaDoor
open Go.RowKit
attribute [local go_sem] bv_add bv_mul bv_sub bv_subc bv_xor bv_xor_byte bv_wrap_byte bv_ofInt u_beq u_bne c_1 add_sub_one unmix_mix mix_unmix bv_mul16
/-- Both makers in memory, behind whatever rounds. -/
structure MkSt (w wr : World) (bm br : Nat) (S C : BitVec 64) : Prop where
  m0 : wr.cell? ⟨bm, 0, none⟩ = some (.int .u64 (u S))
  m1 : wr.cell? ⟨bm, 1, none⟩ = some (.int .u64 (u C))
  mf : wr.frozen? ⟨bm, 1, none⟩ = false
  r0 : wr.cell? ⟨br, 0, none⟩ = some (.int .u64 (u S))
  r1 : wr.cell? ⟨br, 1, none⟩ = some (.int .u64 (u C))
  rf : wr.frozen? ⟨br, 1, none⟩ = false
  hb : Below w.heap.size w wr
theorem mk_next {w wr w1 : World} {bm br n : Nat} {S C D : BitVec 64} (h : MkSt w wr bm br S C) (hne : bm ≠ br) (h1 : w.heap.size ≤ bm) (h2 : w.heap.size ≤ br)
    (hb : Below wr.heap.size (wr.setCell ⟨bm, 1, none⟩ (.int .u64 (u D))) w1) : MkSt w ((w1.setCell ⟨br, 1, none⟩ (.int .u64 (u D))).drewN n) bm br S D ∧ w1.cell? ⟨br, 0, none⟩ = some (.int .u64 (u S)) ∧ w1.cell? ⟨br, 1, none⟩ = some (.int .u64 (u C)) ∧ w1.frozen? ⟨br, 1, none⟩ = false := by
  have lm := cell_lt h.m0
  have lr := cell_lt h.r0
  have c : ∀ b o, b < wr.heap.size → w1.cell? ⟨b, o, none⟩ = (wr.setCell ⟨bm, 1, none⟩ (.int .u64 (u D))).cell? ⟨b, o, none⟩ := fun b o hlt => hb.cell (p := ⟨b, o, none⟩) hlt
  have f : ∀ b o, b < wr.heap.size → w1.frozen? ⟨b, o, none⟩ = wr.frozen? ⟨b, o, none⟩ := fun b o hlt => by rw [hb.frozen (p := ⟨b, o, none⟩) hlt, setF]
  have m0 : w1.cell? ⟨bm, 0, none⟩ = some (.int .u64 (u S)) := by rw [c bm 0 lm, setO (by simp)]; exact h.m0
  have m1 : w1.cell? ⟨bm, 1, none⟩ = some (.int .u64 (u D)) := by rw [c bm 1 lm]; exact setS h.m1
  have r0 : w1.cell? ⟨br, 0, none⟩ = some (.int .u64 (u S)) := by rw [c br 0 lr, setO (by simp)]; exact h.r0
  have r1 : w1.cell? ⟨br, 1, none⟩ = some (.int .u64 (u C)) := by rw [c br 1 lr, setO (by simp)]; exact h.r1
  have rf : w1.frozen? ⟨br, 1, none⟩ = false := by rw [f br 1 lr]; exact h.rf
  refine ⟨⟨?_, ?_, ?_, ?_, ?_, ?_, ?_⟩, r0, r1, rf⟩
  · show (w1.setCell ⟨br, 1, none⟩ (.int .u64 (u D))).cell? _ = _
    rw [setO (by simp)]; exact m0
  · show (w1.setCell ⟨br, 1, none⟩ (.int .u64 (u D))).cell? _ = _
    rw [setO (by simp)]; exact m1
  · show (w1.setCell ⟨br, 1, none⟩ (.int .u64 (u D))).frozen? _ = _
    rw [setF, f bm 1 lm]; exact h.mf
  · show (w1.setCell ⟨br, 1, none⟩ (.int .u64 (u D))).cell? _ = _
    rw [setO (by simp)]; exact r0
  · exact setS r1
  · show (w1.setCell ⟨br, 1, none⟩ (.int .u64 (u D))).frozen? _ = _
    rw [setF]; exact rf
  · exact below_drewN (((h.hb.setCell h1 _).trans (hb.mono h.hb.size)).setCell h2 _) _
theorem redrawn_tabs {w : World} (t : Tabs w) (d : Nat) (os : Array Obj) : Tabs (Sort.grow (redrawn w d) os) :=
  tabs_below t (below_regrown w d os)
/-- A contract that ends in Below, met in a world of the class. -/
theorem regB {P : Program} {f : FuncId} {args : Array Value} {w : World} {d : Nat} {os : Array Obj} {v : Value}
    (h : Calls P f args (Sort.grow (redrawn w d) os) fun e w' => e = .returned v ∧ Below (Sort.grow (redrawn w d) os).heap.size (Sort.grow (redrawn w d) os) w') :
    Calls P f args (Sort.grow (redrawn w d) os) fun e w'' => e = .returned v ∧ ∃ p : Regrown, w'' = Sort.grow (redrawn w p.d) p.os := Calls.regrown_of h
theorem regS {P : Program} {f : FuncId} {args : Array Value} {w : World} {d : Nat} {os : Array Obj} {v : Value}
    (h : Calls P f args (Sort.grow (redrawn w d) os) fun e w' => e = .returned v ∧ w' = Sort.grow (redrawn w d) os) :
    Calls P f args (Sort.grow (redrawn w d) os) fun e w'' => e = .returned v ∧ ∃ p : Regrown, w'' = Sort.grow (redrawn w p.d) p.os :=
  regB (h.mono fun _ _ ⟨he, hw⟩ => ⟨he, by rw [hw]; exact Below.refl _ _⟩)
set_option maxHeartbeats 4000000 in
theorem makes_walk (T : ByteArray) (n : Int) (S C : BitVec 64) (w : World) (t : Tabs w) (hT : T.size ≤ maxLen) :
    Calls Tryd.prog 6 #[.agg #[.int .u64 (u S), .int .u64 (u C), .int .i64 n, .string T]] w fun e w' => e = .returned (.bool true) ∧ Below w.heap.size w w' := by
  go_enter Tryd.func6, Tryd.ntmps6
  go_wp2_with fail
  go_quiet (fail)
  go_wp2_with fail
  refine (newMaker_c _ _ _).mono ?_; rintro e w1 ⟨rfl, rfl⟩
  go_wp2_with fail
  have hst : Hid (MkSt w ((((w.alloc (.cells #[.int .u64 (u S), .int .u64 (u C), .int .i64 n, .string T] 44)).alloc (.cells #[.int .u64 (u S), .int .u64 (u C)] 65)).alloc (.cells #[.int .u64 (u S), .int .u64 (u C)] 47)).drewN nq) (w.heap.size + 1) (w.heap.size + 1 + 1) S C) := by
    refine ⟨by simp [go_sem], by simp [go_sem], by simp [go_sem], by simp [go_sem], by simp [go_sem], by simp [go_sem], ?_⟩
    exact below_drewN ((((Below.refl _ _).alloc (Nat.le_refl _) _).alloc (by simp) _).alloc (by simp; omega) _) _
  go_loopw [9] (fun i wr => ∃ k : Nat, k ≤ 100 ∧ i = .int .i64 k ∧ ∃ D, MkSt w wr (w.heap.size + 1) (w.heap.size + 1 + 1) S D)
    (fun i _ => 100 - (intOf i).toNat)
  case atStart => exact ⟨0, by omega, rfl, C, hst.out⟩
  case round =>
    obtain ⟨k, hk, rfl, D, hm⟩ := hrel
    clear hst
    by_cases hlt : (k : Int) < n ∧ k < 100
    · obtain ⟨hlt1, hlt2⟩ := hlt
      have hd1 : decide ((k : Int) < n) = true := by simpa using hlt1
      have hd2 : decide ((k : Int) < 100) = true := by simp; omega
      have hbm := cell_lt hm.m0
      by_cases hD : D = last
      · have m1 := hm.m1
        have r1 := hm.r1
        rw [hD] at m1 r1
        go_wp2_with fail
        refine (nextLast_c _ _ m1).mono ?_; rintro e w1 ⟨rfl, rfl⟩
        go_wp2_with fail
        refine (refNextLast_c _ _ r1).mono ?_; rintro e w1 ⟨rfl, rfl⟩
        clear m1 r1
        have r1 := hm.r1
        go_wp2_with fail
        go_quiet ((first | (go_at_call 17; exact quietS (num_c _ _)) | (go_at_call 29; exact quietS (counter_c D _ _ hm.m1))))
        go_wp2
        go_roundw
        case rel => exact ⟨k + 1, by omega, by go_num, D, ⟨hm.m0, hm.m1, hm.mf, hm.r0, hm.r1, hm.rf, below_drewN hm.hb _⟩⟩
        case measure => simp [intOf]; omega
      · go_wp2_with fail
        refine (next_c S D _ _ (tabs_below t hm.hb) hD hm.m0 hm.m1 hm.mf).mono ?_; rintro e w1 ⟨rfl, hb1⟩
        go_wp2_with fail
        obtain ⟨_, r0, r1, rf⟩ := mk_next (n := 0) hm (by omega) (by omega) (by omega) hb1
        refine (refNext_c S D _ _ hD r0 r1 rf).mono ?_; rintro e w2 ⟨rfl, n2, rfl⟩
        obtain ⟨hm2, _, _, _⟩ := mk_next (n := n2) hm (by omega) (by omega) (by omega) hb1
        clear hb1 hm r0 r1 rf
        generalize (w1.setCell ⟨w.heap.size + 1 + 1, 1, none⟩ (.int .u64 (u (D + 1#64)))).drewN n2 = W at hm2 ⊢
        have r1 := hm2.r1
        go_wp2_with fail
        go_quiet ((first | (go_at_call 17; exact quietS (num_c _ _)) | (go_at_call 29; exact quietS (counter_c (D + 1#64) _ _ hm2.m1))))
        go_wp2
        go_roundw
        case rel => exact ⟨k + 1, by omega, by go_num, D + 1#64, ⟨hm2.m0, hm2.m1, hm2.mf, hm2.r0, hm2.r1, hm2.rf, below_drewN hm2.hb _⟩⟩
        case measure => simp [intOf]; omega
    · have fin : Hid ((decide ((k : Int) < n) = false) ∨ (decide ((k : Int) < n) = true ∧ decide ((k : Int) < 100) = false)) := by
        by_cases h1 : (k : Int) < n
        · exact .inr ⟨by simpa using h1, by simp; omega⟩
        · exact .inl (by simpa using h1)
      clear hlt
      have T0 := tabs_below t hm.hb
      rcases fin.out with hd1 | ⟨hd1, hd2⟩
      all_goals
        clear fin
        go_wp2_with fail
        refine (made_c T S _ T0 hT).mono ?_; rintro e w1 ⟨rfl, n1, rfl⟩
        go_wp2_with fail
        refine (refMade_c T S _ hT).mono ?_; rintro e w1 ⟨rfl, n2, rfl⟩
        generalize madeB T.data.toList S = mm at *
        obtain ⟨mx, mok⟩ := mm
        go_wp2_with fail
        have M1 := cell_below (below_drewN' wr (n1 + n2)) hm.m1
        have R1 := cell_below (below_drewN' wr (n1 + n2)) hm.r1
        have TW := tabs_drewN T0 (n1 + n2)
        have hB := below_drewN hm.hb (n1 + n2)
        clear hm T0
        generalize wr.drewN (n1 + n2) = W at *
        have k1 := cell_regrown R1
        refine wp_region_quiet_below (by kernel_rfl) (by kernel_rfl) ?_
        repeat (go_big_quiet_step ((first | (go_at_call 29; exact regS (counter_c D _ _ (cell_regrown M1 _ _))) | (go_at_call 14; exact regB (live_c _ (redrawn_tabs TW _ _))))))
        refine wpQuiet_nil ?_
        intro _ hw'
        obtain ⟨⟨dq, osq⟩, hw''⟩ := hw'
        subst hw''
        go_wp2
        go_ret
        exact ⟨rfl, below_trans hB (below_regrown W dq osq)⟩
end Go.Proofs.YtbhnlodfpepbpaaDoor
