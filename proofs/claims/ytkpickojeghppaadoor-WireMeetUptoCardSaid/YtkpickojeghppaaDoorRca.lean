/- The walks of Ask and Reply (the document's client). Conditions: what goes out is shorter than 2 to the 38. -/
import Derived.Test.YtkpickojeghppaaDoorRcl
import Derived.Test.YtkpickojeghppaaDoorClia
namespace Go.Proofs.YtkpickojeghppaaDoor
open Go.RowKit
theorem ask_pack (s : Cl) (body : ByteArray) : packE ((s.askM body).summed s.sums) = if s.long body = true then 1 else 0 := by
  unfold packE Cl.long
  rw [if_neg (by show ¬ ((3 : Int) < 1 ∨ 6 < (3 : Int)); decide)]
  unfold WMsg.size
  show (if 131072 < 24 + body.size + (if s.sums = true then 4 else 0) then 1 else 0) = _
  by_cases h : 131072 < 24 + body.size + (if s.sums = true then 4 else 0)
  · rw [if_pos h, if_pos (by simp; omega)]
  · rw [if_neg h, if_neg (by simp; omega)]
/-- what is asked has grown -/
theorem rc_grown {w : World} {R : Nat} {V : CV} {s s2 : Cl} (h : RCK.At w R V s) {q' : Value} {w1 : World} (hu : Upd w w1 V.q.ownBlock q'.ownBlock) (hs : Slab w1 1 q' s2.asked.length (numsV s2.asked))
    (hc : ((rcCells R V s).setIfInBounds 9 q') = rcCells R { V with q := q' } s2) (hi : s2.closed = s.closed) (hin : s2.inp = s.inp) (ho : s2.out = s.out) (hr : s2.came = s.came) :
    RCK.At (w1.setCell ⟨R, 9, none⟩ q') R { V with q := q' } s2 ∧ Turn (RCK.F R V s) w (w1.setCell ⟨R, 9, none⟩ q') ∧ ∀ g, RCK.F R { V with q := q' } s2 g → RCK.F R V s g ∨ w.heap.size ≤ g := by
  have hR := h.ltR
  have hb1 : w1.heap[R]? = some (.cells (rcCells R V s) 79 (0, 0)) := (hu.block hR (h.nR _ (.tail _ (.tail _ (.head _))))).trans h.blk
  have hb2 := heap_setCell_same w1 R 9 _ _ q' hb1
  rw [hc] at hb2
  have hn : ∀ g, q'.ownBlock = some g → V.q.ownBlock = some g ∨ w.heap.size ≤ g := fun g hg => by
    rcases hu.own with e | ⟨q, e, hq⟩
    · left; rw [← e]; exact hg
    · right; rw [e] at hg; rw [← Option.some.inj hg]; exact hq
  have hne : ∀ g, q'.ownBlock = some g → g ≠ R := fun g hg e => by
    subst e
    rcases hn g hg with e | e
    · exact h.nR _ (.tail _ (.tail _ (.head _))) e
    · omega
  have hs2 : Slab (w1.setCell ⟨R, 9, none⟩ q') 1 q' s2.asked.length (numsV s2.asked) := Slab.same hs (fun g hg => heap_setCell_other _ _ _ _ (hne g hg))
  refine EK.repl (K := RCK) (s2 := s2) [⟨1, V.i, s.inp.length, bytesV s.inp, s.closed = false⟩, ⟨1, V.o, s.out.length, bytesV s.out, True⟩] [⟨2, V.r, s.came.length, cameV s.came, True⟩]
    ⟨1, V.q, s.asked.length, numsV s.asked, True⟩ ⟨1, q', s2.asked.length, numsV s2.asked, True⟩ rfl (by show clParts _ s2 = _; simp only [clParts, hi, hin, ho, hr]; rfl) h ?_ hb2 (fun _ => hs2) (fun g hg => Slab.lt hs2 hg) hn
  exact ((Turn.refl (fun g => g = R ∨ V.q.ownBlock = some g) w).upd hu (fun g hg => .inl (.inr hg))).set (.inl (.inl rfl)) 9 q'
theorem send_none (s : Cl) (m : WMsg) (h : packE (m.summed s.sums) ≠ 0) : s.send m = s := by
  unfold Cl.send
  rw [show packL (m.summed s.sums) = [] from if_neg h, List.append_nil]
set_option maxRecDepth 20000 in
set_option maxHeartbeats 8000000 in
theorem rcAsk_c (R : Nat) (V : CV) (s : Cl) (hok : s.Ok) (hid1 : 1 ≤ s.id) (body : ByteArray) (hbs : body.size ≤ 9223372036854770000) (hlen : s.out.length ≤ 274877906944) (w : World) (h : RCK.At w R V s) :
    Calls Tryd.prog 39 #[.pointer (some ⟨R, 0, none⟩), .string body] w (RCK.Post R V s w (s.ask body).1 (Cl.askV (s.ask body))) := by
  obtain ⟨⟨_, _, c2, _, _, _, c6, _, c8, c9, _⟩, hf⟩ := rc_cells h
  have f8 := hf 8
  have hRl := h.ltR
  clear hf
  by_cases hst : (s.closed || s.ending) = true
  · have HT := Lib.hid (show s.ask body = (s, 0, 285) from if_pos hst)
    have H := Lib.hid h
    have hst2 := hst
    clear h hok f8 c8 c9
    cases hcl : s.closed with
    | true =>
      rw [hcl] at c2
      clear hst hst2
      go_enter Tryd.func39, Tryd.ntmps39
      go_wp2
      go_ret2
      rw [HT.out]
      exact EK.post_same H.out _
    | false =>
      have hen : s.ending = true := by rw [hcl] at hst; exact hst
      rw [hcl] at c2
      rw [hen] at c6
      clear hst hst2
      go_enter Tryd.func39, Tryd.ntmps39
      go_wp2
      go_ret2
      rw [HT.out]
      exact EK.post_same H.out _
  · have hcl : s.closed = false := by cases h : s.closed with | false => rfl | true => rw [h] at hst; exact absurd rfl hst
    have hen : s.ending = false := by cases h : s.ending with | false => rfl | true => rw [h, Bool.or_true] at hst; exact absurd rfl hst
    rw [hcl] at c2
    rw [hen] at c6
    obtain ⟨A, cap, hvq, hnc, hcm, _⟩ := Slab.form (rc_asked h)
    obtain ⟨vi, vo, vq, vr⟩ := V
    simp only at hvq c9
    subst hvq
    by_cases hq : 16 ≤ s.asked.length
    · have HT := Lib.hid (show s.ask body = (s, 0, 5) by unfold Cl.ask; rw [if_neg hst, if_pos hq])
      have H := Lib.hid h
      clear h hok hst f8 c8
      go_enter Tryd.func39, Tryd.ntmps39
      go_wp2
      go_ret2
      rw [HT.out]
      exact EK.post_same H.out _
    · have hidl := hok.id
      have hpk := ask_pack s body
      obtain ⟨j, hj⟩ : ∃ j, s.id - 1 = j := ⟨_, rfl⟩
      have hje : (j : Int) + 1 = (s.id : Int) := by omega
      rw [hj] at c8
      have hj1 : (0 : Int) ≤ (j : Int) := by omega
      have hj2 : (j : Int) ≤ 4000000000 := by omega
      have HWR := Lib.hid (IntWalk.u32_in ((j : Int) + 1) (by omega))
      have HM := Lib.hid (show MsgOk (s.askM body) from ⟨by show s.id < _; omega, by show (0 : Nat) < _; omega, by show _ ≤ (3 : Int); decide, by show (3 : Int) ≤ _; decide, hbs⟩)
      have hq1 : ∀ n, RCK.At (w.drewN n) R ⟨vi, vo, .slice A s.asked.length cap, vr⟩ s := fun n => StAt.below h (below_drewN' _ n)
      have HSEND := Lib.hid (fun (n : Nat) => show Calls Tryd.prog 64 #[.pointer (some ⟨R, 0, none⟩), .agg #[.int .u32 (s.id : Int), .int .u32 0, .int .i64 3, .string body, .bool false]] (w.drewN n) (fun e w2 => ∃ V2, e = .returned (.bool (goesB ((s.askM body).summed s.sums))) ∧ Hid (RCK.At w2 R V2 (s.send (s.askM body)) ∧ Turn (RCK.F R ⟨vi, vo, .slice A s.asked.length cap, vr⟩ s) w w2 ∧ ∀ g, RCK.F R V2 (s.send (s.askM body)) g → RCK.F R ⟨vi, vo, .slice A s.asked.length cap, vr⟩ s g ∨ w.heap.size ≤ g)) from
        (goes_c R _ 79 vo s.out s.sums (s.askM body) HM.out hlen _ (hq1 n).blk rfl rfl (rc_out (hq1 n)) (h.nR _ (.tail _ (.head _)))).mono (fun e w2 hp => by
          obtain ⟨V2, he2, ha, ht2, hn2⟩ := rc_sent (hq1 n) hp
          exact ⟨V2, he2, Lib.hid ⟨ha, (Turn.of_below (below_drewN' _ n)).trans (ht2.weak (fun g hg => .inl hg)), hn2⟩⟩))
      rw [← hje] at HSEND
      cases hlg : s.long body with
      | true =>
        rw [hlg] at hpk
        have hp1 : packE ((s.askM body).summed s.sums) = 1 := hpk
        have HT := Lib.hid (show s.ask body = (s, 0, 1) by unfold Cl.ask; rw [if_neg hst, if_neg hq, if_pos hlg])
        have HG := Lib.hid (show goesB ((s.askM body).summed s.sums) = false by unfold goesB; rw [hp1]; rfl)
        have HSN := Lib.hid (send_none s (s.askM body) (by rw [hp1]; decide))
        rw [HG.out] at HSEND
        clear h hok hst hpk hp1 hlg hq1 hj hje HG
        go_enter Tryd.func39, Tryd.ntmps39
        go_wp2
        go_region_with (go_at_call 64; rw [HWR.out]; refine (HSEND.out _).mono ?_; rintro e w2 ⟨V2, rfl, HF⟩)
        all_goals (
          go_wp2
          go_ret2
          rw [HT.out]
          have hF := HF.out
          rw [HSN.out] at hF
          exact ⟨V2, rfl, hF.1, hF.2.1, hF.2.2⟩)
      | false =>
        rw [hlg] at hpk
        have hp1 : packE ((s.askM body).summed s.sums) = 0 := hpk
        have HT := Lib.hid (show s.ask body = ({ s.send (s.askM body) with id := s.id + 1, asked := s.asked ++ [s.id] }, s.id, 0) by unfold Cl.ask; rw [if_neg hst, if_neg hq, if_neg (by rw [hlg]; decide), hp1]; rfl)
        have HG := Lib.hid (show goesB ((s.askM body).summed s.sums) = true by unfold goesB; rw [hp1]; rfl)
        rw [HG.out] at HSEND
        have HC := Lib.hid (fun (n : Nat) => (HSEND.out n).mono (R' := fun e w2 => ∃ vi2 vo2 vr2 A2 cap2, e = .returned (.bool true) ∧ Hid (RCK.At w2 R ⟨vi2, vo2, .slice A2 s.asked.length cap2, vr2⟩ (s.send (s.askM body)) ∧ Turn (RCK.F R ⟨vi, vo, .slice A s.asked.length cap, vr⟩ s) w w2 ∧ ∀ g, RCK.F R ⟨vi2, vo2, .slice A2 s.asked.length cap2, vr2⟩ (s.send (s.askM body)) g → RCK.F R ⟨vi, vo, .slice A s.asked.length cap, vr⟩ s g ∨ w.heap.size ≤ g) ∧ w2.cell? ⟨R, 8, none⟩ = some (.int .u32 (j : Int)) ∧ w2.frozen? ⟨R, 8, none⟩ = false ∧ R < w2.heap.size) (fun e w2 hp => by
          obtain ⟨⟨vi2, vo2, vq2, vr2⟩, he, HX⟩ := hp
          obtain ⟨A2, cap2, hv2, _⟩ := Slab.form (rc_asked HX.out.1)
          simp only at hv2
          subst hv2
          have d8 := (rc_cells HX.out.1).1.2.2.2.2.2.2.2.2.1
          rw [show (s.send (s.askM body)).id - 1 = j from hj] at d8
          exact ⟨vi2, vo2, vr2, A2, cap2, he, HX, d8, (rc_cells HX.out.1).2 8, HX.out.1.ltR⟩))
        have HJ := Lib.hid hje
        have HCL := Lib.hid hcl
        clear h hok hst hpk hp1 hlg hq1 hj hje HG HSEND
        go_enter Tryd.func39, Tryd.ntmps39
        go_wp2
        go_region_with (go_at_call 64; rw [HWR.out]; refine (HC.out _).mono ?_; rintro e w2 ⟨vi2, vo2, vr2, A2, cap2, rfl, HF, d8, e8, hRl2⟩)
        all_goals (
          have hput := rc_put HF.out.1 (s2 := { s.send (s.askM body) with id := s.id + 1 }) ((Turn.refl (fun g => g = R) w2).set (g := R) (.inl rfl) 8 (.int .u32 ((j : Int) + 1))) (by have := heap_setCell_same w2 R 8 _ _ (.int .u32 ((j : Int) + 1)) HF.out.1.blk; rw [HJ.out] at this ⊢; exact this) (fun a => ⟨a, rfl⟩) rfl rfl rfl
          have H2 := Lib.hid hput.1
          have HT2 := Lib.hid (HF.out.2.1.trans (hput.2.1.weak HF.out.2.2))
          have HN2 := Lib.hid (show ∀ g, RCK.F R ⟨vi2, vo2, .slice A2 s.asked.length cap2, vr2⟩ { s.send (s.askM body) with id := s.id + 1 } g → RCK.F R ⟨vi, vo, .slice A s.asked.length cap, vr⟩ s g ∨ w.heap.size ≤ g from fun g hg => HF.out.2.2 g hg)
          have c9' := (rc_cells hput.1).1.2.2.2.2.2.2.2.2.2.1
          have d8' := (rc_cells hput.1).1.2.2.2.2.2.2.2.2.1
          rw [show (({ s.send (s.askM body) with id := s.id + 1 } : Cl).id - 1 : Nat) = s.id from rfl, ← HJ.out] at d8'
          have hRl3 := hput.1.ltR
          clear hput
          go_wp2
          clear d8 e8 hRl2
          generalize w2.setCell ⟨R, 8, none⟩ (.int .u32 ((j : Int) + 1)) = W at *
          have c9a := cell_below (show Below W.heap.size W (W.alloc (.cells #[.int .u32 ((j : Int) + 1)] 25)) from (by repeat (first | with_reducible exact Below.refl _ _ | with_reducible refine below_drewN ?_ _ | with_reducible refine Below.drew ?_ | with_reducible refine Below.alloc ?_ (by first | (simp; done) | (simp; omega)) _ | with_reducible refine Below.setCell ?_ (by first | (simp; done) | (simp; omega)) _))) c9'
          have c9b := cell_below (show Below W.heap.size W (W.drew.alloc (.cells #[.int .u32 ((j : Int) + 1)] 25)) from (by repeat (first | with_reducible exact Below.refl _ _ | with_reducible refine below_drewN ?_ _ | with_reducible refine Below.drew ?_ | with_reducible refine Below.alloc ?_ (by first | (simp; done) | (simp; omega)) _ | with_reducible refine Below.setCell ?_ (by first | (simp; done) | (simp; omega)) _))) c9'
          go_region_law (first
            | (refine step_slab numTy 76 (by rfl) _ _ (by rfl) (.slice A2 s.asked.length cap2) s.asked.length (numsV s.asked) (by rfl) (Slab.below (rc_asked H2.out) (by repeat (first | with_reducible exact Below.refl _ _ | with_reducible refine below_drewN ?_ _ | with_reducible refine Below.drew ?_ | with_reducible refine Below.alloc ?_ (by first | (simp; done) | (simp; omega)) _ | with_reducible refine Below.setCell ?_ (by first | (simp; done) | (simp; omega)) _))) (.slice (some ⟨W.heap.size, 0, none⟩) 1 1) (by rfl) 1 [.int .u32 ((j : Int) + 1)] (Src.ofSlice _ numTy.slice _ 1 1 _ rfl (World.news_of_block (heap_alloc_new _ _)) (by simp [Value.oneCell'])) (by unfold maxLen; omega) (by omega) ?_; intro vq2 W2 hs2 hu2; have hBq : RCK.At _ R ⟨vi2, vo2, .slice A2 s.asked.length cap2, vr2⟩ { s.send (s.askM body) with id := s.id + 1 } := StAt.below (w' := W.drew.alloc (.cells #[.int .u32 ((j : Int) + 1)] 25)) H2.out (by repeat (first | with_reducible exact Below.refl _ _ | with_reducible refine below_drewN ?_ _ | with_reducible refine Below.drew ?_ | with_reducible refine Below.alloc ?_ (by first | (simp; done) | (simp; omega)) _ | with_reducible refine Below.setCell ?_ (by first | (simp; done) | (simp; omega)) _)); have hbq := (hu2.block hBq.ltR (hBq.nR _ (.tail _ (.tail _ (.head _))))).trans hBq.blk; have q9 : W2.cell? ⟨R, 9, none⟩ = some (.slice A2 s.asked.length cap2) := cell_of_row _ _ _ _ _ _ hbq; have q8 : W2.cell? ⟨R, 8, none⟩ = some (.int .u32 ((j : Int) + 1)) := (by rw [HJ.out]; exact cell_of_row _ _ _ _ _ _ hbq); have e9 : W2.frozen? ⟨R, 9, none⟩ = false := frozen_of_row _ _ _ _ _ hbq; have hs2' : Slab W2 1 vq2 (s.asked ++ [s.id]).length (numsV (s.asked ++ [s.id])) := (by rw [List.length_append, numsV_append]; rw [HJ.out] at hs2; exact hs2); obtain ⟨hf1, hf2, hf3⟩ := rc_grown hBq (s2 := { s.send (s.askM body) with id := s.id + 1, asked := s.asked ++ [s.id] }) hu2 hs2' rfl rfl rfl rfl rfl; have HFIN := Lib.hid (And.intro hf1 (And.intro (HT2.out.trans ((Turn.of_below (S := fun g => RCK.F R ⟨vi, vo, .slice A s.asked.length cap, vr⟩ s g ∨ w.heap.size ≤ g) (show Below W.heap.size W (W.drew.alloc (.cells #[.int .u32 ((j : Int) + 1)] 25)) from (by repeat (first | with_reducible exact Below.refl _ _ | with_reducible refine below_drewN ?_ _ | with_reducible refine Below.drew ?_ | with_reducible refine Below.alloc ?_ (by first | (simp; done) | (simp; omega)) _ | with_reducible refine Below.setCell ?_ (by first | (simp; done) | (simp; omega)) _)))).trans ((hf2.weak HN2.out).weak (fun g hg => .inl hg)))) (show ∀ g, RCK.F R ⟨vi2, vo2, vq2, vr2⟩ { s.send (s.askM body) with id := s.id + 1, asked := s.asked ++ [s.id] } g → RCK.F R ⟨vi, vo, .slice A s.asked.length cap, vr⟩ s g ∨ w.heap.size ≤ g from fun g hg => (hf3 g hg).elim (HN2.out g) (fun e => .inr (Nat.le_trans (Nat.le_trans HT2.out.size (show W.heap.size ≤ (W.drew.alloc (.cells #[.int .u32 ((j : Int) + 1)] 25)).heap.size by simp)) e))))); obtain ⟨A3, cap3, hv3, _⟩ := Slab.form hs2; subst hv3; clear hs2 hu2 hBq hbq hs2' hf1 hf2 hf3))
          all_goals (
            go_wp2
            go_ret2
            rw [HT.out]
            exact ⟨_, (show Ending.returned (.tuple #[.int .u32 ((j : Int) + 1), .int .i64 0]) = .returned (.tuple #[.int .u32 (s.id : Int), .int .i64 0]) by rw [HJ.out]), HFIN.out.1, HFIN.out.2.1, HFIN.out.2.2⟩))
/-- the first reply is no more -/
theorem rc_ctail {w : World} {R G o o2 cap : Nat} {vi vo vq : Value} {s : Cl} {x : Nat × ByteArray} {r : List (Nat × ByteArray)} (h : RCK.At w R ⟨vi, vo, vq, .slice (some ⟨G, o, none⟩) s.came.length cap⟩ s) (hx : s.came = x :: r) (c3 : Nat) (hc3 : c3 = cap - 1) (hp : o2 = o + 2 ∨ cap - 1 = 0) :
    RCK.At (w.setCell ⟨R, 10, none⟩ (.slice (some ⟨G, o2, none⟩) (s.came.length - 1) c3)) R ⟨vi, vo, vq, .slice (some ⟨G, o2, none⟩) (s.came.length - 1) c3⟩ { s with came := r } ∧
    Turn (RCK.F R ⟨vi, vo, vq, .slice (some ⟨G, o, none⟩) s.came.length cap⟩ s) w (w.setCell ⟨R, 10, none⟩ (.slice (some ⟨G, o2, none⟩) (s.came.length - 1) c3)) ∧
    ∀ g, RCK.F R ⟨vi, vo, vq, .slice (some ⟨G, o2, none⟩) (s.came.length - 1) c3⟩ { s with came := r } g → RCK.F R ⟨vi, vo, vq, .slice (some ⟨G, o, none⟩) s.came.length cap⟩ s g ∨ w.heap.size ≤ g := by
  subst hc3
  have hG : G < w.heap.size := h.lt _ (.tail _ (.tail _ (.tail _ (.head _)))) G rfl
  have hne : G ≠ R := fun e => h.nR _ (.tail _ (.tail _ (.tail _ (.head _)))) (by rw [← e]; rfl)
  have hs := Slab.tail (rc_came h) 1 (by rw [hx]; simp) (o2 := o2) (by simpa using hp)
  rw [hx] at hs
  have hs2 : Slab w 2 (.slice (some ⟨G, o2, none⟩) (s.came.length - 1) (cap - 1)) r.length (cameV r) := by rw [hx]; exact hs
  exact EK.repl (K := RCK) (v2 := ⟨vi, vo, vq, .slice (some ⟨G, o2, none⟩) (s.came.length - 1) (cap - 1)⟩) (s2 := { s with came := r }) [⟨1, vi, s.inp.length, bytesV s.inp, s.closed = false⟩, ⟨1, vo, s.out.length, bytesV s.out, True⟩, ⟨1, vq, s.asked.length, numsV s.asked, True⟩] []
    ⟨2, .slice (some ⟨G, o, none⟩) s.came.length cap, s.came.length, cameV s.came, True⟩ ⟨2, .slice (some ⟨G, o2, none⟩) (s.came.length - 1) (cap - 1), r.length, cameV r, True⟩ rfl rfl h ((Turn.refl (fun g => g = R ∨ _) w).set (.inl (.inl rfl)) 10 _) (heap_setCell_same _ R 10 _ _ _ h.blk)
    (fun _ => Slab.same hs2 (fun g hg => heap_setCell_other _ _ _ _ (by rw [← Option.some.inj hg]; exact hne))) (fun g hg => by rw [← Option.some.inj hg]; simpa using hG) (fun g hg => .inl hg)
set_option maxRecDepth 20000 in
set_option maxHeartbeats 4000000 in
theorem rcReply_c (R : Nat) (V : CV) (s : Cl) (w : World) (h : RCK.At w R V s) :
    Calls Tryd.prog 43 #[.pointer (some ⟨R, 0, none⟩)] w (RCK.Post R V s w s.reply.1 s.reply.2) := by
  obtain ⟨⟨_, _, _, _, _, _, _, _, _, _, c9⟩, hf⟩ := rc_cells h
  have f9 := hf 10
  have hRl := h.ltR
  clear hf
  obtain ⟨A, cap, hvr, hnc, hcm, hform⟩ := Slab.form (rc_came h)
  obtain ⟨vi, vo, vq, vr⟩ := V
  simp only at hvr c9
  subst hvr
  obtain ⟨l, hl⟩ : ∃ l, s.came = l := ⟨_, rfl⟩
  cases l with
  | nil =>
    have HT := Lib.hid (show s.reply = (s, .tuple #[.int .u32 0, .string ⟨#[]⟩, .bool false]) by unfold Cl.reply; rw [hl])
    have H := Lib.hid h
    have hz : s.came.length = 0 := by rw [hl]; rfl
    have c9q := c9
    rw [hz] at c9q
    have c9' : w.cell? ⟨R, 10, none⟩ = some (.slice A 0 cap) := c9q
    have HL := Lib.hid hl
    clear h hl hform c9 c9q hz
    go_enter Tryd.func43, Tryd.ntmps43
    go_wp2
    refine bodyPost_ret (results_tmp3 rfl _ _ _) rfl ?_
    rw [HT.out]
    exact EK.post_same H.out _
  | cons x r =>
    obtain ⟨i, b⟩ := x
    have HT := Lib.hid (show s.reply = ({ s with came := r }, .tuple #[.int .u32 (i : Int), .string b, .bool true]) by unfold Cl.reply; rw [hl])
    have hlen : s.came.length = r.length + 1 := by rw [hl]; rfl
    obtain ⟨G, o, rfl, hG⟩ : ∃ G o, A = some ⟨G, o, none⟩ ∧ w.rangeAt G o (cameV s.came) := by
      rcases hform with ⟨_, h0, _⟩ | ⟨g, off, h1, _, _, h2, _⟩
      · omega
      · exact ⟨g, off, h1, h2⟩
    have d0 : w.cell? ⟨G, o, none⟩ = some (.int .u32 (i : Int)) := hG 0 _ (by rw [hl]; rfl)
    have d1 : w.cell? ⟨G, o + 1, none⟩ = some (.string b) := hG 1 _ (by rw [hl]; rfl)
    have hn0 : ((s.came.length : Int) == 0) = false := by rw [beq_eq_false_iff_ne]; omega
    have hn1 : (0 : Int) < (s.came.length : Int) := by omega
    have HC := Lib.hid (fun (o2 c3 : Nat) (hc3 : c3 = cap - 1) (hp : o2 = o + 2 ∨ cap - 1 = 0) => rc_ctail (o2 := o2) h hl c3 hc3 hp)
    have HL := Lib.hid hlen
    clear h hl hform hG
    have hnp : 1 ≤ s.came.length := by omega
    clear hlen
    generalize hcl : s.came.length = n at *
    clear hcl
    by_cases hc3 : cap - 1 = 0
    · go_enter Tryd.func43, Tryd.ntmps43
      go_wp2
      go_quiet (fail)
      go_wp2
      refine bodyPost_ret (results_tmp3 rfl _ _ _) rfl ?_
      rw [HT.out]
      exact EK.post_then (HC.out o 0 hc3.symm (.inr hc3)) (below_drewN ((Below.refl _ _).alloc (Nat.le_refl _) _) nq) _
    · have hcx : 1 ≤ cap := by omega
      go_enter Tryd.func43, Tryd.ntmps43
      go_wp2
      go_quiet (fail)
      go_wp2
      refine bodyPost_ret (results_tmp3 rfl _ _ _) rfl ?_
      rw [HT.out]
      exact EK.post_then (HC.out (o + 2) (cap - 1) rfl (.inl rfl)) (below_drewN ((Below.refl _ _).alloc (Nat.le_refl _) _) nq) _
end Go.Proofs.YtkpickojeghppaaDoor
