/- The walk of Answer (the document's server). Conditions: what goes out is shorter than 2 to the 37. -/
import Derived.Test.YtkpickojeghppaaDoorRnx
namespace Go.Proofs.YtkpickojeghppaaDoor
open Go.RowKit
/-- the first ask is no more -/
theorem rs_tail {w : World} {R G o o2 cap : Nat} {vi vo : Value} {s : Sv} {x : Nat × ByteArray × Bool} {r : List (Nat × ByteArray × Bool)} (h : RSK.At w R ⟨vi, vo, .slice (some ⟨G, o, none⟩) s.held.length cap⟩ s) (hx : s.held = x :: r) (c3 : Nat) (hc3 : c3 = cap - 1) (hp : o2 = o + 3 ∨ cap - 1 = 0) :
    RSK.At (w.setCell ⟨R, 8, none⟩ (.slice (some ⟨G, o2, none⟩) (s.held.length - 1) c3)) R ⟨vi, vo, .slice (some ⟨G, o2, none⟩) (s.held.length - 1) c3⟩ { s with held := r } ∧
    Turn (RSK.F R ⟨vi, vo, .slice (some ⟨G, o, none⟩) s.held.length cap⟩ s) w (w.setCell ⟨R, 8, none⟩ (.slice (some ⟨G, o2, none⟩) (s.held.length - 1) c3)) ∧
    ∀ g, RSK.F R ⟨vi, vo, .slice (some ⟨G, o2, none⟩) (s.held.length - 1) c3⟩ { s with held := r } g → RSK.F R ⟨vi, vo, .slice (some ⟨G, o, none⟩) s.held.length cap⟩ s g ∨ w.heap.size ≤ g := by
  subst hc3
  have hG : G < w.heap.size := h.lt _ (.tail _ (.tail _ (.head _))) G rfl
  have hne : G ≠ R := fun e => h.nR _ (.tail _ (.tail _ (.head _))) (by rw [← e]; rfl)
  have hs := Slab.tail (rs_held h) 1 (by rw [hx]; simp) (o2 := o2) (by simpa using hp)
  rw [hx] at hs
  have hs2 : Slab w 3 (.slice (some ⟨G, o2, none⟩) (s.held.length - 1) (cap - 1)) r.length (heldV r) := by rw [hx]; exact hs
  exact EK.repl (K := RSK) (v2 := ⟨vi, vo, .slice (some ⟨G, o2, none⟩) (s.held.length - 1) (cap - 1)⟩) (s2 := { s with held := r }) [⟨1, vi, s.inp.length, bytesV s.inp, s.closed = false ∧ s.ending = false⟩, ⟨1, vo, s.out.length, bytesV s.out, True⟩] []
    ⟨3, .slice (some ⟨G, o, none⟩) s.held.length cap, s.held.length, heldV s.held, True⟩ ⟨3, .slice (some ⟨G, o2, none⟩) (s.held.length - 1) (cap - 1), r.length, heldV r, True⟩ rfl rfl h ((Turn.refl (fun g => g = R ∨ _) w).set (.inl (.inl rfl)) 8 _) (heap_setCell_same _ R 8 _ _ _ h.blk)
    (fun _ => Slab.same hs2 (fun g hg => heap_setCell_other _ _ _ _ (by rw [← Option.some.inj hg]; exact hne))) (fun g hg => by rw [← Option.some.inj hg]; simpa using hG) (fun g hg => .inl hg)
set_option maxRecDepth 20000 in
set_option maxHeartbeats 8000000 in
theorem rsAnswer_c (R : Nat) (V : RV) (s : Sv) (hok : s.Ok) (body : ByteArray) (hbs : body.size ≤ 9223372036854770000) (hlen : s.out.length ≤ 137438953472) (w : World) (h : RSK.At w R V s) :
    Calls Tryd.prog 29 #[.pointer (some ⟨R, 0, none⟩), .string body] w (RSK.Post R V s w (s.answer body).1 (.int .i64 ((s.answer body).2 : Int))) := by
  obtain ⟨⟨_, _, c2, _, _, _, _, _, c8, _⟩, _⟩ := rs_cells h
  by_cases hc : s.closed = true
  · have HA := Lib.hid (show s.answer body = (s, 285) by unfold Sv.answer; rw [if_pos hc])
    have H := Lib.hid h
    rw [hc] at c2
    clear h hok c8
    go_enter Tryd.func29, Tryd.ntmps29
    go_wp2
    go_ret
    rw [HA.out]
    exact EK.post_same H.out _
  · have hc0 : s.closed = false := by simpa using hc
    rw [hc0] at c2
    obtain ⟨A, cap, hvh, hnc, hcm, hform⟩ := Slab.form (rs_held h)
    obtain ⟨vi, vo, vh⟩ := V
    simp only at hvh c8
    subst hvh
    obtain ⟨l, hh⟩ : ∃ l, s.held = l := ⟨_, rfl⟩
    cases l with
    | nil =>
      have HA := Lib.hid (show s.answer body = (s, 7) by unfold Sv.answer; rw [if_neg hc, hh])
      have H := Lib.hid h
      rw [hh] at c8
      have c8' : w.cell? ⟨R, 8, none⟩ = some (.slice A 0 cap) := c8
      have HH := Lib.hid hh
      clear h hok hform c8 hh
      go_enter Tryd.func29, Tryd.ntmps29
      go_wp2
      go_ret
      rw [HA.out]
      exact EK.post_same H.out _
    | cons x r =>
      obtain ⟨i, b, t⟩ := x
      have hl : s.held.length = r.length + 1 := by rw [hh]; rfl
      have hidl : i < 4294967296 := hok.ids (i, b, t) (by rw [hh]; exact .head _)
      have hrl := hok.held
      obtain ⟨G, o, rfl, hG⟩ : ∃ G o, A = some ⟨G, o, none⟩ ∧ w.rangeAt G o (heldV s.held) := by
        rcases hform with ⟨_, h0, _⟩ | ⟨g, off, h1, _, _, h2, _⟩
        · omega
        · exact ⟨g, off, h1, h2⟩
      have d0 : w.cell? ⟨G, o, none⟩ = some (.int .u32 (i : Int)) := hG 0 _ (by rw [hh]; rfl)
      have d2 : w.cell? ⟨G, o + 2, none⟩ = some (.bool t) := hG 2 _ (by rw [hh]; rfl)
      have hn0 : ((s.held.length : Int) == 0) = false := by rw [beq_eq_false_iff_ne]; omega
      have hn1 : (0 : Int) < (s.held.length : Int) := by omega
      cases t with
      | false =>
        have HA := Lib.hid (show s.answer body = (s, 7) by unfold Sv.answer; rw [if_neg hc, hh])
        have H := Lib.hid h
        clear h hok hform hG hh hl
        generalize s.held.length = n at *
        go_enter Tryd.func29, Tryd.ntmps29
        go_wp2
        go_ret
        rw [HA.out]
        exact EK.post_same H.out _
      | true =>
        have hm := msgTo_ok (to := i) (kind := 4) (body := body) hidl (by decide) (by decide) hbs
        have hdrew : ∀ n : Nat, RSK.At (w.drewN n) R ⟨vi, vo, .slice (some ⟨G, o, none⟩) s.held.length cap⟩ s := fun n => StAt.below h (below_drewN' w n)
        have HSEND := Lib.hid (fun (n : Nat) => show Calls Tryd.prog 64 #[.pointer (some ⟨R, 0, none⟩), .agg #[.int .u32 0, .int .u32 (i : Int), .int .i64 4, .string body, .bool false]] (w.drewN n) _ from
          goes_c R (rsCells R ⟨vi, vo, .slice (some ⟨G, o, none⟩) s.held.length cap⟩ s) 59 vo s.out s.sums (msgTo i 4 body) hm (by omega) _ (hdrew n).blk rfl rfl (rs_out (hdrew n)) (h.nR _ (.tail _ (.head _))))
        have hso := send_out s (msgTo i 4 body)
        have hpl := packE_le ((msgTo i 4 body).summed s.sums)
        by_cases hE : packE ((msgTo i 4 body).summed s.sums) = 0
        · have HA := Lib.hid (show s.answer body = (({ s.send (msgTo i 4 body) with held := r } : Sv).parts, 0) by unfold Sv.answer; rw [if_neg hc, hh]; exact if_pos hE)
          have HGB := Lib.hid (show goesB ((msgTo i 4 body).summed s.sums) = true by unfold goesB; rw [hE]; rfl)
          have HC := Lib.hid (fun (n : Nat) => (HSEND.out n).mono (R' := fun e w2 => ∃ vi2 vo2 G2 o2 cap2, e = .returned (.bool true) ∧ Hid (RSK.At w2 R ⟨vi2, vo2, .slice (some ⟨G2, o2, none⟩) s.held.length cap2⟩ (s.send (msgTo i 4 body))) ∧ Hid (Turn (RSK.F R ⟨vi, vo, .slice (some ⟨G, o, none⟩) s.held.length cap⟩ s) w w2) ∧ Hid (∀ g, RSK.F R ⟨vi2, vo2, .slice (some ⟨G2, o2, none⟩) s.held.length cap2⟩ (s.send (msgTo i 4 body)) g → RSK.F R ⟨vi, vo, .slice (some ⟨G, o, none⟩) s.held.length cap⟩ s g ∨ w.heap.size ≤ g) ∧ s.held.length ≤ cap2 ∧ cap2 ≤ maxLen ∧ w2.cell? ⟨R, 8, none⟩ = some (.slice (some ⟨G2, o2, none⟩) s.held.length cap2) ∧ w2.frozen? ⟨R, 8, none⟩ = false) (fun e w2 hp => by
            obtain ⟨⟨vi2, vo2, vh2⟩, he, hsv, ht, hnw⟩ := rs_sent (hdrew n) hp
            rw [HGB.out] at he
            obtain ⟨A2, cap2, hv2, h1, h2, h3⟩ := Slab.form (rs_held hsv)
            simp only at hv2
            subst hv2
            rcases h3 with ⟨_, h0, _⟩ | ⟨G2, o2, rfl, _⟩
            · exact absurd h0 (by show s.held.length ≠ 0; omega)
            · exact ⟨vi2, vo2, G2, o2, cap2, he, Lib.hid hsv, Lib.hid ((Turn.of_below (below_drewN' w n)).trans (ht.weak (fun g hg => .inl hg))), Lib.hid hnw, h1, h2, (rs_cells hsv).1.2.2.2.2.2.2.2.2.1, (rs_cells hsv).2 8⟩))
          have HLV := Lib.hid (fun (w2 : World) (vi2 vo2 : Value) (G2 o2 cap2 o3 c3 : Nat) (hx : RSK.At w2 R ⟨vi2, vo2, .slice (some ⟨G2, o2, none⟩) s.held.length cap2⟩ (s.send (msgTo i 4 body))) (ht : Turn (RSK.F R ⟨vi, vo, .slice (some ⟨G, o, none⟩) s.held.length cap⟩ s) w w2) (hn : ∀ g, RSK.F R ⟨vi2, vo2, .slice (some ⟨G2, o2, none⟩) s.held.length cap2⟩ (s.send (msgTo i 4 body)) g → RSK.F R ⟨vi, vo, .slice (some ⟨G, o, none⟩) s.held.length cap⟩ s g ∨ w.heap.size ≤ g) (hc3 : c3 = cap2 - 1) (hp : o3 = o2 + 3 ∨ cap2 - 1 = 0) => (by
            have h5 := rs_tail (s := s.send (msgTo i 4 body)) (o2 := o3) hx hh c3 hc3 hp
            exact (rparts_c R ⟨vi2, vo2, .slice (some ⟨G2, o3, none⟩) (s.held.length - 1) c3⟩ { s.send (msgTo i 4 body) with held := r } (by show (s.send (msgTo i 4 body)).out.length ≤ _; omega) hok.bye _ h5.1).mono (fun e w3 hq => EK.seq ht hn (EK.seq h5.2.1 h5.2.2 hq)) :
            Calls Tryd.prog 65 #[.pointer (some ⟨R, 0, none⟩)] (w2.setCell ⟨R, 8, none⟩ (.slice (some ⟨G2, o3, none⟩) (s.held.length - 1) c3)) (RSK.Post R ⟨vi, vo, .slice (some ⟨G, o, none⟩) s.held.length cap⟩ s w ({ s.send (msgTo i 4 body) with held := r } : Sv).parts (.tuple #[]))))
          clear h hok hform hG hh hdrew hm hc hl HSEND hE
          go_enter Tryd.func29, Tryd.ntmps29
          go_wp2
          go_region_with (go_at_call 64; refine (HC.out _).mono ?_; rintro ee w2 ⟨vi2, vo2, G2, o2, cap2, rfl, HX, HT2, HN2, hc1, hc2, hl2, f8⟩)
          all_goals (
            by_cases hc3 : cap2 - 1 = 0
            · go_wp2_with fail
              refine (HLV.out w2 vi2 vo2 G2 o2 cap2 o2 0 HX.out HT2.out HN2.out hc3.symm (.inr hc3)).mono ?_
              rintro ee w3 ⟨V3, rfl, h3, ht3, hn3⟩
              have HF := Lib.hid (And.intro h3 (And.intro ht3 hn3))
              clear h3 ht3 hn3
              go_wp2
              go_ret
              rw [HA.out]
              exact ⟨V3, rfl, HF.out.1, HF.out.2.1, HF.out.2.2⟩
            · have hcx : 1 ≤ cap2 := by omega
              go_wp2_with fail
              refine (HLV.out w2 vi2 vo2 G2 o2 cap2 (o2 + 3) (cap2 - 1) HX.out HT2.out HN2.out rfl (.inl rfl)).mono ?_
              rintro ee w3 ⟨V3, rfl, h3, ht3, hn3⟩
              have HF := Lib.hid (And.intro h3 (And.intro ht3 hn3))
              clear h3 ht3 hn3
              go_wp2
              go_ret
              rw [HA.out]
              exact ⟨V3, rfl, HF.out.1, HF.out.2.1, HF.out.2.2⟩)
        · have hp1 : packE ((msgTo i 4 body).summed s.sums) = 1 := by
            unfold packE at hE ⊢
            rw [if_neg (by show ¬ ((4 : Int) < 1 ∨ 6 < (4 : Int)); decide)] at hE ⊢
            by_cases h5 : 131072 < ((msgTo i 4 body).summed s.sums).size
            · rw [if_pos h5]
            · rw [if_neg h5] at hE; exact absurd rfl hE
          have HA := Lib.hid (show s.answer body = ((s.send (msgTo i 4 body)).fail 1, 1) by
            unfold Sv.answer
            rw [if_neg hc, hh]
            show (if packE ((msgTo i 4 body).summed s.sums) = 0 then _ else ((s.send (msgTo i 4 body)).fail (packE ((msgTo i 4 body).summed s.sums)), packE ((msgTo i 4 body).summed s.sums))) = _
            rw [if_neg hE, hp1])
          have HGB := Lib.hid (show goesB ((msgTo i 4 body).summed s.sums) = false by unfold goesB; rw [beq_eq_false_iff_ne]; exact hE)
          have HC := Lib.hid (fun (n : Nat) => (HSEND.out n).mono (R' := fun e w2 => ∃ V2, e = .returned (.bool false) ∧ Hid (RSK.At w2 R V2 (s.send (msgTo i 4 body)) ∧ Turn (RSK.F R ⟨vi, vo, .slice (some ⟨G, o, none⟩) s.held.length cap⟩ s) w w2 ∧ ∀ g, RSK.F R V2 (s.send (msgTo i 4 body)) g → RSK.F R ⟨vi, vo, .slice (some ⟨G, o, none⟩) s.held.length cap⟩ s g ∨ w.heap.size ≤ g)) (fun e w2 hp => by
            obtain ⟨V2, he, hsv, ht, hnw⟩ := rs_sent (hdrew n) hp
            rw [HGB.out] at he
            exact ⟨V2, he, Lib.hid ⟨hsv, (Turn.of_below (below_drewN' w n)).trans (ht.weak (fun g hg => .inl hg)), hnw⟩⟩))
          have HFL := Lib.hid (fun (w2 : World) (V2 : RV) (hx : RSK.At w2 R V2 (s.send (msgTo i 4 body))) => rfails_c R V2 (s.send (msgTo i 4 body)) 1 (by omega) (by omega) w2 hx)
          clear h hok hform hG hh hdrew hm hc hl HSEND hE hp1
          go_enter Tryd.func29, Tryd.ntmps29
          go_wp2
          go_region_with (go_at_call 64; refine (HC.out _).mono ?_; rintro ee w2 ⟨V2, rfl, HX⟩)
          all_goals (
            go_wp2_with fail
            refine (HFL.out w2 V2 HX.out.1).mono ?_
            rintro ee w3 ⟨V3, rfl, h3, ht3, hn3⟩
            have HF := Lib.hid (EK.seq HX.out.2.1 HX.out.2.2 ⟨V3, rfl, h3, ht3, hn3⟩ : RSK.Post R _ s w _ (.tuple #[]) (.returned (.tuple #[])) w3)
            clear h3 ht3 hn3
            go_wp2
            go_ret
            rw [HA.out]
            obtain ⟨V4, _, h4, ht4, hn4⟩ := HF.out
            exact ⟨V4, rfl, h4, ht4, hn4⟩)
end Go.Proofs.YtkpickojeghppaaDoor
