/- The walk of the law WireServes. Conditions: what comes in is of bulk at most 1048576. -/
import Derived.Test.YtkpickojeghppaaDoorWpr
namespace Go.Proofs.YtkpickojeghppaaDoor
open Go.RowKit
theorem ps_start {w W w1 w2 : World} (hT : WTabs w) (hb : Below w.heap.size w W) (hs : SvAt w1 W.heap.size (.slice none 0 0) (.slice none 0 0) (.slice none 0 0) sv0) (hb1 : Below W.heap.size W w1) (hb2 : Below w1.heap.size w1 w2)
    (hr : w2.heap[w1.heap.size]? = some (.cells #[.slice none 0 0, .slice none 0 0, .bool false, .int .i64 0, .bool false, .bool false, .bool false, .int .u32 0, .slice none 0 0, .int .u32 0] 59)) :
    PSAny w w2 W.heap.size w1.heap.size sv0 sv0 (fun _ => False) := by
  have h1 := hb.size
  have h5 := hT.size
  have hz := hb1.size
  have hsl := hs.lt
  have T2 := ((hT.below hb).below hb1).below hb2
  refine ⟨_, _, _, ⟨.slice none 0 0, .slice none 0 0, .slice none 0 0⟩, ⟨⟨hs.below hb2, T2, fun g hg => ?_⟩, ⟨hr, fun p hp _ => ?_, fun p hp => ?_, ?_, fun p hp g hg => ?_⟩, fun g hg hg2 => ?_, fun g hg => ?_, fun g hg => ?_, hb.trans ((hb1.mono h1).trans (hb2.mono (Nat.le_trans h1 hz)))⟩, fun g e => e.elim⟩
  · rcases hg with e | e | e | e
    · omega
    · cases e
    · cases e
    · cases e
  · simp only [RSK, rsParts, List.mem_cons, List.not_mem_nil, or_false] at hp
    rcases hp with rfl | rfl | rfl <;> exact slab_nil _ _
  · simp only [RSK, rsParts, List.mem_cons, List.not_mem_nil, or_false] at hp
    rcases hp with rfl | rfl | rfl <;> (intro e; cases e)
  · simp [RSK, rsParts, apart, Value.ownBlock]
  · simp only [RSK, rsParts, List.mem_cons, List.not_mem_nil, or_false] at hp
    rcases hp with rfl | rfl | rfl <;> cases hg
  · rcases hg with e | e | e | e
    · rcases hg2 with e2 | ⟨p, hp, e2⟩
      · omega
      · simp only [RSK, rsParts, List.mem_cons, List.not_mem_nil, or_false] at hp
        rcases hp with rfl | rfl | rfl <;> cases e2
    · cases e
    · cases e
    · cases e
  · rcases hg with e | e | e | e
    · omega
    · cases e
    · cases e
    · cases e
  · rcases hg with e | ⟨p, hp, e⟩
    · omega
    · simp only [RSK, rsParts, List.mem_cons, List.not_mem_nil, or_false] at hp
      rcases hp with rfl | rfl | rfl <;> cases e
set_option maxRecDepth 100000 in
set_option maxHeartbeats 16000000 in
theorem wireServes_c (A : Option Addr) (c : Nat) (l : List ActP) (hcm : l.length ≤ maxLen) (hw : actsW l ≤ 1048576) (w : World) (h : ActsIn w A l) (hT : WTabs w) :
    Calls Tryd.prog 7 #[.slice A l.length c] w fun r w' => r = .returned (.bool true) ∧ Below w.heap.size w w' := by
  have HL := Lib.hid (fun (W : World) (hb : Below w.heap.size w W) => (live_c W (hT.below hb)).mono (R' := fun e w' => e = .returned (.bool true) ∧ Below w.heap.size w w') (fun e w' ⟨he, h⟩ => ⟨he, hb.trans (h.mono hb.size)⟩))
  have HT := Lib.hid hT
  have HA := Lib.hid h
  have H5 := Lib.hid hT.size
  have HLG := Lib.hid (long_c A c l (by omega) w h)
  have hll := (actsW_le l).2
  clear hT h
  unfold maxLen at hcm
  cases hlg : longB l with
  | true =>
    rw [hlg] at HLG
    go_enter Tryd.func7, Tryd.ntmps7
    go_wp2_with (go_at_call 20; refine HLG.out.mono ?_; rintro e w' ⟨rfl, nq, rfl⟩)
    go_ret
    exact ⟨rfl, below_drewN' w _⟩
  | false =>
  rw [hlg] at HLG
  have hl300 : l.length ≤ 300 := by
    unfold longB at hlg
    simp only [Bool.or_eq_false_iff, decide_eq_false_iff_not] at hlg
    omega
  clear hlg
  go_enter Tryd.func7, Tryd.ntmps7
  go_wp2_with (first
    | (go_at_call 20; refine HLG.out.mono ?_; rintro e w' ⟨rfl, nq, rfl⟩)
    | (go_at_call 23; refine (newServer_c _).mono ?_; rintro e w1 ⟨rfl, hs1, hb1⟩; have HS1 := Lib.hid hs1; have HB1 := Lib.hid hb1; clear hs1 hb1))
  have HP0 := Lib.hid (show PSAny w _ w.heap.size w1.heap.size sv0 sv0 (fun _ => False) from ps_start (W := w.drewN nq) HT.out (below_drewN' w nq) HS1.out HB1.out ((Below.refl _ _).alloc (Nat.le_refl _) _) (heap_alloc_new w1 _))
  clear HS1 HB1
  go_loopw [5] (fun i wr => ∃ (k : Nat) (s : Sv), k ≤ l.length ∧ i = .int .i64 k ∧ Hid (PSAny w wr w.heap.size w1.heap.size s s (fun _ => False)) ∧ Hid (s.Ok ∧ s.Room (5 * actsW (l.take k) + 48 * k))) (fun i _ => l.length - (intOf i).toNat)
  case atStart => exact ⟨0, sv0, Nat.zero_le _, rfl, HP0, Lib.hid ⟨sv0_ok, sv0_room.mono (Nat.zero_le _)⟩⟩
  case round =>
    obtain ⟨k, s, hk, rfl, HPS, HOK⟩ := hrel
    by_cases hlt : k < l.length
    · obtain ⟨G, o, rfl, hr⟩ : ∃ G o, A = some ⟨G, o, none⟩ ∧ ∀ i (h : i < l.length), ∃ Ar cr Am cm, ActV w l[i] Ar cr Am cm ∧ w.rangeAt G (o + i * 4) (actV l[i] Ar cr Am cm) := by
        rcases HA.out with h | h
        · rw [h] at hlt; simp at hlt
        · exact h
      obtain ⟨Ar, cr, Am, cm, hv0, hc0⟩ := hr k hlt
      have hc := rangeAt_below hc0 HPS.out.bl
      have hwt := actsW_get hlt
      have hbz := (l[k]).bytes_size
      have htk := actsW_take hlt
      have htl := actsW_take_le l (k + 1)
      have HV0 := Lib.hid hv0
      clear hr hv0 hc0
      have hbody : (l[k]).body.size ≤ 1048576 := by have : (l[k]).body.size ≤ (l[k]).wt := (by unfold ActP.wt; omega); omega
      generalize l[k] = a at *
      have a0 : wr.cell? ⟨G, o + k * 4, none⟩ = some (.int .i64 a.kind) := hc 0 _ rfl
      have a1 : wr.cell? ⟨G, o + k * 4 + 1, none⟩ = some (.slice Ar a.raw.length cr) := hc 1 _ rfl
      have a2 : wr.cell? ⟨G, o + k * 4 + 2, none⟩ = some (.slice Am a.ms.length cm) := hc 2 _ rfl
      have a3 : wr.cell? ⟨G, o + k * 4 + 3, none⟩ = some (.string a.body) := hc 3 _ rfl
      have HBC := Lib.hid (fun (W : World) (hb : Below w.heap.size w W) => show Calls Tryd.prog 21 #[.agg #[.int .i64 a.kind, .slice Ar a.raw.length cr, .slice Am a.ms.length cm, .string a.body]] W _ from bytes_c a Ar cr Am cm (by omega) W (HV0.out.below hb))
      have HX1 := Lib.hid (heap_alloc_new wr (.cells #[.int .i64 a.kind, .slice Ar a.raw.length cr, .slice Am a.ms.length cm, .string a.body] 48))
      have HPS1 := Lib.hid (HPS.out.below ((Below.refl _ _).alloc (Nat.le_refl _) (.cells #[.int .i64 a.kind, .slice Ar a.raw.length cr, .slice Am a.ms.length cm, .string a.body] 48)))
      have hXz : wr.heap.size < (wr.alloc (.cells #[.int .i64 a.kind, .slice Ar a.raw.length cr, .slice Am a.ms.length cm, .string a.body] 48)).heap.size := by simp
      have HXN := Lib.hid (show PSAny w (wr.alloc (.cells #[.int .i64 a.kind, .slice Ar a.raw.length cr, .slice Am a.ms.length cm, .string a.body] 48)) w.heap.size w1.heap.size s s (fun g => g = wr.heap.size) from (HPS.out.with (fun g e => .inr (by omega))).below ((Below.refl _ _).alloc (Nat.le_refl _) _))
      obtain ⟨f1, hf1⟩ : ∃ f, 5 * actsW (l.take (k + 1)) + 48 * (k + 1) = f := ⟨_, rfl⟩
      have HF1 := Lib.hid hf1
      have hfb : f1 ≤ 5300000 := by omega
      have hfr : 5 * actsW (l.take k) + 48 * k + a.bytes.length + 48 ≤ f1 := by omega
      clear hc hf1 hwt htk htl HPS HV0
      generalize a.kind = q0 at *
      generalize a.raw.length = q1 at *
      generalize a.ms.length = q2 at *
      generalize a.body = q3 at *
      generalize a.bytes = p at *
      by_cases k1 : q0 = 1
      · subst k1
        go_wp2_with fail
        clear a0 a1 a2 a3
        generalize wr.alloc (.cells #[.int .i64 1, .slice Ar q1 cr, .slice Am q2 cm, .string q3] 48) = W1 at *
        generalize wr.heap.size = X at *
        refine (HBC.out W1 HPS1.out.bl).mono ?_; rintro e w2 ⟨v1, rfl, hs2, hb2, hn2⟩
        obtain ⟨A1, c1, hv1, hcc1, hcm1, _⟩ := Slab.form hs2
        subst hv1
        have HS2 := Lib.hid hs2
        have HB2 := Lib.hid hb2
        obtain ⟨g1, hg1⟩ : ∃ g1 : Nat → Prop, g1 = fun g => (Value.slice A1 p.length c1).ownBlock = some g ∨ g = X := ⟨_, rfl⟩
        have HG1 := Lib.hid hg1
        have HP2 := Lib.hid (show PSAny w w2 w.heap.size w1.heap.size s s g1 from (HXN.out.with (g1 := g1) (fun g e => by rw [HG1.out] at e; rcases e with e | e; exact .inr (by have := hn2 g e; omega); exact .inl e)).below hb2)
        have HL2 := Lib.hid (show ∀ g, g1 g → g < w2.heap.size from fun g e => by rw [HG1.out] at e; rcases e with e | e; exact Slab.lt HS2.out e; have := hb2.size; omega)
        have HX2 := Lib.hid ((hb2.block X hXz).trans HX1.out)
        have HFD := Lib.hid (psFeed HP2.out HL2.out HOK.out.1 (.slice A1 p.length c1) p (src_bslab HS2.out) (room_in (n := p.length) HOK.out.2 (by omega)))
        have HN2 := Lib.hid (show ∀ g, (Value.slice A1 p.length c1).ownBlock = some g → w.heap.size ≤ g ∧ X < g from fun g e => by have := hn2 g e; have := HPS1.out.bl.size; omega)
        clear hs2 hb2 hn2 hg1
        go_wp2_with fail
        refine HFD.out.mono ?_; rintro e w3 ⟨rfl, hst3⟩
        have HS3 := Lib.hid (show BSlab w3 (.slice A1 p.length c1) p from hst3.slab HS2.out (fun g e => by rw [HG1.out]; exact .inl e))
        have HX3 := Lib.hid (hst3.obj HX2.out (by rw [HG1.out]; exact .inr rfl))
        have HP3 := Lib.hid (show PSAny w w3 w.heap.size w1.heap.size (s.feed p) s g1 from hst3.1)
        have hXz3 : X < w3.heap.size := (Array.getElem?_eq_some_iff.1 HX3.out).1
        have hne : ∀ g, (Value.slice A1 p.length c1).ownBlock = some g → w.heap.size ≤ g ∧ g ≠ X := fun g e => by have := HN2.out g e; omega
        have HNE := Lib.hid hne
        clear hst3 hne HS2 HX2 HP2 HFD HL2
        go_wp2
        go_loopw [8] (fun i wq => ∃ j : Nat, j ≤ p.length ∧ i = .int .i64 j ∧ Hid (∃ xs, Slab wq 1 (.slice A1 p.length c1) p.length xs) ∧ Hid (Turn (fun g => (Value.slice A1 p.length c1).ownBlock = some g) w3 wq)) (fun i _ => p.length - (intOf i).toNat)
        case atStart => exact ⟨0, Nat.zero_le _, rfl, Lib.hid ⟨_, HS3.out⟩, Lib.hid (Turn.refl _ _)⟩
        case round =>
          obtain ⟨j, hj, rfl, HXS, HTU⟩ := hrel
          by_cases hjl : j < p.length
          · obtain ⟨xs, hxs⟩ := HXS.out
            obtain ⟨A', cap', hv', hcc1, hcc2, hform⟩ := hxs.form
            injection hv' with e1 e2 e3
            subst e1; subst e3
            obtain ⟨G1, o1, rfl, hth⟩ : ∃ G1 o1, A1 = some ⟨G1, o1, none⟩ ∧ wr.there G1 o1 (c1 * 1) := by
              rcases hform with ⟨_, h0, _⟩ | ⟨g, off, h1, _, _, _, h3⟩
              · omega
              · exact ⟨g, off, h1, h3⟩
            obtain ⟨u, hu⟩ := Option.isSome_iff_exists.1 (hth j (by omega)).1
            have hfz := (hth j (by omega)).2
            have hxl : xs.length = p.length * 1 := hxs.1
            have HPUT := Lib.hid (show ∃ ys, Slab (wr.setCell ⟨G1, o1 + j, none⟩ (.int .u8 238)) 1 (.slice (some ⟨G1, o1, none⟩) p.length c1) p.length ys from ⟨_, Slab.put hxs j (by omega) (.int .u8 238)⟩)
            have HT2 := Lib.hid (HTU.out.set (g := G1) (.inl rfl) (o1 + j) (.int .u8 238))
            clear hxs hform hth hxl
            go_wp2
            go_roundw
            case rel => exact ⟨j + 1, by omega, by go_num, HPUT, HT2⟩
            case measure => simp [intOf]; omega
          · obtain rfl : j = p.length := by omega
            have HP4 := Lib.hid (HP3.out.turn HTU.out (fun g e => by rw [HG1.out]; exact .inl e) (fun g e => (HNE.out g e).1) H5.out)
            have hx4 := HTU.out.obj HX3.out (fun e => (HNE.out X e).2 rfl)
            have x0 : wr.cell? ⟨X, 0, none⟩ = some (.int .i64 1) := cell_of_row _ _ _ _ _ _ hx4
            have x1 : wr.cell? ⟨X, 1, none⟩ = some (.slice Ar q1 cr) := cell_of_row _ _ _ _ _ _ hx4
            have x2 : wr.cell? ⟨X, 2, none⟩ = some (.slice Am q2 cm) := cell_of_row _ _ _ _ _ _ hx4
            have x3 : wr.cell? ⟨X, 3, none⟩ = some (.string q3) := cell_of_row _ _ _ _ _ _ hx4
            have HBC4 := Lib.hid (HBC.out wr HP4.out.bl)
            clear hx4
            go_wp2_with fail
            refine HBC4.out.mono ?_; rintro e w4 ⟨v4, rfl, hs4, hb4, hn4⟩
            obtain ⟨A4, c4, hv4, hcc4, hcm4, _⟩ := Slab.form hs4
            subst hv4
            have HFD4 := Lib.hid (prFeed (HP4.out.none.below hb4) (fun g e => e.elim) H5.out HOK.out.1 (.slice A4 p.length c4) p hs4 (room_in (n := p.length) HOK.out.2 (by omega)))
            clear hs4 hb4 hn4 x0 x1 x2 x3
            go_wp2_with fail
            refine HFD4.out.mono ?_; rintro e w5 ⟨rfl, hst5⟩
            have HPS := Lib.hid hst5.1
            have HOK := Lib.hid (show (s.feed p).Ok ∧ (s.feed p).Room (5 * actsW (l.take (k + 1)) + 48 * (k + 1)) from ⟨feed_ok HOK.out.1 p (by have := HOK.out.2.inp; omega), by rw [HF1.out]; exact (room_feed HOK.out.1 HOK.out.2 p (by omega)).mono (by omega)⟩)
            clear hst5
            obtain ⟨c2, c3, hR2⟩ := prCells HPS.out
            have HO := Lib.hid (fun n => psOpen (HPS.out.below (below_drewN' w5 n)))
            have HY := Lib.hid (fun n => psWhy (HPS.out.below (below_drewN' w5 n)))
            have HB := Lib.hid (fun n => HPS.out.below (below_drewN' w5 n))
            obtain ⟨cl, hcl⟩ : ∃ b, (s.feed p).closed = b := ⟨_, rfl⟩
            obtain ⟨y, hy⟩ : ∃ b, (s.feed p).why = b := ⟨_, rfl⟩
            rw [hcl] at c2 HO
            rw [hy] at c3 HY
            have hxx : ((!cl) == cl) = false := by cases cl <;> rfl
            have hyy : ((y : Int) != (y : Int)) = false := by simp
            clear hcl hy
            go_wp2
            go_quiet ((first | (go_at_call 32; exact Calls.quiet_of_same (HO.out _)) | (go_at_call 33; exact Calls.quiet_of_same (HY.out _)) | (go_at_call 11; exact Calls.quiet_of_same ((num_c _ _).mono (fun e w' h => ⟨h.1, h.2.symm⟩)))))
            go_wp2
            go_roundw
            case rel => exact ⟨k + 1, _, by omega, by go_num, Lib.hid (HB.out nq), HOK⟩
            case measure => simp [intOf]; omega
      · by_cases k2 : q0 = 2
        · subst k2
          clear k1
          go_wp2_with fail
          clear a0 a1 a2 a3
          generalize wr.alloc (.cells #[.int .i64 2, .slice Ar q1 cr, .slice Am q2 cm, .string q3] 48) = W1 at *
          generalize wr.heap.size = X at *
          obtain ⟨xa, xb, xc, hxv⟩ := nextV_form s
          have HN1 := Lib.hid (psNext HPS1.out (fun g e => e.elim) (by have := HOK.out.1.held; omega))
          have HN2 := Lib.hid (fun (W : World) (h : PSAny w W w.heap.size w1.heap.size s.next s (fun _ => False)) => prNext h (fun g e => e.elim) H5.out (by have := HOK.out.1.held; omega))
          rw [hxv] at HN1 HN2
          have hxa : ((xa : Int) != (xa : Int)) = false := by simp
          have hxb : (xb.toList == xb.toList) = true := by simp
          have hxb2 : (xb.toList != xb.toList) = false := by simp
          have hxc : (xc != xc) = false := by simp
          clear hxv HBC HX1 HXN
          refine HN1.out.mono ?_; rintro e w2 ⟨rfl, hst2⟩
          have HN3 := Lib.hid (HN2.out w2 hst2.1)
          clear hst2 HN2
          go_wp2_with fail
          refine HN3.out.mono ?_; rintro e w3 ⟨rfl, hst3⟩
          have HPS := Lib.hid hst3.1
          have HOK := Lib.hid (show (s.next).Ok ∧ (s.next).Room (5 * actsW (l.take (k + 1)) + 48 * (k + 1)) from ⟨next_ok HOK.out.1, by rw [HF1.out]; exact (next_room HOK.out.2).mono (by omega)⟩)
          clear hst3
          obtain ⟨c2, c3, hR2⟩ := prCells HPS.out
          have HO := Lib.hid (fun n => psOpen (HPS.out.below (below_drewN' w3 n)))
          have HY := Lib.hid (fun n => psWhy (HPS.out.below (below_drewN' w3 n)))
          have HB := Lib.hid (fun n => HPS.out.below (below_drewN' w3 n))
          obtain ⟨cl, hcl⟩ : ∃ b, (s.next).closed = b := ⟨_, rfl⟩
          obtain ⟨y, hy⟩ : ∃ b, (s.next).why = b := ⟨_, rfl⟩
          rw [hcl] at c2 HO
          rw [hy] at c3 HY
          have hxx : ((!cl) == cl) = false := by cases cl <;> rfl
          have hyy : ((y : Int) != (y : Int)) = false := by simp
          clear hcl hy
          go_wp2
          go_quiet ((first | (go_at_call 32; exact Calls.quiet_of_same (HO.out _)) | (go_at_call 33; exact Calls.quiet_of_same (HY.out _)) | (go_at_call 11; exact Calls.quiet_of_same ((num_c _ _).mono (fun e w' h => ⟨h.1, h.2.symm⟩)))))
          go_wp2
          go_roundw
          case rel => exact ⟨k + 1, _, by omega, by go_num, Lib.hid (HB.out nq), HOK⟩
          case measure => simp [intOf]; omega
        · by_cases k3 : q0 = 3
          · subst k3
            clear k1 k2
            go_wp2
            clear a0 a1 a2 a3
            generalize wr.alloc (.cells #[.int .i64 3, .slice Ar q1 cr, .slice Am q2 cm, .string q3] 48) = W1 at *
            generalize wr.heap.size = X at *
            have x3 : W1.cell? ⟨X, 3, none⟩ = some (.string q3) := cell_of_row _ _ _ _ _ _ HX1.out
            have HA1 := Lib.hid (fun (W : World) (hb : Below W1.heap.size W1 W) => (psAnswer (HXN.out.below hb) (fun g e => by have := hb.size; rw [e]; omega) HOK.out.1 q3 (by omega) (room_out HOK.out.2 (by omega))).mono (R' := fun e w2 => e = .returned (.int .i64 ((s.answer q3).2 : Int)) ∧ Hid (PSAny w w2 w.heap.size w1.heap.size (s.answer q3).1 s (fun g => g = X)) ∧ w2.cell? ⟨X, 3, none⟩ = some (.string q3) ∧ X < w2.heap.size) (fun e w2 ⟨he, hst⟩ => by
              have hx := hst.obj ((hb.block X hXz).trans HX1.out) rfl
              exact ⟨he, Lib.hid hst.1, cell_of_row _ _ _ _ _ _ hx, (Array.getElem?_eq_some_iff.1 hx).1⟩))
            have HA2 := Lib.hid (fun (w2 : World) (h : PSAny w w2 w.heap.size w1.heap.size (s.answer q3).1 s (fun g => g = X)) (W : World) (hb : Below w2.heap.size w2 W) => (prAnswer (h.none.below hb) (fun g e => e.elim) H5.out HOK.out.1 q3 (by omega) (room_out HOK.out.2 (by omega))).mono (R' := fun e w3 => e = .returned (.int .i64 ((s.answer q3).2 : Int)) ∧ Hid (PSAny w w3 w.heap.size w1.heap.size (s.answer q3).1 (s.answer q3).1 (fun _ => False))) (fun e w3 ⟨he, hst⟩ => ⟨he, Lib.hid hst.1⟩))
            have HOK := Lib.hid (show ((s.answer q3).1).Ok ∧ ((s.answer q3).1).Room (5 * actsW (l.take (k + 1)) + 48 * (k + 1)) from ⟨(answer_ok q3 HOK.out.1 HOK.out.2).1, by rw [HF1.out]; exact ((answer_ok q3 HOK.out.1 HOK.out.2).2).mono (by omega)⟩)
            clear HBC HX1 HXN HPS1
            obtain ⟨s4, hs4⟩ : ∃ x, (s.answer q3).1 = x := ⟨_, rfl⟩
            obtain ⟨e4, he4⟩ : ∃ x, (s.answer q3).2 = x := ⟨_, rfl⟩
            rw [hs4] at HOK
            rw [hs4, he4] at HA1 HA2
            have hee : ((e4 : Int) != (e4 : Int)) = false := by simp
            clear hs4 he4
            go_region_with (first
              | (go_at_call 28; refine (HA1.out _ (by repeat (first | with_reducible exact Below.refl _ _ | with_reducible refine below_drewN ?_ _ | with_reducible refine Below.drew ?_ | with_reducible refine Below.alloc ?_ (by first | (simp; done) | (simp; omega)) _ | with_reducible refine Below.setCell ?_ (by first | (simp; done) | (simp; omega)) _))).mono ?_; rintro ee w2 ⟨rfl, HP2, x3b, hz2⟩)
              | (go_at_call 11; refine (num_c _ _).mono ?_; rintro ee w' ⟨rfl, rfl⟩)
              | (go_at_call 29; refine (HA2.out w2 HP2.out _ (by repeat (first | with_reducible exact Below.refl _ _ | with_reducible refine below_drewN ?_ _ | with_reducible refine Below.drew ?_ | with_reducible refine Below.alloc ?_ (by first | (simp; done) | (simp; omega)) _ | with_reducible refine Below.setCell ?_ (by first | (simp; done) | (simp; omega)) _))).mono ?_; rintro ee w3 ⟨rfl, HPS⟩))
            all_goals (
              obtain ⟨c2, c3, hR2⟩ := prCells HPS.out
              have HO := Lib.hid (fun n => psOpen (HPS.out.below (below_drewN' w3 n)))
              have HY := Lib.hid (fun n => psWhy (HPS.out.below (below_drewN' w3 n)))
              have HB := Lib.hid (fun n => HPS.out.below (below_drewN' w3 n))
              obtain ⟨cl, hcl⟩ : ∃ b, (s4).closed = b := ⟨_, rfl⟩
              obtain ⟨y, hy⟩ : ∃ b, (s4).why = b := ⟨_, rfl⟩
              rw [hcl] at c2 HO
              rw [hy] at c3 HY
              have hxx : ((!cl) == cl) = false := by cases cl <;> rfl
              have hyy : ((y : Int) != (y : Int)) = false := by simp
              clear hcl hy
              go_wp2
              go_quiet ((first | (go_at_call 32; exact Calls.quiet_of_same (HO.out _)) | (go_at_call 33; exact Calls.quiet_of_same (HY.out _)) | (go_at_call 11; exact Calls.quiet_of_same ((num_c _ _).mono (fun e w' h => ⟨h.1, h.2.symm⟩)))))
              go_wp2
              go_roundw
              case rel => exact ⟨k + 1, _, by omega, by go_num, Lib.hid (HB.out nq), HOK⟩
              case measure => simp [intOf]; omega)
          · by_cases k7 : q0 = 7
            · subst k7
              clear k1 k2 k3
              go_wp2
              clear a0 a1 a2 a3
              generalize wr.alloc (.cells #[.int .i64 7, .slice Ar q1 cr, .slice Am q2 cm, .string q3] 48) = W1 at *
              generalize wr.heap.size = X at *
              have HO1 := Lib.hid (fun (W : World) (hb : Below W1.heap.size W1 W) => (psOut (HPS1.out.below hb) (fun g e => e.elim)).mono (R' := fun e w2 => ∃ Ao co, e = .returned (.slice Ao s.out.length co) ∧ Hid (BSlab w2 (.slice Ao s.out.length co) s.out ∧ PSAny w w2 w.heap.size w1.heap.size { s with out := [] } s (fun g => (Value.slice Ao s.out.length co).ownBlock = some g))) (fun e w2 ⟨v, he, hs, _, hst⟩ => by
                obtain ⟨Ao, co, hvo, _⟩ := Slab.form hs
                subst hvo
                exact ⟨Ao, co, he, Lib.hid ⟨hs, hst.with (fun g e => .inl (.inr e))⟩⟩))
              have HO2 := Lib.hid (fun (w2 : World) (Ao : Option Addr) (co : Nat) (h : BSlab w2 (.slice Ao s.out.length co) s.out ∧ PSAny w w2 w.heap.size w1.heap.size { s with out := [] } s (fun g => (Value.slice Ao s.out.length co).ownBlock = some g)) (W : World) (hb : Below w2.heap.size w2 W) => (prSent (h.2.below hb) (fun g e => Nat.lt_of_lt_of_le (Slab.lt h.1 e) hb.size) H5.out).mono (R' := fun e w3 => ∃ At ct, e = .returned (.slice At s.out.length ct) ∧ Hid (Calls Tryd.prog 17 #[.slice Ao s.out.length co, .slice At s.out.length ct] w3 (fun e w' => e = .returned (.bool true) ∧ w3 = w')) ∧ Hid (PSAny w w3 w.heap.size w1.heap.size { s with out := [] } { s with out := [] } (fun _ => False))) (fun e w3 ⟨v, he, hs, hst⟩ => by
                obtain ⟨At, ct, hvt, _⟩ := Slab.form hs
                subst hvt
                have hs1 : BSlab w3 (.slice Ao s.out.length co) s.out := hst.slab (Slab.below h.1 hb) (fun g e => e)
                have hsm := same_c Ao At s.out s.out co ct w3 hs1.inn hs.inn
                rw [show (s.out == s.out) = true by simp] at hsm
                exact ⟨At, ct, he, Lib.hid hsm, Lib.hid hst.1.none⟩))
              have HOK := Lib.hid (show ({ s with out := [] } : Sv).Ok ∧ ({ s with out := [] } : Sv).Room (5 * actsW (l.take (k + 1)) + 48 * (k + 1)) from ⟨out_ok HOK.out.1, by rw [HF1.out]; exact (out_room HOK.out.2).mono (by omega)⟩)
              clear HBC HX1 HXN HPS1
              go_region_with (first
                | (go_at_call 30; refine (HO1.out _ (by repeat (first | with_reducible exact Below.refl _ _ | with_reducible refine below_drewN ?_ _ | with_reducible refine Below.drew ?_ | with_reducible refine Below.alloc ?_ (by first | (simp; done) | (simp; omega)) _ | with_reducible refine Below.setCell ?_ (by first | (simp; done) | (simp; omega)) _))).mono ?_; rintro ee w2 ⟨Ao, co, rfl, HP2⟩)
                | (go_at_call 31; refine (HO2.out w2 Ao co HP2.out _ (by repeat (first | with_reducible exact Below.refl _ _ | with_reducible refine below_drewN ?_ _ | with_reducible refine Below.drew ?_ | with_reducible refine Below.alloc ?_ (by first | (simp; done) | (simp; omega)) _ | with_reducible refine Below.setCell ?_ (by first | (simp; done) | (simp; omega)) _))).mono ?_; rintro ee w3 ⟨At, ct, rfl, HSM, HPS⟩)
                | (go_at_call 17; refine HSM.out.mono ?_; rintro ee w' ⟨rfl, rfl⟩))
              all_goals (
                obtain ⟨c2, c3, hR2⟩ := prCells HPS.out
                have HO := Lib.hid (fun n => psOpen (HPS.out.below (below_drewN' w3 n)))
                have HY := Lib.hid (fun n => psWhy (HPS.out.below (below_drewN' w3 n)))
                have HB := Lib.hid (fun n => HPS.out.below (below_drewN' w3 n))
                obtain ⟨cl, hcl⟩ : ∃ b, ({ s with out := [] } : Sv).closed = b := ⟨_, rfl⟩
                obtain ⟨y, hy⟩ : ∃ b, ({ s with out := [] } : Sv).why = b := ⟨_, rfl⟩
                rw [hcl] at c2 HO
                rw [hy] at c3 HY
                have hxx : ((!cl) == cl) = false := by cases cl <;> rfl
                have hyy : ((y : Int) != (y : Int)) = false := by simp
                clear hcl hy
                go_wp2
                go_quiet ((first | (go_at_call 32; exact Calls.quiet_of_same (HO.out _)) | (go_at_call 33; exact Calls.quiet_of_same (HY.out _)) | (go_at_call 11; exact Calls.quiet_of_same ((num_c _ _).mono (fun e w' h => ⟨h.1, h.2.symm⟩)))))
                go_wp2
                go_roundw
                case rel => exact ⟨k + 1, _, by omega, by go_num, Lib.hid (HB.out nq), HOK⟩
                case measure => simp [intOf]; omega)
            · skip
              have h1 : (q0 == 1) = false := by rw [beq_eq_false_iff_ne]; exact k1
              have h2 : (q0 == 2) = false := by rw [beq_eq_false_iff_ne]; exact k2
              have h3 : (q0 == 3) = false := by rw [beq_eq_false_iff_ne]; exact k3
              have h7 : (q0 == 7) = false := by rw [beq_eq_false_iff_ne]; exact k7
              clear k1 k2 k3 k7
              have HPS := HPS1
              have HOK := Lib.hid (show (s).Ok ∧ (s).Room (5 * actsW (l.take (k + 1)) + 48 * (k + 1)) from ⟨HOK.out.1, by rw [HF1.out]; exact (HOK.out.2).mono (by omega)⟩)
              go_wp2
              clear a0 a1 a2 a3
              generalize wr.alloc (.cells #[.int .i64 q0, .slice Ar q1 cr, .slice Am q2 cm, .string q3] 48) = W1 at *
              generalize wr.heap.size = X at *
              obtain ⟨c2, c3, hR2⟩ := prCells HPS.out
              have HO := Lib.hid (fun n => psOpen (HPS.out.below (below_drewN' W1 n)))
              have HY := Lib.hid (fun n => psWhy (HPS.out.below (below_drewN' W1 n)))
              have HB := Lib.hid (fun n => HPS.out.below (below_drewN' W1 n))
              obtain ⟨cl, hcl⟩ : ∃ b, (s).closed = b := ⟨_, rfl⟩
              obtain ⟨y, hy⟩ : ∃ b, (s).why = b := ⟨_, rfl⟩
              rw [hcl] at c2 HO
              rw [hy] at c3 HY
              have hxx : ((!cl) == cl) = false := by cases cl <;> rfl
              have hyy : ((y : Int) != (y : Int)) = false := by simp
              clear hcl hy
              go_wp2
              go_quiet ((first | (go_at_call 32; exact Calls.quiet_of_same (HO.out _)) | (go_at_call 33; exact Calls.quiet_of_same (HY.out _)) | (go_at_call 11; exact Calls.quiet_of_same ((num_c _ _).mono (fun e w' h => ⟨h.1, h.2.symm⟩)))))
              go_wp2
              go_roundw
              case rel => exact ⟨k + 1, _, by omega, by go_num, Lib.hid (HB.out nq), HOK⟩
              case measure => simp [intOf]; omega
    · skip
      obtain rfl : k = l.length := by omega
      have HO1 := Lib.hid (fun (W : World) (hb : Below wr.heap.size wr W) => (psOut (HPS.out.below hb) (fun g e => e.elim)).mono (R' := fun e w2 => ∃ Ao co, e = .returned (.slice Ao s.out.length co) ∧ Hid (BSlab w2 (.slice Ao s.out.length co) s.out ∧ PSAny w w2 w.heap.size w1.heap.size { s with out := [] } s (fun g => (Value.slice Ao s.out.length co).ownBlock = some g))) (fun e w2 ⟨v, he, hs, _, hst⟩ => by
        obtain ⟨Ao, co, hvo, _⟩ := Slab.form hs
        subst hvo
        exact ⟨Ao, co, he, Lib.hid ⟨hs, hst.with (fun g e => .inl (.inr e))⟩⟩))
      have HO2 := Lib.hid (fun (w2 : World) (Ao : Option Addr) (co : Nat) (h : BSlab w2 (.slice Ao s.out.length co) s.out ∧ PSAny w w2 w.heap.size w1.heap.size { s with out := [] } s (fun g => (Value.slice Ao s.out.length co).ownBlock = some g)) (W : World) (hb : Below w2.heap.size w2 W) => (prSent (h.2.below hb) (fun g e => Nat.lt_of_lt_of_le (Slab.lt h.1 e) hb.size) H5.out).mono (R' := fun e w3 => ∃ At ct, e = .returned (.slice At s.out.length ct) ∧ Hid (Calls Tryd.prog 17 #[.slice Ao s.out.length co, .slice At s.out.length ct] w3 (fun e w' => e = .returned (.bool true) ∧ w3 = w')) ∧ Hid (PSAny w w3 w.heap.size w1.heap.size { s with out := [] } { s with out := [] } (fun _ => False))) (fun e w3 ⟨v, he, hs, hst⟩ => by
        obtain ⟨At, ct, hvt, _⟩ := Slab.form hs
        subst hvt
        have hs1 : BSlab w3 (.slice Ao s.out.length co) s.out := hst.slab (Slab.below h.1 hb) (fun g e => e)
        have hsm := same_c Ao At s.out s.out co ct w3 hs1.inn hs.inn
        rw [show (s.out == s.out) = true by simp] at hsm
        exact ⟨At, ct, he, Lib.hid hsm, Lib.hid hst.1.none⟩))

      go_wp2
      go_region_with (first
        | (go_at_call 30; refine (HO1.out _ (by repeat (first | with_reducible exact Below.refl _ _ | with_reducible refine below_drewN ?_ _ | with_reducible refine Below.drew ?_ | with_reducible refine Below.alloc ?_ (by first | (simp; done) | (simp; omega)) _ | with_reducible refine Below.setCell ?_ (by first | (simp; done) | (simp; omega)) _))).mono ?_; rintro ee w2 ⟨Ao, co, rfl, HP2⟩)
        | (go_at_call 31; refine (HO2.out w2 Ao co HP2.out _ (by repeat (first | with_reducible exact Below.refl _ _ | with_reducible refine below_drewN ?_ _ | with_reducible refine Below.drew ?_ | with_reducible refine Below.alloc ?_ (by first | (simp; done) | (simp; omega)) _ | with_reducible refine Below.setCell ?_ (by first | (simp; done) | (simp; omega)) _))).mono ?_; rintro ee w3 ⟨At, ct, rfl, HSM, HPS⟩)
        | (go_at_call 17; refine HSM.out.mono ?_; rintro ee w' ⟨rfl, rfl⟩)
        | (go_at_call 12; refine (HL.out _ HPS.out.bl).mono ?_; rintro ee w4 ⟨rfl, hb4⟩))
      all_goals (
        go_wp2
        go_ret
        exact ⟨rfl, hb4⟩)
end Go.Proofs.YtkpickojeghppaaDoor
