/- The walk of the law WireAsks. Conditions: what comes in is of bulk at most 1048576. -/
import Derived.Test.YtkpickojeghppaaDoorWpc
namespace Go.Proofs.YtkpickojeghppaaDoor
open Go.RowKit
theorem actsW_taken {l : List ActP} {k : Nat} (h : k < l.length) : actsW (l.take (k + 1)) = actsW (l.take k) + ((l[k]).wt + 1) := by
  unfold actsW
  rw [List.take_succ_eq_append_getElem h, List.map_append, List.sum_append]
  simp
theorem actsW_taken_le (l : List ActP) (k : Nat) : actsW (l.take k) ≤ actsW l := by
  have h : actsW l = actsW (l.take k) + actsW (l.drop k) := by
    unfold actsW
    rw [← List.sum_append, ← List.map_append, List.take_append_drop]
  omega
theorem pc_start {w W w1 w2 : World} {U V : CV} {c : Cl} {R2 : Nat} (hT : WTabs w) (hb : Below w.heap.size w W) (hs : CK.At w1 W.heap.size U c) (hb1 : Below W.heap.size W w1) (hF : ∀ g, CK.F W.heap.size U c g → W.heap.size ≤ g)
    (hr : RCK.At w2 w1.heap.size V c) (hb2 : Below w1.heap.size w1 w2) (hG : ∀ g, RCK.F w1.heap.size V c g → w1.heap.size ≤ g) (hR : R2 = w1.heap.size) : PCAny w w2 W.heap.size R2 c c (fun _ => False) := by
  subst hR
  have h1 := hb.size
  have h5 := hT.size
  have hz := hb1.size
  have T2 := ((hT.below hb).below hb1).below hb2
  exact ⟨U, V, ⟨⟨StAt.below hs hb2, T2, fun g hg => by have := hF g hg; omega⟩, hr, fun g hg hg2 => by have := EK.F_lt hs g hg; have := hG g hg2; omega, fun g hg => by have := hF g hg; omega, fun g hg => by have := hG g hg; omega, hb.trans ((hb1.mono h1).trans (hb2.mono (Nat.le_trans h1 hz)))⟩, fun g e => e.elim⟩
set_option maxRecDepth 100000 in
set_option maxHeartbeats 16000000 in
theorem wireAsks_c (sums : Bool) (A : Option Addr) (c : Nat) (l : List ActP) (hcm : l.length ≤ maxLen) (hw : actsW l ≤ 1048576) (w : World) (h : ActsIn w A l) (hT : WTabs w) :
    Calls Tryd.prog 8 #[.bool sums, .slice A l.length c] w fun r w' => r = .returned (.bool true) ∧ Below w.heap.size w w' := by
  have HL := Lib.hid (fun (W : World) (hb : Below w.heap.size w W) => (live_c W (hT.below hb)).mono (R' := fun e w' => e = .returned (.bool true) ∧ Below w.heap.size w w') (fun e w' ⟨he, h⟩ => ⟨he, hb.trans (h.mono hb.size)⟩))
  have HT := Lib.hid hT
  have HA := Lib.hid h
  have H5 := Lib.hid hT.size
  have HLG := Lib.hid (long_c A c l (by omega) w h)
  have hll := (actsW_le l).2
  clear hT h
  unfold maxLen at hcm
  cases hlg : longB l with
  | true =>
    rw [hlg] at HLG
    go_enter Tryd.func8, Tryd.ntmps8
    go_wp2_with (go_at_call 20; refine HLG.out.mono ?_; rintro e w' ⟨rfl, nq, rfl⟩)
    go_ret
    exact ⟨rfl, below_drewN' w _⟩
  | false =>
  rw [hlg] at HLG
  have hl300 : l.length ≤ 300 := by
    unfold longB at hlg
    simp only [Bool.or_eq_false_iff, decide_eq_false_iff_not] at hlg
    omega
  clear hlg
  go_enter Tryd.func8, Tryd.ntmps8
  go_wp2_with (first
    | (go_at_call 20; refine HLG.out.mono ?_; rintro e w' ⟨rfl, nq, rfl⟩)
    | (go_at_call 34; refine (newClient_c sums _).mono ?_; rintro e w1 ⟨U0, rfl, hs1, hb1, hf1⟩; have HS1 := Lib.hid (And.intro hs1 (And.intro hb1 hf1)); clear hs1 hb1 hf1)
    | (go_at_call 35; refine (rcNew_c sums _).mono ?_; rintro e w2 ⟨V0, rfl, hs2, hb2, hf2⟩; have HS2 := Lib.hid (And.intro hs2 (And.intro hb2 hf2)); clear hs2 hb2 hf2))
  have HP0 := Lib.hid (show PCAny w w2 w.heap.size w1.heap.size (cl0 sums) (cl0 sums) (fun _ => False) from pc_start (W := w.drewN nq) HT.out (below_drewN' w nq) HS1.out.1 HS1.out.2.1 HS1.out.2.2 HS2.out.1 HS2.out.2.1 HS2.out.2.2 rfl)
  clear HS1 HS2
  go_loopw [7] (fun i wr => ∃ (k : Nat) (s : Cl), k ≤ l.length ∧ i = .int .i64 k ∧ Hid (PCAny w wr w.heap.size w1.heap.size s s (fun _ => False)) ∧ Hid (s.Good (5 * actsW (l.take k)) k)) (fun i _ => l.length - (intOf i).toNat)
  case atStart => exact ⟨0, _, Nat.zero_le _, rfl, HP0, Lib.hid ((cl0_good sums).mono (Nat.zero_le _) (Nat.le_refl _))⟩
  case round =>
    obtain ⟨k, s, hk, rfl, HPS, HOK⟩ := hrel
    by_cases hlt : k < l.length
    · obtain ⟨G, o, rfl, hr⟩ : ∃ G o, A = some ⟨G, o, none⟩ ∧ ∀ i (h : i < l.length), ∃ Ar cr Am cm, ActV w l[i] Ar cr Am cm ∧ w.rangeAt G (o + i * 4) (actV l[i] Ar cr Am cm) := by
        rcases HA.out with h | h
        · rw [h] at hlt; simp at hlt
        · exact h
      obtain ⟨Ar, cr, Am, cm, hv0, hc0⟩ := hr k hlt
      have hc := rangeAt_below hc0 HPS.out.bl
      have hwt := actsW_get hlt
      have hbz := (l[k]).bytes_size
      have htk := actsW_taken hlt
      have htl := actsW_taken_le l (k + 1)
      have HV0 := Lib.hid hv0
      clear hr hv0 hc0
      have hbody : (l[k]).body.size ≤ 1048576 := by have : (l[k]).body.size ≤ (l[k]).wt := (by unfold ActP.wt; omega); omega
      generalize l[k] = a at *
      have a0 : wr.cell? ⟨G, o + k * 4, none⟩ = some (.int .i64 a.kind) := hc 0 _ rfl
      have a1 : wr.cell? ⟨G, o + k * 4 + 1, none⟩ = some (.slice Ar a.raw.length cr) := hc 1 _ rfl
      have a2 : wr.cell? ⟨G, o + k * 4 + 2, none⟩ = some (.slice Am a.ms.length cm) := hc 2 _ rfl
      have a3 : wr.cell? ⟨G, o + k * 4 + 3, none⟩ = some (.string a.body) := hc 3 _ rfl
      have HBC := Lib.hid (fun (W : World) (hb : Below w.heap.size w W) => show Calls Tryd.prog 21 #[.agg #[.int .i64 a.kind, .slice Ar a.raw.length cr, .slice Am a.ms.length cm, .string a.body]] W _ from bytes_c a Ar cr Am cm (by omega) W (HV0.out.below hb))
      have HX1 := Lib.hid (heap_alloc_new wr (.cells #[.int .i64 a.kind, .slice Ar a.raw.length cr, .slice Am a.ms.length cm, .string a.body] 48))
      have HPS1 := Lib.hid (HPS.out.below ((Below.refl _ _).alloc (Nat.le_refl _) (.cells #[.int .i64 a.kind, .slice Ar a.raw.length cr, .slice Am a.ms.length cm, .string a.body] 48)))
      have hXz : wr.heap.size < (wr.alloc (.cells #[.int .i64 a.kind, .slice Ar a.raw.length cr, .slice Am a.ms.length cm, .string a.body] 48)).heap.size := by simp
      have HXN := Lib.hid (show PCAny w (wr.alloc (.cells #[.int .i64 a.kind, .slice Ar a.raw.length cr, .slice Am a.ms.length cm, .string a.body] 48)) w.heap.size w1.heap.size s s (fun g => g = wr.heap.size) from (HPS.out.with (fun g e => .inr (by omega))).below ((Below.refl _ _).alloc (Nat.le_refl _) _))
      have hfb : 5 * actsW (l.take k) + a.bytes.length ≤ 5300000 := by omega
      have HF1 := Lib.hid (show 5 * actsW (l.take k) + a.bytes.length ≤ 5 * actsW (l.take (k + 1)) by omega)
      have hk300 : k ≤ 300 := by omega
      clear hc hwt htk htl HPS HV0
      generalize a.kind = q0 at *
      generalize a.raw.length = q1 at *
      generalize a.ms.length = q2 at *
      generalize a.body = q3 at *
      generalize a.bytes = p at *
      by_cases k1 : q0 = 1
      · subst k1
        go_wp2_with fail
        clear a0 a1 a2 a3
        generalize wr.alloc (.cells #[.int .i64 1, .slice Ar q1 cr, .slice Am q2 cm, .string q3] 48) = W1 at *
        generalize wr.heap.size = X at *
        refine (HBC.out W1 HPS1.out.bl).mono ?_; rintro e w2 ⟨v1, rfl, hs2, hb2, _⟩
        obtain ⟨A1, c1, hv1, hcc1, hcm1, _⟩ := Slab.form hs2
        subst hv1
        have HX2 := Lib.hid ((hb2.block X hXz).trans HX1.out)
        have HFD := Lib.hid (pcFeed (HXN.out.below hb2) (fun g e => by have := hb2.size; rw [e]; omega) (HOK.out.ok (by omega)) A1 c1 p hs2.inn (by have := HOK.out.room; omega))
        clear hs2 hb2
        go_wp2_with fail
        refine HFD.out.mono ?_; rintro e w3 ⟨rfl, hst3⟩
        have hx3 := hst3.obj HX2.out rfl
        have x0 : w3.cell? ⟨X, 0, none⟩ = some (.int .i64 1) := cell_of_row _ _ _ _ _ _ hx3
        have x1 : w3.cell? ⟨X, 1, none⟩ = some (.slice Ar q1 cr) := cell_of_row _ _ _ _ _ _ hx3
        have x2 : w3.cell? ⟨X, 2, none⟩ = some (.slice Am q2 cm) := cell_of_row _ _ _ _ _ _ hx3
        have x3 : w3.cell? ⟨X, 3, none⟩ = some (.string q3) := cell_of_row _ _ _ _ _ _ hx3
        have HP3 := Lib.hid hst3.1.none
        have HBC3 := Lib.hid (HBC.out w3 hst3.1.bl)
        clear hx3 hst3 HFD HX2
        go_wp2_with fail
        refine HBC3.out.mono ?_; rintro e w4 ⟨v4, rfl, hs4, hb4, _⟩
        obtain ⟨A4, c4, hv4, hcc4, hcm4, _⟩ := Slab.form hs4
        subst hv4
        have HFD4 := Lib.hid (qcFeed (HP3.out.below hb4) (fun g e => e.elim) H5.out (HOK.out.ok (by omega)) (.slice A4 p.length c4) p hs4 (by have := HOK.out.room; omega))
        clear hs4 hb4 x0 x1 x2 x3
        go_wp2_with fail
        refine HFD4.out.mono ?_; rintro e w5 ⟨rfl, hst5⟩
        have HPS := Lib.hid hst5.1
        have HOK := Lib.hid (show (s.feed p).Good (5 * actsW (l.take (k + 1))) (k + 1) from (feed_good HOK.out p (by omega) (by omega)).mono (by have := HF1.out; omega) (by omega))
        clear hst5
        obtain ⟨c2, c3, hR2⟩ := qcCells HPS.out
        have HO := Lib.hid (fun n => pcOpen (HPS.out.below (below_drewN' w5 n)))
        have HY := Lib.hid (fun n => pcWhy (HPS.out.below (below_drewN' w5 n)))
        have HB := Lib.hid (fun n => HPS.out.below (below_drewN' w5 n))
        obtain ⟨cl, hcl⟩ : ∃ b, (s.feed p).closed = b := ⟨_, rfl⟩
        obtain ⟨y, hy⟩ : ∃ b, (s.feed p).why = b := ⟨_, rfl⟩
        rw [hcl] at c2 HO
        rw [hy] at c3 HY
        have hxx : ((!cl) == cl) = false := by cases cl <;> rfl
        have hyy : ((y : Int) != (y : Int)) = false := by simp
        clear hcl hy
        go_wp2
        go_quiet ((first | (go_at_call 45; exact Calls.quiet_of_same (HO.out _)) | (go_at_call 46; exact Calls.quiet_of_same (HY.out _)) | (go_at_call 11; exact Calls.quiet_of_same ((num_c _ _).mono (fun e w' h => ⟨h.1, h.2.symm⟩)))))
        go_wp2
        go_roundw
        case rel => exact ⟨k + 1, _, by omega, by go_num, Lib.hid (HB.out nq), HOK⟩
        case measure => simp [intOf]; omega
      · by_cases k4 : q0 = 4
        · subst k4
          clear k1
          go_wp2_with fail
          clear a0 a1 a2 a3
          generalize wr.alloc (.cells #[.int .i64 4, .slice Ar q1 cr, .slice Am q2 cm, .string q3] 48) = W1 at *
          generalize wr.heap.size = X at *
          have HA1 := Lib.hid (pcAsk HXN.out (fun g e => by rw [e]; omega) (HOK.out.ok (by omega)) q3 (by omega) (by have := HOK.out.out; omega))
          have HA2 := Lib.hid (fun (w2 : World) (h : PCAny w w2 w.heap.size w1.heap.size (s.ask q3).1 s (fun _ => False)) => qcAsk h (fun g e => e.elim) H5.out (HOK.out.ok (by omega)) (by have := HOK.out.id1; omega) q3 (by omega) (by have := HOK.out.out; omega))
          have HOK := Lib.hid (show ((s.ask q3).1).Good (5 * actsW (l.take (k + 1))) (k + 1) from (ask_good HOK.out q3).mono (by have := HF1.out; omega) (by omega))
          obtain ⟨s4, hs4⟩ : ∃ x, (s.ask q3).1 = x := ⟨_, rfl⟩
          obtain ⟨xa, hxa⟩ : ∃ x, (s.ask q3).2.1 = x := ⟨_, rfl⟩
          obtain ⟨xe, hxe⟩ : ∃ x, (s.ask q3).2.2 = x := ⟨_, rfl⟩
          have hav : Cl.askV (s.ask q3) = .tuple #[.int .u32 (xa : Int), .int .i64 (xe : Int)] := by unfold Cl.askV; rw [hxa, hxe]
          rw [hs4] at HOK HA1 HA2
          rw [hav] at HA1 HA2
          clear hs4 hxa hxe hav HBC HPS1
          have hxa : ((xa : Int) != (xa : Int)) = false := by simp
          have hxe : ((xe : Int) != (xe : Int)) = false := by simp
          refine HA1.out.mono ?_; rintro e w2 ⟨rfl, hst2⟩
          have hx2 := hst2.obj HX1.out rfl
          have x3 : w2.cell? ⟨X, 3, none⟩ = some (.string q3) := cell_of_row _ _ _ _ _ _ hx2
          have HA3 := Lib.hid (HA2.out w2 hst2.1.none)
          clear hst2 hx2 HA2 HX1 HXN
          go_wp2_with fail
          refine HA3.out.mono ?_; rintro e w3 ⟨rfl, hst3⟩
          have HPS := Lib.hid hst3.1
          clear hst3 x3
          go_wp2_with (go_at_call 11; refine (num_c _ _).mono ?_; rintro ee w' ⟨rfl, rfl⟩)
          obtain ⟨c2, c3, hR2⟩ := qcCells HPS.out
          have HO := Lib.hid (fun n => pcOpen (HPS.out.below (below_drewN' w3 n)))
          have HY := Lib.hid (fun n => pcWhy (HPS.out.below (below_drewN' w3 n)))
          have HB := Lib.hid (fun n => HPS.out.below (below_drewN' w3 n))
          obtain ⟨cl, hcl⟩ : ∃ b, (s4).closed = b := ⟨_, rfl⟩
          obtain ⟨y, hy⟩ : ∃ b, (s4).why = b := ⟨_, rfl⟩
          rw [hcl] at c2 HO
          rw [hy] at c3 HY
          have hxx : ((!cl) == cl) = false := by cases cl <;> rfl
          have hyy : ((y : Int) != (y : Int)) = false := by simp
          clear hcl hy
          go_quiet ((first | (go_at_call 45; exact Calls.quiet_of_same (HO.out _)) | (go_at_call 46; exact Calls.quiet_of_same (HY.out _)) | (go_at_call 11; exact Calls.quiet_of_same ((num_c _ _).mono (fun e w' h => ⟨h.1, h.2.symm⟩)))))
          go_wp2
          go_roundw
          case rel => exact ⟨k + 1, _, by omega, by go_num, Lib.hid (HB.out nq), HOK⟩
          case measure => simp [intOf]; omega
        · by_cases k5 : q0 = 5
          · subst k5
            clear k1 k4
            go_wp2_with fail
            clear a0 a1 a2 a3
            generalize wr.alloc (.cells #[.int .i64 5, .slice Ar q1 cr, .slice Am q2 cm, .string q3] 48) = W1 at *
            generalize wr.heap.size = X at *
            have HA1 := Lib.hid (pcBye HPS1.out (fun g e => e.elim) (HOK.out.ok (by omega)) (by have := HOK.out.out; omega))
            have HA2 := Lib.hid (fun (w2 : World) (h : PCAny w w2 w.heap.size w1.heap.size s.part.1 s (fun _ => False)) => qcBye h (fun g e => e.elim) H5.out (HOK.out.ok (by omega)) (by have := HOK.out.id1; omega) (by have := HOK.out.out; omega))
            have HOK := Lib.hid (show (s.part.1).Good (5 * actsW (l.take (k + 1))) (k + 1) from (part_good HOK.out).mono (by have := HF1.out; omega) (by omega))
            obtain ⟨s4, hs4⟩ : ∃ x, s.part.1 = x := ⟨_, rfl⟩
            obtain ⟨xe, hxe⟩ : ∃ x, s.part.2 = x := ⟨_, rfl⟩
            rw [hs4] at HOK
            rw [hs4, hxe] at HA1 HA2
            clear hs4 hxe HBC HPS1 HX1 HXN
            have hee : ((xe : Int) != (xe : Int)) = false := by simp
            refine HA1.out.mono ?_; rintro e w2 ⟨rfl, hst2⟩
            have HA3 := Lib.hid (HA2.out w2 hst2.1)
            clear hst2 HA2
            go_wp2_with (first
              | (go_at_call 11; refine (num_c _ _).mono ?_; rintro ee w' ⟨rfl, rfl⟩)
              | (go_at_call 41; refine HA3.out.mono ?_; rintro e w3 ⟨rfl, hst3⟩; have HPS := Lib.hid hst3.1; clear hst3))
            obtain ⟨c2, c3, hR2⟩ := qcCells HPS.out
            have HO := Lib.hid (fun n => pcOpen (HPS.out.below (below_drewN' w3 n)))
            have HY := Lib.hid (fun n => pcWhy (HPS.out.below (below_drewN' w3 n)))
            have HB := Lib.hid (fun n => HPS.out.below (below_drewN' w3 n))
            obtain ⟨cl, hcl⟩ : ∃ b, (s4).closed = b := ⟨_, rfl⟩
            obtain ⟨y, hy⟩ : ∃ b, (s4).why = b := ⟨_, rfl⟩
            rw [hcl] at c2 HO
            rw [hy] at c3 HY
            have hxx : ((!cl) == cl) = false := by cases cl <;> rfl
            have hyy : ((y : Int) != (y : Int)) = false := by simp
            clear hcl hy
            go_quiet ((first | (go_at_call 45; exact Calls.quiet_of_same (HO.out _)) | (go_at_call 46; exact Calls.quiet_of_same (HY.out _)) | (go_at_call 11; exact Calls.quiet_of_same ((num_c _ _).mono (fun e w' h => ⟨h.1, h.2.symm⟩)))))
            go_wp2
            go_roundw
            case rel => exact ⟨k + 1, _, by omega, by go_num, Lib.hid (HB.out nq), HOK⟩
            case measure => simp [intOf]; omega
          · by_cases k6 : q0 = 6
            · subst k6
              clear k1 k4 k5
              go_wp2_with fail
              clear a0 a1 a2 a3
              generalize wr.alloc (.cells #[.int .i64 6, .slice Ar q1 cr, .slice Am q2 cm, .string q3] 48) = W1 at *
              generalize wr.heap.size = X at *
              obtain ⟨xa, xb, xc, hxv⟩ := reply_form s
              have HN1 := Lib.hid (pcReply HPS1.out (fun g e => e.elim))
              have HN2 := Lib.hid (fun (W : World) (h : PCAny w W w.heap.size w1.heap.size s.reply.1 s (fun _ => False)) => qcReply h (fun g e => e.elim) H5.out)
              rw [hxv] at HN1 HN2
              have hxa : ((xa : Int) != (xa : Int)) = false := by simp
              have hxb : (xb.toList == xb.toList) = true := by simp
              have hxb2 : (xb.toList != xb.toList) = false := by simp
              have hxc : (xc != xc) = false := by simp
              clear hxv HBC HX1 HXN
              refine HN1.out.mono ?_; rintro e w2 ⟨rfl, hst2⟩
              have HN3 := Lib.hid (HN2.out w2 hst2.1)
              clear hst2 HN2
              go_wp2_with fail
              refine HN3.out.mono ?_; rintro e w3 ⟨rfl, hst3⟩
              have HPS := Lib.hid hst3.1
              have HOK := Lib.hid (show (s.reply.1).Good (5 * actsW (l.take (k + 1))) (k + 1) from (reply_good HOK.out).mono (by have := HF1.out; omega) (by omega))
              clear hst3
              obtain ⟨c2, c3, hR2⟩ := qcCells HPS.out
              have HO := Lib.hid (fun n => pcOpen (HPS.out.below (below_drewN' w3 n)))
              have HY := Lib.hid (fun n => pcWhy (HPS.out.below (below_drewN' w3 n)))
              have HB := Lib.hid (fun n => HPS.out.below (below_drewN' w3 n))
              obtain ⟨cl, hcl⟩ : ∃ b, (s.reply.1).closed = b := ⟨_, rfl⟩
              obtain ⟨y, hy⟩ : ∃ b, (s.reply.1).why = b := ⟨_, rfl⟩
              rw [hcl] at c2 HO
              rw [hy] at c3 HY
              have hxx : ((!cl) == cl) = false := by cases cl <;> rfl
              have hyy : ((y : Int) != (y : Int)) = false := by simp
              clear hcl hy
              go_wp2
              go_quiet ((first | (go_at_call 45; exact Calls.quiet_of_same (HO.out _)) | (go_at_call 46; exact Calls.quiet_of_same (HY.out _)) | (go_at_call 11; exact Calls.quiet_of_same ((num_c _ _).mono (fun e w' h => ⟨h.1, h.2.symm⟩)))))
              go_wp2
              go_roundw
              case rel => exact ⟨k + 1, _, by omega, by go_num, Lib.hid (HB.out nq), HOK⟩
              case measure => simp [intOf]; omega
            · by_cases k7 : q0 = 7
              · subst k7
                clear k1 k4 k5 k6
                go_wp2
                clear a0 a1 a2 a3
                generalize wr.alloc (.cells #[.int .i64 7, .slice Ar q1 cr, .slice Am q2 cm, .string q3] 48) = W1 at *
                generalize wr.heap.size = X at *
                have HO1 := Lib.hid (fun (W : World) (hb : Below W1.heap.size W1 W) => (pcOut (HPS1.out.below hb) (fun g e => e.elim)).mono (R' := fun e w2 => ∃ Ao co, e = .returned (.slice Ao s.out.length co) ∧ Hid (BSlab w2 (.slice Ao s.out.length co) s.out ∧ PCAny w w2 w.heap.size w1.heap.size { s with out := [] } s (fun g => (Value.slice Ao s.out.length co).ownBlock = some g))) (fun e w2 ⟨v, he, hs, hst⟩ => by
                  obtain ⟨Ao, co, hvo, _⟩ := Slab.form hs
                  subst hvo
                  exact ⟨Ao, co, he, Lib.hid ⟨hs, hst.with (fun g e => .inl (.inr e))⟩⟩))
                have HO2 := Lib.hid (fun (w2 : World) (Ao : Option Addr) (co : Nat) (h : BSlab w2 (.slice Ao s.out.length co) s.out ∧ PCAny w w2 w.heap.size w1.heap.size { s with out := [] } s (fun g => (Value.slice Ao s.out.length co).ownBlock = some g)) (W : World) (hb : Below w2.heap.size w2 W) => (qcSent (h.2.below hb) (fun g e => Nat.lt_of_lt_of_le (Slab.lt h.1 e) hb.size) H5.out).mono (R' := fun e w3 => ∃ At ct, e = .returned (.slice At s.out.length ct) ∧ Hid (Calls Tryd.prog 17 #[.slice Ao s.out.length co, .slice At s.out.length ct] w3 (fun e w' => e = .returned (.bool true) ∧ w3 = w')) ∧ Hid (PCAny w w3 w.heap.size w1.heap.size { s with out := [] } { s with out := [] } (fun _ => False))) (fun e w3 ⟨v, he, hs, hst⟩ => by
                  obtain ⟨At, ct, hvt, _⟩ := Slab.form hs
                  subst hvt
                  have hs1 : BSlab w3 (.slice Ao s.out.length co) s.out := hst.slab (Slab.below h.1 hb) (fun g e => e)
                  have hsm := same_c Ao At s.out s.out co ct w3 hs1.inn hs.inn
                  rw [show (s.out == s.out) = true by simp] at hsm
                  exact ⟨At, ct, he, Lib.hid hsm, Lib.hid hst.1.none⟩))
                have HOK := Lib.hid (show ({ s with out := [] } : Cl).Good (5 * actsW (l.take (k + 1))) (k + 1) from (cout_good HOK.out).mono (by have := HF1.out; omega) (by omega))
                clear HBC HX1 HXN HPS1
                go_region_with (first
                  | (go_at_call 44; refine (HO1.out _ (by repeat (first | with_reducible exact Below.refl _ _ | with_reducible refine below_drewN ?_ _ | with_reducible refine Below.drew ?_ | with_reducible refine Below.alloc ?_ (by first | (simp; done) | (simp; omega)) _ | with_reducible refine Below.setCell ?_ (by first | (simp; done) | (simp; omega)) _))).mono ?_; rintro ee w2 ⟨Ao, co, rfl, HP2⟩)
                  | (go_at_call 31; refine (HO2.out w2 Ao co HP2.out _ (by repeat (first | with_reducible exact Below.refl _ _ | with_reducible refine below_drewN ?_ _ | with_reducible refine Below.drew ?_ | with_reducible refine Below.alloc ?_ (by first | (simp; done) | (simp; omega)) _ | with_reducible refine Below.setCell ?_ (by first | (simp; done) | (simp; omega)) _))).mono ?_; rintro ee w3 ⟨At, ct, rfl, HSM, HPS⟩)
                  | (go_at_call 17; refine HSM.out.mono ?_; rintro ee w' ⟨rfl, rfl⟩))
                all_goals (
                  obtain ⟨c2, c3, hR2⟩ := qcCells HPS.out
                  have HO := Lib.hid (fun n => pcOpen (HPS.out.below (below_drewN' w3 n)))
                  have HY := Lib.hid (fun n => pcWhy (HPS.out.below (below_drewN' w3 n)))
                  have HB := Lib.hid (fun n => HPS.out.below (below_drewN' w3 n))
                  obtain ⟨cl, hcl⟩ : ∃ b, ({ s with out := [] } : Cl).closed = b := ⟨_, rfl⟩
                  obtain ⟨y, hy⟩ : ∃ b, ({ s with out := [] } : Cl).why = b := ⟨_, rfl⟩
                  rw [hcl] at c2 HO
                  rw [hy] at c3 HY
                  have hxx : ((!cl) == cl) = false := by cases cl <;> rfl
                  have hyy : ((y : Int) != (y : Int)) = false := by simp
                  clear hcl hy
                  go_wp2
                  go_quiet ((first | (go_at_call 45; exact Calls.quiet_of_same (HO.out _)) | (go_at_call 46; exact Calls.quiet_of_same (HY.out _)) | (go_at_call 11; exact Calls.quiet_of_same ((num_c _ _).mono (fun e w' h => ⟨h.1, h.2.symm⟩)))))
                  go_wp2
                  go_roundw
                  case rel => exact ⟨k + 1, _, by omega, by go_num, Lib.hid (HB.out nq), HOK⟩
                  case measure => simp [intOf]; omega)
              · skip
                have h1 : (q0 == 1) = false := by rw [beq_eq_false_iff_ne]; exact k1
                have h4 : (q0 == 4) = false := by rw [beq_eq_false_iff_ne]; exact k4
                have h5 : (q0 == 5) = false := by rw [beq_eq_false_iff_ne]; exact k5
                have h6 : (q0 == 6) = false := by rw [beq_eq_false_iff_ne]; exact k6
                have h7 : (q0 == 7) = false := by rw [beq_eq_false_iff_ne]; exact k7
                clear k1 k4 k5 k6 k7
                have HPS := HPS1
                have HOK := Lib.hid (show (s).Good (5 * actsW (l.take (k + 1))) (k + 1) from (HOK.out).mono (by have := HF1.out; omega) (by omega))
                go_wp2
                clear a0 a1 a2 a3
                generalize wr.alloc (.cells #[.int .i64 q0, .slice Ar q1 cr, .slice Am q2 cm, .string q3] 48) = W1 at *
                generalize wr.heap.size = X at *
                obtain ⟨c2, c3, hR2⟩ := qcCells HPS.out
                have HO := Lib.hid (fun n => pcOpen (HPS.out.below (below_drewN' W1 n)))
                have HY := Lib.hid (fun n => pcWhy (HPS.out.below (below_drewN' W1 n)))
                have HB := Lib.hid (fun n => HPS.out.below (below_drewN' W1 n))
                obtain ⟨cl, hcl⟩ : ∃ b, (s).closed = b := ⟨_, rfl⟩
                obtain ⟨y, hy⟩ : ∃ b, (s).why = b := ⟨_, rfl⟩
                rw [hcl] at c2 HO
                rw [hy] at c3 HY
                have hxx : ((!cl) == cl) = false := by cases cl <;> rfl
                have hyy : ((y : Int) != (y : Int)) = false := by simp
                clear hcl hy
                go_wp2
                go_quiet ((first | (go_at_call 45; exact Calls.quiet_of_same (HO.out _)) | (go_at_call 46; exact Calls.quiet_of_same (HY.out _)) | (go_at_call 11; exact Calls.quiet_of_same ((num_c _ _).mono (fun e w' h => ⟨h.1, h.2.symm⟩)))))
                go_wp2
                go_roundw
                case rel => exact ⟨k + 1, _, by omega, by go_num, Lib.hid (HB.out nq), HOK⟩
                case measure => simp [intOf]; omega
    · skip
      obtain rfl : k = l.length := by omega
      have HO1 := Lib.hid (fun (W : World) (hb : Below wr.heap.size wr W) => (pcOut (HPS.out.below hb) (fun g e => e.elim)).mono (R' := fun e w2 => ∃ Ao co, e = .returned (.slice Ao s.out.length co) ∧ Hid (BSlab w2 (.slice Ao s.out.length co) s.out ∧ PCAny w w2 w.heap.size w1.heap.size { s with out := [] } s (fun g => (Value.slice Ao s.out.length co).ownBlock = some g))) (fun e w2 ⟨v, he, hs, hst⟩ => by
        obtain ⟨Ao, co, hvo, _⟩ := Slab.form hs
        subst hvo
        exact ⟨Ao, co, he, Lib.hid ⟨hs, hst.with (fun g e => .inl (.inr e))⟩⟩))
      have HO2 := Lib.hid (fun (w2 : World) (Ao : Option Addr) (co : Nat) (h : BSlab w2 (.slice Ao s.out.length co) s.out ∧ PCAny w w2 w.heap.size w1.heap.size { s with out := [] } s (fun g => (Value.slice Ao s.out.length co).ownBlock = some g)) (W : World) (hb : Below w2.heap.size w2 W) => (qcSent (h.2.below hb) (fun g e => Nat.lt_of_lt_of_le (Slab.lt h.1 e) hb.size) H5.out).mono (R' := fun e w3 => ∃ At ct, e = .returned (.slice At s.out.length ct) ∧ Hid (Calls Tryd.prog 17 #[.slice Ao s.out.length co, .slice At s.out.length ct] w3 (fun e w' => e = .returned (.bool true) ∧ w3 = w')) ∧ Hid (PCAny w w3 w.heap.size w1.heap.size { s with out := [] } { s with out := [] } (fun _ => False))) (fun e w3 ⟨v, he, hs, hst⟩ => by
        obtain ⟨At, ct, hvt, _⟩ := Slab.form hs
        subst hvt
        have hs1 : BSlab w3 (.slice Ao s.out.length co) s.out := hst.slab (Slab.below h.1 hb) (fun g e => e)
        have hsm := same_c Ao At s.out s.out co ct w3 hs1.inn hs.inn
        rw [show (s.out == s.out) = true by simp] at hsm
        exact ⟨At, ct, he, Lib.hid hsm, Lib.hid hst.1.none⟩))

      go_wp2
      go_region_with (first
        | (go_at_call 44; refine (HO1.out _ (by repeat (first | with_reducible exact Below.refl _ _ | with_reducible refine below_drewN ?_ _ | with_reducible refine Below.drew ?_ | with_reducible refine Below.alloc ?_ (by first | (simp; done) | (simp; omega)) _ | with_reducible refine Below.setCell ?_ (by first | (simp; done) | (simp; omega)) _))).mono ?_; rintro ee w2 ⟨Ao, co, rfl, HP2⟩)
        | (go_at_call 31; refine (HO2.out w2 Ao co HP2.out _ (by repeat (first | with_reducible exact Below.refl _ _ | with_reducible refine below_drewN ?_ _ | with_reducible refine Below.drew ?_ | with_reducible refine Below.alloc ?_ (by first | (simp; done) | (simp; omega)) _ | with_reducible refine Below.setCell ?_ (by first | (simp; done) | (simp; omega)) _))).mono ?_; rintro ee w3 ⟨At, ct, rfl, HSM, HPS⟩)
        | (go_at_call 17; refine HSM.out.mono ?_; rintro ee w' ⟨rfl, rfl⟩)
        | (go_at_call 12; refine (HL.out _ HPS.out.bl).mono ?_; rintro ee w4 ⟨rfl, hb4⟩))
      all_goals (
        go_wp2
        go_ret
        exact ⟨rfl, hb4⟩)
end Go.Proofs.YtkpickojeghppaaDoor
