/- The walk of feed (the client's), the loop walked. Conditions: what came and is kept is shorter than 2 to the 40. -/
import Derived.Test.YtkpickojeghppaaDoorWcfeed
namespace Go.Proofs.YtkpickojeghppaaDoor
open Go.RowKit
set_option maxRecDepth 20000 in
set_option maxHeartbeats 8000000 in
theorem clfeed_c (R : Nat) (V : CV) (s : Cl) (hok : s.Ok) (pv : Value) (p : List UInt8) (w : World) (hp : Src Tryd.prog 1 28 pv p.length (bytesV p) w) (hroom : s.came.length + (s.inp.length + p.length) ≤ 1099511627776) (hc : s.closed = false) (h : CK.X w R V s) :
    Calls Tryd.prog 56 #[.pointer (some ⟨R, 0, none⟩), pv] w (CK.Post R V s w (Cl.feedE ((s.inp ++ p).length + 1) { s with inp := s.inp ++ p }).1 (.int .i64 ((Cl.feedE ((s.inp ++ p).length + 1) { s with inp := s.inp ++ p }).2 : Int))) := by
  obtain ⟨⟨c0, _, c2, c3, _⟩, hf⟩ := cl_cells h.at_
  have f0 := hf 0
  rw [hc] at c2
  have hin := cl_in h.at_ hc
  have hRl := h.at_.ltR
  obtain ⟨vi, vo, vq, vr⟩ := V
  have HI := Lib.hid hin
  have HP := Lib.hid hp
  have H := Lib.hid h
  have HOK := Lib.hid hok
  have HCL := Lib.hid hc
  clear h hp hf hin hok hc
  go_enter Tryd.func56, Tryd.ntmps56
  go_wp2_with (at_builtin; refine wpList_slab bytTy 28 (by rfl) _ _ (by rfl) vi s.inp.length (bytesV s.inp) (by rfl) HI.out pv (by rfl) p.length (bytesV p) HP.out (by unfold maxLen; omega) (by omega) ?_; intro v2 w2 hs2 hu2; have hS2 : BSlab w2 v2 (s.inp ++ p) := (by unfold BSlab; rw [bytesV_append, List.length_append]; exact hs2); have ht2 : Turn (fun g => vi.ownBlock = some g) w w2 := (Turn.refl _ w).upd hu2 (fun g hg => .inl hg); have hn2 : ∀ g, v2.ownBlock = some g → vi.ownBlock = some g ∨ w.heap.size ≤ g := (fun g hg => hu2.own.elim (fun e => .inl (by rw [← e]; exact hg)) (fun ⟨q, e, hq⟩ => .inr (by rw [e] at hg; rw [← Option.some.inj hg]; exact hq))); have HC := Lib.hid (cl_came_in H.out.at_ ht2 hn2 (s.inp ++ p) hS2); have hb2 := ht2.obj H.out.at_.blk (fun e => H.out.at_.nR _ (.head _) e); have d0 := cell_of_row _ _ 0 _ _ _ hb2; have e0 := frozen_of_row _ _ 0 _ _ hb2; obtain ⟨A2, cap2, hv2, hc21, hc22, _⟩ := Slab.form hs2; subst hv2; clear hs2 hu2 hS2 ht2 hn2 hb2)
  have HF0 := Lib.hid (show FcAt (w2.setCell ⟨R, 0, none⟩ (.slice A2 (s.inp.length + p.length) cap2)) R ⟨.slice A2 (s.inp.length + p.length) cap2, vo, vq, vr⟩ w ⟨vi, vo, vq, vr⟩ { s with inp := s.inp ++ p } ((s.inp ++ p).length + 1) { s with inp := s.inp ++ p } ((s.inp ++ p).length + 1) s from
    ⟨H.out.of HC.out.1 HC.out.2.1 HC.out.2.2, HC.out.2.1, HC.out.2.2, Nat.lt_succ_self _, rfl, ⟨HOK.out.id, HOK.out.asked⟩, by show s.came.length + (s.inp ++ p).length ≤ _; rw [List.length_append]; exact hroom⟩)
  clear HC d0 e0 c0 c2 c3 f0
  go_loopw [5, 6, 7, 8] (fun _ _ _ _ wr => ∃ (s' : Cl) (n : Nat) (V' : CV), Hid (FcAt wr R V' w ⟨vi, vo, vq, vr⟩ { s with inp := s.inp ++ p } ((s.inp ++ p).length + 1) s' n s)) (fun _ _ _ _ wr => leftW R wr)
  case atStart => exact ⟨_, _, _, HF0⟩
  case round =>
    obtain ⟨s', n, V', HF⟩ := hrel
    obtain ⟨⟨c0, _, c2, c3, _, _, c6, _⟩, hf⟩ := cl_cells HF.out.x.at_
    have f0 := hf 0
    clear hf
    cases hcl : s'.closed with
    | true =>
      have HE := Lib.hid (cfeedE_stop n s' hcl)
      rw [hcl] at c2
      go_wp2
      go_ret
      exact HF.out.post HE.out HF.out.x.at_ (Turn.refl _ _) (fun _ hg => .inl hg)
    | false =>
      rw [hcl] at c2
      obtain ⟨vi', vo', vq', vr'⟩ := V'
      have hin' := cl_in HF.out.x.at_ hcl
      simp only at hin' c0
      obtain ⟨A3, cap3, rfl, hc31, hc32, hB⟩ := hin'.bytes
      have hil : s'.inp.length ≤ 1099511627776 := by have := HF.out.room; omega
      have hU := unpack_c A3 cap3 s'.inp hil hc31 wr hB
      obtain ⟨n, rfl⟩ : ∃ k, n = k + 1 := ⟨n - 1, by have := HF.out.fuel; omega⟩
      cases hu : unpack s'.inp with
      | bad ee =>
        rw [hu] at hU
        have HE := Lib.hid (cfeedE_bad n s' ee hcl hu)
        have hU' : Calls Tryd.prog 15 #[.slice A3 s'.inp.length cap3] wr (fun e w' => e = .returned (.tuple #[.agg #[.int .u32 0, .int .u32 0, .int .i64 0, .string ⟨#[]⟩, .bool false], .int .i64 0, .int .i64 (ee : Int)]) ∧ Below wr.heap.size wr w') := hU
        have HU := Lib.hid hU'
        clear hU hU' hB f0
        by_cases h3 : ee = 3
        · have HE3 := Lib.hid (HE.out.trans (if_pos h3))
          subst h3
          go_wp2_with fail
          refine HU.out.mono ?_; rintro e w2 ⟨rfl, hb2⟩
          have HB2 := Lib.hid hb2
          clear hb2
          go_wp2
          go_ret
          exact HF.out.post HE3.out (StAt.below HF.out.x.at_ (HB2.out.alloc HB2.out.size _)) (Turn.of_below (HB2.out.alloc HB2.out.size _)) (fun _ hg => .inl hg)
        · have HE3 := Lib.hid (HE.out.trans (if_neg h3))
          have k3 : ((ee : Int) == 3) = false := by rw [beq_eq_false_iff_ne]; omega
          have k0 : ((ee : Int) != 0) = true := by have := (unpack_err _ _ hu).1; rw [bne_iff_ne]; omega
          clear hu
          go_wp2_with fail
          refine HU.out.mono ?_; rintro e w2 ⟨rfl, hb2⟩
          have HB2 := Lib.hid hb2
          clear hb2
          go_wp2
          go_ret
          exact HF.out.post HE3.out (StAt.below HF.out.x.at_ (HB2.out.alloc HB2.out.size _)) (Turn.of_below (HB2.out.alloc HB2.out.size _)) (fun _ hg => .inl hg)
      | ok m k =>
        rw [hu] at hU
        obtain ⟨hm, hk24, hkl⟩ := unpack_ok s'.inp (by omega) m k hu
        have HUP := Lib.hid hu
        obtain ⟨mid, mto, mkind, mbody, msm⟩ := m
        have hU' : Calls Tryd.prog 15 #[.slice A3 s'.inp.length cap3] wr (fun e w' => e = .returned (.tuple #[.agg #[.int .u32 (mid : Int), .int .u32 (mto : Int), .int .i64 mkind, .string mbody, .bool msm], .int .i64 (k : Int), .int .i64 0]) ∧ Below wr.heap.size wr w') := hU
        have HU := Lib.hid hU'
        have HM := Lib.hid hm
        have HBS := Lib.hid (unpack_body s'.inp _ k hu)
        obtain ⟨G, o, rfl⟩ : ∃ G o, A3 = some ⟨G, o, none⟩ := by
          rcases hB with h | ⟨G, o, h, _⟩
          · rw [h] at hkl; simp at hkl; omega
          · exact ⟨G, o, h⟩
        clear hU hU' hB hu hm
        go_wp2_with fail
        refine HU.out.mono ?_; rintro e w2 ⟨rfl, hb2⟩
        have d0 := cell_below hb2 c0
        have d6 := cell_below hb2 c6
        have HB2 := Lib.hid hb2
        have HF2 := Lib.hid (HF.out.x.below hb2)
        have e0 := (cl_cells HF2.out.at_).2 0
        have hRl2 := HF2.out.at_.ltR
        clear hb2 c0 c2 c3 c6 f0
        obtain ⟨s4, e4, ht4⟩ : ∃ s4 e4, ({ s' with inp := s'.inp.drop k } : Cl).take ⟨mid, mto, mkind, mbody, msm⟩ = (s4, e4) := ⟨_, _, rfl⟩
        have HT4 := Lib.hid ht4
        have HC := Lib.hid (fun (o2 c2 : Nat) (hc2 : c2 = cap3 - k) (hp : o2 = o + k ∨ cap3 - k = 0) (W3 : World) hbq => cfed_c HF.out hcl HB2.out ⟨mid, mto, mkind, mbody, msm⟩ (Nat.le_trans HBS.out (by omega)) k hkl o2 c2 hc2 hp W3 hbq)
        rw [ht4] at HC
        clear ht4
        cases hbg : s'.began with
        | true =>
          rw [hbg] at d6 HC
          have HC' := Lib.hid (fun (o2 c2 : Nat) (hc2 : c2 = cap3 - k) (hp : o2 = o + k ∨ cap3 - k = 0) (W3 : World) hbq => show Calls Tryd.prog 76 #[.pointer (some ⟨R, 0, none⟩), .agg #[.int .u32 (mid : Int), .int .u32 (mto : Int), .int .i64 mkind, .string mbody, .bool msm]] W3 _ from HC.out o2 c2 hc2 hp W3 hbq)
          have d6' : w2.cell? ⟨R, 6, none⟩ = some (.func (.func 76) #[.pointer (some ⟨R, 0, none⟩)] #[]) := d6
          clear HC hbg d6
          by_cases h4 : e4 = 0
          · subst h4
            by_cases hcap : cap3 - k = 0
            · go_wp2
              go_region_with (go_at_call 76; refine (HC'.out o 0 hcap.symm (.inr hcap) _ (by repeat (first | with_reducible exact Below.refl _ _ | with_reducible refine below_drewN ?_ _ | with_reducible refine Below.drew ?_ | with_reducible refine Below.alloc ?_ (by first | (simp; done) | (simp; omega)) _ | with_reducible refine Below.setCell ?_ (by first | (simp; done) | (simp; omega)) _))).mono ?_; rintro ee w3 ⟨V3, rfl, HX3, HT3, HN3⟩)
              all_goals (
                have HFN := Lib.hid (HF.out.next hcl HUP.out HT4.out HX3.out HT3.out HN3.out)
                go_wp2
                go_roundw
                case rel => exact ⟨s4, n, V3, Lib.hid HFN.out.1⟩
                case measure => exact HFN.out.2)
            · have hcx : k ≤ cap3 := by omega
              go_wp2
              go_region_with (go_at_call 76; refine (HC'.out (o + k) (cap3 - k) rfl (.inl rfl) _ (by repeat (first | with_reducible exact Below.refl _ _ | with_reducible refine below_drewN ?_ _ | with_reducible refine Below.drew ?_ | with_reducible refine Below.alloc ?_ (by first | (simp; done) | (simp; omega)) _ | with_reducible refine Below.setCell ?_ (by first | (simp; done) | (simp; omega)) _))).mono ?_; rintro ee w3 ⟨V3, rfl, HX3, HT3, HN3⟩)
              all_goals (
                have HFN := Lib.hid (HF.out.next hcl HUP.out HT4.out HX3.out HT3.out HN3.out)
                go_wp2
                go_roundw
                case rel => exact ⟨s4, n, V3, Lib.hid HFN.out.1⟩
                case measure => exact HFN.out.2)
          · have k4 : ((e4 : Int) != 0) = true := by rw [bne_iff_ne]; omega
            have HN4 := Lib.hid h4
            clear h4
            by_cases hcap : cap3 - k = 0
            · go_wp2
              go_region_with (go_at_call 76; refine (HC'.out o 0 hcap.symm (.inr hcap) _ (by repeat (first | with_reducible exact Below.refl _ _ | with_reducible refine below_drewN ?_ _ | with_reducible refine Below.drew ?_ | with_reducible refine Below.alloc ?_ (by first | (simp; done) | (simp; omega)) _ | with_reducible refine Below.setCell ?_ (by first | (simp; done) | (simp; omega)) _))).mono ?_; rintro ee w3 ⟨V3, rfl, HX3, HT3, HN3⟩)
              all_goals (
                go_wp2
                go_ret
                exact HF.out.halt hcl HUP.out HT4.out HN4.out HX3.out HT3.out HN3.out)
            · have hcx : k ≤ cap3 := by omega
              go_wp2
              go_region_with (go_at_call 76; refine (HC'.out (o + k) (cap3 - k) rfl (.inl rfl) _ (by repeat (first | with_reducible exact Below.refl _ _ | with_reducible refine below_drewN ?_ _ | with_reducible refine Below.drew ?_ | with_reducible refine Below.alloc ?_ (by first | (simp; done) | (simp; omega)) _ | with_reducible refine Below.setCell ?_ (by first | (simp; done) | (simp; omega)) _))).mono ?_; rintro ee w3 ⟨V3, rfl, HX3, HT3, HN3⟩)
              all_goals (
                go_wp2
                go_ret
                exact HF.out.halt hcl HUP.out HT4.out HN4.out HX3.out HT3.out HN3.out)
        | false =>
          rw [hbg] at d6 HC
          have HC' := Lib.hid (fun (o2 c2 : Nat) (hc2 : c2 = cap3 - k) (hp : o2 = o + k ∨ cap3 - k = 0) (W3 : World) hbq => show Calls Tryd.prog 67 #[.pointer (some ⟨R, 0, none⟩), .agg #[.int .u32 (mid : Int), .int .u32 (mto : Int), .int .i64 mkind, .string mbody, .bool msm]] W3 _ from HC.out o2 c2 hc2 hp W3 hbq)
          have d6' : w2.cell? ⟨R, 6, none⟩ = some (.func (.func 67) #[.pointer (some ⟨R, 0, none⟩)] #[]) := d6
          clear HC hbg d6
          by_cases h4 : e4 = 0
          · subst h4
            by_cases hcap : cap3 - k = 0
            · go_wp2
              go_region_with (go_at_call 67; refine (HC'.out o 0 hcap.symm (.inr hcap) _ (by repeat (first | with_reducible exact Below.refl _ _ | with_reducible refine below_drewN ?_ _ | with_reducible refine Below.drew ?_ | with_reducible refine Below.alloc ?_ (by first | (simp; done) | (simp; omega)) _ | with_reducible refine Below.setCell ?_ (by first | (simp; done) | (simp; omega)) _))).mono ?_; rintro ee w3 ⟨V3, rfl, HX3, HT3, HN3⟩)
              all_goals (
                have HFN := Lib.hid (HF.out.next hcl HUP.out HT4.out HX3.out HT3.out HN3.out)
                go_wp2
                go_roundw
                case rel => exact ⟨s4, n, V3, Lib.hid HFN.out.1⟩
                case measure => exact HFN.out.2)
            · have hcx : k ≤ cap3 := by omega
              go_wp2
              go_region_with (go_at_call 67; refine (HC'.out (o + k) (cap3 - k) rfl (.inl rfl) _ (by repeat (first | with_reducible exact Below.refl _ _ | with_reducible refine below_drewN ?_ _ | with_reducible refine Below.drew ?_ | with_reducible refine Below.alloc ?_ (by first | (simp; done) | (simp; omega)) _ | with_reducible refine Below.setCell ?_ (by first | (simp; done) | (simp; omega)) _))).mono ?_; rintro ee w3 ⟨V3, rfl, HX3, HT3, HN3⟩)
              all_goals (
                have HFN := Lib.hid (HF.out.next hcl HUP.out HT4.out HX3.out HT3.out HN3.out)
                go_wp2
                go_roundw
                case rel => exact ⟨s4, n, V3, Lib.hid HFN.out.1⟩
                case measure => exact HFN.out.2)
          · have k4 : ((e4 : Int) != 0) = true := by rw [bne_iff_ne]; omega
            have HN4 := Lib.hid h4
            clear h4
            by_cases hcap : cap3 - k = 0
            · go_wp2
              go_region_with (go_at_call 67; refine (HC'.out o 0 hcap.symm (.inr hcap) _ (by repeat (first | with_reducible exact Below.refl _ _ | with_reducible refine below_drewN ?_ _ | with_reducible refine Below.drew ?_ | with_reducible refine Below.alloc ?_ (by first | (simp; done) | (simp; omega)) _ | with_reducible refine Below.setCell ?_ (by first | (simp; done) | (simp; omega)) _))).mono ?_; rintro ee w3 ⟨V3, rfl, HX3, HT3, HN3⟩)
              all_goals (
                go_wp2
                go_ret
                exact HF.out.halt hcl HUP.out HT4.out HN4.out HX3.out HT3.out HN3.out)
            · have hcx : k ≤ cap3 := by omega
              go_wp2
              go_region_with (go_at_call 67; refine (HC'.out (o + k) (cap3 - k) rfl (.inl rfl) _ (by repeat (first | with_reducible exact Below.refl _ _ | with_reducible refine below_drewN ?_ _ | with_reducible refine Below.drew ?_ | with_reducible refine Below.alloc ?_ (by first | (simp; done) | (simp; omega)) _ | with_reducible refine Below.setCell ?_ (by first | (simp; done) | (simp; omega)) _))).mono ?_; rintro ee w3 ⟨V3, rfl, HX3, HT3, HN3⟩)
              all_goals (
                go_wp2
                go_ret
                exact HF.out.halt hcl HUP.out HT4.out HN4.out HX3.out HT3.out HN3.out)
end Go.Proofs.YtkpickojeghppaaDoor
