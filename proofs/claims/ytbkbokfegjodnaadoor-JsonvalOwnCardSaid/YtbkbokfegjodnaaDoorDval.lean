/- The walk of the document reader's value. Conditions: a text has less than 2 to the 40 bytes. -/
import Derived.Test.YtbkbokfegjodnaaDoorDobj
import Derived.Test.YtbkbokfegjodnaaDoorDnuf
namespace Go.Proofs.YtbkbokfegjodnaaDoor
open Go.RowKit
set_option maxRecDepth 20000 in
set_option maxHeartbeats 16000000 in
theorem dvalue_step (s : ByteArray) (hs : s.size < 1099511627776) (k : Nat) (hk : k ≤ 64) (deep : Bool → List UInt8 → JR JV) (hjv : ∀ r, jval s.size k r = jhead s.size deep r)
    (hlo : k < 1 → ∀ o r, deep o r = .bad 17 (s.size - (r.length + 1))) (hhi : ∀ k', k = k' + 1 → ∀ o r, deep o r = jitems s.size (jval s.size k') o (r.length + 1) r [] []) (ih : ∀ k', k = k' + 1 → DvalSaid s k') : DvalSaid s k := by
  intro R p w h d hd
  rw [hjv]
  obtain ⟨res, hres⟩ : ∃ res, jhead s.size deep (s.data.toList.drop p) = res := ⟨_, rfl⟩
  rw [hres]
  have hb1 : Below w.heap.size w (w.alloc (.cells #[.int .i64 0, .int .i64 0, .string ⟨#[]⟩, .slice none 0 0, .slice none 0 0] 28)) := (Below.refl _ _).alloc (Nat.le_refl _) _
  have hrd := h.below hb1
  have HB1 := Lib.hid hb1
  have HZ0 := Lib.hid (heap_alloc_new w (.cells #[.int .i64 0, .int .i64 0, .string ⟨#[]⟩, .slice none 0 0, .slice none 0 0] 28))
  have hRw : R ≠ w.heap.size := by have := h.lt; omega
  have HIH := Lib.hid (And.intro hlo (And.intro hhi ih))
  have hp := h.pos
  simp only at hp
  have HD := Lib.hid hd
  clear h hb1 ih hjv hlo hhi hd
  have hs1 : (w.alloc (.cells #[.int .i64 0, .int .i64 0, .string ⟨#[]⟩, .slice none 0 0, .slice none 0 0] 28)).heap.size = w.heap.size + 1 := by simp
  obtain ⟨lx, hlx⟩ : ∃ x, s.data.toList.drop p = x := ⟨_, rfl⟩
  rw [hlx] at hres
  cases lx with
  | nil =>
    have HB := Lib.hid (show JR.bad 3 s.size = res from hres)
    have hpk := dnext_e R s p hlx _ hrd
    clear hres hrd hlx
    go_enter Tryd.func46, Tryd.ntmps46
    go_wp2_with fail
    refine hpk.mono ?_; rintro e w2 ⟨rfl, hr, hu⟩
    have HF := Lib.hid hr
    have HU := Lib.hid hu
    clear hr hu hpk
    have hz := (HU.out.block (k := w.heap.size) (by simp) (fun e => hRw (Option.some.inj e))).trans HZ0.out
    obtain ⟨⟨z0, z1, z2, z3, z4⟩, y0, y1, y2, y3, y4⟩ := cellsOf5 hz
    have HZ := Lib.hid hz
    clear hz
    go_wp2
    (try simp only [Exit.inBlock, Exit.then])
    refine bodyPost_ret (results_cell_row rfl _ _ w.heap.size 28 _ (0, 0) _ (by rfl) (set5 HZ.out) Tryd.underlying28 rfl (by kernel_rfl)) rfl ?_
    have hU := ((Upd.of_below HB1.out (some R)).trans HU.out).trans_below (below_set5 (c0 := .int .i64 0) (c1 := .int .i64 0) (c2 := .string ⟨#[]⟩) (c3 := .slice none 0 0) (c4 := .slice none 0 0) (Below.refl w.heap.size w2) (Nat.le_refl _))
    exact ⟨.mk 0 0 ⟨#[]⟩ [] [], none, 0, none, 0, rfl, rep_flat 0 0 ⟨#[]⟩ (by omega) (by omega) (by decide) _ _, hU, by rw [← HB.out]; exact HF.out.after (other_set5 hRw)⟩
  | cons c r =>
    obtain ⟨hlt, hdp, hrl⟩ := drop_parts hlx
    have hpk := dnext_l R s p c r hlx _ hrd
    have HL := Lib.hid hlx
    rw [jhead] at hres
    clear hlx
    go_enter Tryd.func46, Tryd.ntmps46
    go_wp2_with fail
    refine hpk.mono ?_; rintro e w2 ⟨rfl, m, rfl⟩
    have HS := Lib.hid (hrd.same (w' := (w.alloc (.cells #[.int .i64 0, .int .i64 0, .string ⟨#[]⟩, .slice none 0 0, .slice none 0 0] 28)).drewN m) rfl)
    have HU := Lib.hid (Upd.of_below (below_drewN' (w.alloc (.cells #[.int .i64 0, .int .i64 0, .string ⟨#[]⟩, .slice none 0 0, .slice none 0 0] 28)) m) (some R))
    clear hpk hrd
    generalize (w.alloc (.cells #[.int .i64 0, .int .i64 0, .string ⟨#[]⟩, .slice none 0 0, .slice none 0 0] 28)).drewN m = W at *
    have h1 := HS.out.c1
    simp only at h1
    by_cases c110 : c = 110
    · have m110 : ((c.toNat : Int) == 110) = true := byte_eq (d := 110) c110
      have hres := (if_pos c110).symm.trans hres
      rw [← HL.out] at hres
      have hw := dword_c R s ⟨#[110, 117, 108, 108]⟩ p (by omega) (by decide) W HS.out
      rw [show (⟨#[110, 117, 108, 108]⟩ : ByteArray).data.toList = [110, 117, 108, 108] from rfl] at hw
      clear h1
      cases hj : jword s.size [110, 117, 108, 108] (s.data.toList.drop p) with
      | bad er pl =>
        rw [hj] at hw hres
        have HB := Lib.hid (show JR.bad er pl = res from hres)
        go_wp2_with fail
        refine hw.mono ?_; rintro e w2 ⟨v, rfl, rfl, hf, hu⟩
        have HF := Lib.hid hf
        have HU2 := Lib.hid (HU.out.trans hu)
        clear hw hres hj hf hu HS HU c110
        have hz := (HU2.out.block (k := w.heap.size) (by simp) (fun e => hRw (Option.some.inj e))).trans HZ0.out
        obtain ⟨⟨z0, z1, z2, z3, z4⟩, y0, y1, y2, y3, y4⟩ := cellsOf5 hz
        have HZ := Lib.hid hz
        clear hz
        go_wp2
        (try simp only [Exit.inBlock, Exit.then])
        refine bodyPost_ret (results_cell_row rfl _ _ w.heap.size 28 _ (0, 0) _ (by rfl) (set5 HZ.out) Tryd.underlying28 rfl (by kernel_rfl)) rfl ?_
        have hU := ((Upd.of_below HB1.out (some R)).trans HU2.out).trans_below (below_set5 (c0 := .int .i64 0) (c1 := .int .i64 0) (c2 := .string ⟨#[]⟩) (c3 := .slice none 0 0) (c4 := .slice none 0 0) (Below.refl w.heap.size w2) (Nat.le_refl _))
        exact ⟨.mk 0 0 ⟨#[]⟩ [] [], none, 0, none, 0, rfl, rep_flat 0 0 ⟨#[]⟩ (by omega) (by omega) (by decide) _ _, hU, by rw [← HB.out]; exact HF.out.after (other_set5 hRw)⟩
      | ok a q =>
        rw [hj] at hw hres
        have HB := Lib.hid (show JR.ok (jnil 0) q = res from hres)
        go_wp2_with fail
        refine hw.mono ?_; rintro e w2 ⟨q2, v, rfl, rfl, hq, hpq, hqs, hsr, hu⟩
        have HF := Lib.hid hsr
        have HQ := Lib.hid hq
        have HU2 := Lib.hid (HU.out.trans hu)
        clear hw hres hj hsr hu hq HS HU c110
        have hz := (HU2.out.block (k := w.heap.size) (by simp) (fun e => hRw (Option.some.inj e))).trans HZ0.out
        obtain ⟨⟨z0, z1, z2, z3, z4⟩, y0, y1, y2, y3, y4⟩ := cellsOf5 hz
        have HZ := Lib.hid hz
        clear hz
        go_wp2
        (try simp only [Exit.inBlock, Exit.then])
        refine bodyPost_ret (results_cell_row rfl _ _ w.heap.size 28 _ (0, 0) _ (by rfl) (set5 HZ.out) Tryd.underlying28 rfl (by kernel_rfl)) rfl ?_
        have hU := ((Upd.of_below HB1.out (some R)).trans HU2.out).trans_below (below_set5 (c0 := .int .i64 0) (c1 := .int .i64 0) (c2 := .string ⟨#[]⟩) (c3 := .slice none 0 0) (c4 := .slice none 0 0) (Below.refl w.heap.size w2) (Nat.le_refl _))
        exact ⟨.mk 0 0 ⟨#[]⟩ [] [], none, 0, none, 0, rfl, rep_flat 0 0 ⟨#[]⟩ (by omega) (by omega) (by decide) _ _, hU, by rw [← HB.out]; exact ⟨rfl, q2, .inl HQ.out.symm, hpq, hqs, HF.out.after (other_set5 hRw)⟩⟩
    have m110 : ((c.toNat : Int) == 110) = false := byte_ne (d := 110) c110
    have hres := (if_neg c110).symm.trans hres
    by_cases c116 : c = 116
    · have m116 : ((c.toNat : Int) == 116) = true := byte_eq (d := 116) c116
      have hres := (if_pos c116).symm.trans hres
      rw [← HL.out] at hres
      have hw := dword_c R s ⟨#[116, 114, 117, 101]⟩ p (by omega) (by decide) W HS.out
      rw [show (⟨#[116, 114, 117, 101]⟩ : ByteArray).data.toList = [116, 114, 117, 101] from rfl] at hw
      clear h1
      cases hj : jword s.size [116, 114, 117, 101] (s.data.toList.drop p) with
      | bad er pl =>
        rw [hj] at hw hres
        have HB := Lib.hid (show JR.bad er pl = res from hres)
        go_wp2_with fail
        refine hw.mono ?_; rintro e w2 ⟨v, rfl, rfl, hf, hu⟩
        have HF := Lib.hid hf
        have HU2 := Lib.hid (HU.out.trans hu)
        clear hw hres hj hf hu HS HU c116
        have hz := (HU2.out.block (k := w.heap.size) (by simp) (fun e => hRw (Option.some.inj e))).trans HZ0.out
        obtain ⟨⟨z0, z1, z2, z3, z4⟩, y0, y1, y2, y3, y4⟩ := cellsOf5 hz
        have HZ := Lib.hid hz
        clear hz
        go_wp2
        (try simp only [Exit.inBlock, Exit.then])
        refine bodyPost_ret (results_cell_row rfl _ _ w.heap.size 28 _ (0, 0) _ (by rfl) (set5 HZ.out) Tryd.underlying28 rfl (by kernel_rfl)) rfl ?_
        have hU := ((Upd.of_below HB1.out (some R)).trans HU2.out).trans_below (below_set5 (c0 := .int .i64 2) (c1 := .int .i64 0) (c2 := .string ⟨#[]⟩) (c3 := .slice none 0 0) (c4 := .slice none 0 0) (Below.refl w.heap.size w2) (Nat.le_refl _))
        exact ⟨.mk 2 0 ⟨#[]⟩ [] [], none, 0, none, 0, rfl, rep_flat 2 0 ⟨#[]⟩ (by omega) (by omega) (by decide) _ _, hU, by rw [← HB.out]; exact HF.out.after (other_set5 hRw)⟩
      | ok a q =>
        rw [hj] at hw hres
        have HB := Lib.hid (show JR.ok (jnil 2) q = res from hres)
        go_wp2_with fail
        refine hw.mono ?_; rintro e w2 ⟨q2, v, rfl, rfl, hq, hpq, hqs, hsr, hu⟩
        have HF := Lib.hid hsr
        have HQ := Lib.hid hq
        have HU2 := Lib.hid (HU.out.trans hu)
        clear hw hres hj hsr hu hq HS HU c116
        have hz := (HU2.out.block (k := w.heap.size) (by simp) (fun e => hRw (Option.some.inj e))).trans HZ0.out
        obtain ⟨⟨z0, z1, z2, z3, z4⟩, y0, y1, y2, y3, y4⟩ := cellsOf5 hz
        have HZ := Lib.hid hz
        clear hz
        go_wp2
        (try simp only [Exit.inBlock, Exit.then])
        refine bodyPost_ret (results_cell_row rfl _ _ w.heap.size 28 _ (0, 0) _ (by rfl) (set5 HZ.out) Tryd.underlying28 rfl (by kernel_rfl)) rfl ?_
        have hU := ((Upd.of_below HB1.out (some R)).trans HU2.out).trans_below (below_set5 (c0 := .int .i64 2) (c1 := .int .i64 0) (c2 := .string ⟨#[]⟩) (c3 := .slice none 0 0) (c4 := .slice none 0 0) (Below.refl w.heap.size w2) (Nat.le_refl _))
        exact ⟨.mk 2 0 ⟨#[]⟩ [] [], none, 0, none, 0, rfl, rep_flat 2 0 ⟨#[]⟩ (by omega) (by omega) (by decide) _ _, hU, by rw [← HB.out]; exact ⟨rfl, q2, .inl HQ.out.symm, hpq, hqs, HF.out.after (other_set5 hRw)⟩⟩
    have m116 : ((c.toNat : Int) == 116) = false := byte_ne (d := 116) c116
    have hres := (if_neg c116).symm.trans hres
    by_cases c102 : c = 102
    · have m102 : ((c.toNat : Int) == 102) = true := byte_eq (d := 102) c102
      have hres := (if_pos c102).symm.trans hres
      rw [← HL.out] at hres
      have hw := dword_c R s ⟨#[102, 97, 108, 115, 101]⟩ p (by omega) (by decide) W HS.out
      rw [show (⟨#[102, 97, 108, 115, 101]⟩ : ByteArray).data.toList = [102, 97, 108, 115, 101] from rfl] at hw
      clear h1
      cases hj : jword s.size [102, 97, 108, 115, 101] (s.data.toList.drop p) with
      | bad er pl =>
        rw [hj] at hw hres
        have HB := Lib.hid (show JR.bad er pl = res from hres)
        go_wp2_with fail
        refine hw.mono ?_; rintro e w2 ⟨v, rfl, rfl, hf, hu⟩
        have HF := Lib.hid hf
        have HU2 := Lib.hid (HU.out.trans hu)
        clear hw hres hj hf hu HS HU c102
        have hz := (HU2.out.block (k := w.heap.size) (by simp) (fun e => hRw (Option.some.inj e))).trans HZ0.out
        obtain ⟨⟨z0, z1, z2, z3, z4⟩, y0, y1, y2, y3, y4⟩ := cellsOf5 hz
        have HZ := Lib.hid hz
        clear hz
        go_wp2
        (try simp only [Exit.inBlock, Exit.then])
        refine bodyPost_ret (results_cell_row rfl _ _ w.heap.size 28 _ (0, 0) _ (by rfl) (set5 HZ.out) Tryd.underlying28 rfl (by kernel_rfl)) rfl ?_
        have hU := ((Upd.of_below HB1.out (some R)).trans HU2.out).trans_below (below_set5 (c0 := .int .i64 1) (c1 := .int .i64 0) (c2 := .string ⟨#[]⟩) (c3 := .slice none 0 0) (c4 := .slice none 0 0) (Below.refl w.heap.size w2) (Nat.le_refl _))
        exact ⟨.mk 1 0 ⟨#[]⟩ [] [], none, 0, none, 0, rfl, rep_flat 1 0 ⟨#[]⟩ (by omega) (by omega) (by decide) _ _, hU, by rw [← HB.out]; exact HF.out.after (other_set5 hRw)⟩
      | ok a q =>
        rw [hj] at hw hres
        have HB := Lib.hid (show JR.ok (jnil 1) q = res from hres)
        go_wp2_with fail
        refine hw.mono ?_; rintro e w2 ⟨q2, v, rfl, rfl, hq, hpq, hqs, hsr, hu⟩
        have HF := Lib.hid hsr
        have HQ := Lib.hid hq
        have HU2 := Lib.hid (HU.out.trans hu)
        clear hw hres hj hsr hu hq HS HU c102
        have hz := (HU2.out.block (k := w.heap.size) (by simp) (fun e => hRw (Option.some.inj e))).trans HZ0.out
        obtain ⟨⟨z0, z1, z2, z3, z4⟩, y0, y1, y2, y3, y4⟩ := cellsOf5 hz
        have HZ := Lib.hid hz
        clear hz
        go_wp2
        (try simp only [Exit.inBlock, Exit.then])
        refine bodyPost_ret (results_cell_row rfl _ _ w.heap.size 28 _ (0, 0) _ (by rfl) (set5 HZ.out) Tryd.underlying28 rfl (by kernel_rfl)) rfl ?_
        have hU := ((Upd.of_below HB1.out (some R)).trans HU2.out).trans_below (below_set5 (c0 := .int .i64 1) (c1 := .int .i64 0) (c2 := .string ⟨#[]⟩) (c3 := .slice none 0 0) (c4 := .slice none 0 0) (Below.refl w.heap.size w2) (Nat.le_refl _))
        exact ⟨.mk 1 0 ⟨#[]⟩ [] [], none, 0, none, 0, rfl, rep_flat 1 0 ⟨#[]⟩ (by omega) (by omega) (by decide) _ _, hU, by rw [← HB.out]; exact ⟨rfl, q2, .inl HQ.out.symm, hpq, hqs, HF.out.after (other_set5 hRw)⟩⟩
    have m102 : ((c.toNat : Int) == 102) = false := byte_ne (d := 102) c102
    have hres := (if_neg c102).symm.trans hres
    by_cases c45 : c = 45
    · have m45 : ((c.toNat : Int) == 45) = true := byte_eq (d := 45) c45
      have hres := (if_pos (show c = 45 ∨ isDg c = true from .inl c45)).symm.trans hres
      have hw := dnumber_c R s p c r HL.out (by omega) W HS.out
      clear h1
      cases hj : jnum s.size (c :: r) with
      | bad er pl =>
        rw [hj] at hw hres
        have HB := Lib.hid (show JR.bad er pl = res from hres)
        go_wp2_with fail
        refine hw.mono ?_; rintro e w2 ⟨v, rfl, rfl, hf, hu⟩
        have HF := Lib.hid hf
        have HU2 := Lib.hid (HU.out.trans hu)
        clear hw hres hj hf hu HS HU
        have hz := (HU2.out.block (k := w.heap.size) (by simp) (fun e => hRw (Option.some.inj e))).trans HZ0.out
        obtain ⟨⟨z0, z1, z2, z3, z4⟩, y0, y1, y2, y3, y4⟩ := cellsOf5 hz
        have HZ := Lib.hid hz
        clear hz
        go_wp2
        (try simp only [Exit.inBlock, Exit.then])
        refine bodyPost_ret (results_cell_row rfl _ _ w.heap.size 28 _ (0, 0) _ (by rfl) (set5 HZ.out) Tryd.underlying28 rfl (by kernel_rfl)) rfl ?_
        have hU := ((Upd.of_below HB1.out (some R)).trans HU2.out).trans_below (below_set5 (c0 := .int .i64 3) (c1 := .int .i64 0) (c2 := .string ⟨#[]⟩) (c3 := .slice none 0 0) (c4 := .slice none 0 0) (Below.refl w.heap.size w2) (Nat.le_refl _))
        exact ⟨.mk 3 0 ⟨#[]⟩ [] [], none, 0, none, 0, rfl, rep_flat 3 0 ⟨#[]⟩ (by omega) (by omega) (by decide) _ _, hU, by rw [← HB.out]; exact HF.out.after (other_set5 hRw)⟩
      | ok n q =>
        rw [hj] at hw hres
        have HB := Lib.hid (show JR.ok (JV.mk 3 n ⟨#[]⟩ [] []) q = res from hres)
        go_wp2_with fail
        refine hw.mono ?_; rintro e w2 ⟨q2, v, rfl, ⟨rfl, hnb⟩, hq, hpq, hqs, hsr, hu⟩
        have HF := Lib.hid hsr
        have HQ := Lib.hid hq
        have HU2 := Lib.hid (HU.out.trans hu)
        clear hw hres hj hsr hu hq HS HU
        have hz := (HU2.out.block (k := w.heap.size) (by simp) (fun e => hRw (Option.some.inj e))).trans HZ0.out
        obtain ⟨⟨z0, z1, z2, z3, z4⟩, y0, y1, y2, y3, y4⟩ := cellsOf5 hz
        have HZ := Lib.hid hz
        clear hz
        go_wp2
        (try simp only [Exit.inBlock, Exit.then])
        refine bodyPost_ret (results_cell_row rfl _ _ w.heap.size 28 _ (0, 0) _ (by rfl) (set5 HZ.out) Tryd.underlying28 rfl (by kernel_rfl)) rfl ?_
        have hU := ((Upd.of_below HB1.out (some R)).trans HU2.out).trans_below (below_set5 (c0 := .int .i64 3) (c1 := .int .i64 n) (c2 := .string ⟨#[]⟩) (c3 := .slice none 0 0) (c4 := .slice none 0 0) (Below.refl w.heap.size w2) (Nat.le_refl _))
        exact ⟨.mk 3 n ⟨#[]⟩ [] [], none, 0, none, 0, rfl, rep_flat 3 n ⟨#[]⟩ (by omega) hnb (by decide) _ _, hU, by rw [← HB.out]; exact ⟨rfl, q2, .inl HQ.out.symm, hpq, hqs, HF.out.after (other_set5 hRw)⟩⟩
    have m45 : ((c.toNat : Int) == 45) = false := byte_ne (d := 45) c45
    by_cases cdg : isDg c = true
    · have hres := (if_pos (show c = 45 ∨ isDg c = true from .inr cdg)).symm.trans hres
      have hk2 : 48 ≤ c.toNat ∧ c.toNat ≤ 57 := by simpa [isDg] using cdg
      have g48 : (48 : Int) ≤ (c.toNat : Int) := by omega
      have g57 : (c.toNat : Int) ≤ (57 : Int) := by omega
      have hw := dnumber_c R s p c r HL.out (by omega) W HS.out
      clear h1
      cases hj : jnum s.size (c :: r) with
      | bad er pl =>
        rw [hj] at hw hres
        have HB := Lib.hid (show JR.bad er pl = res from hres)
        go_wp2_with fail
        refine hw.mono ?_; rintro e w2 ⟨v, rfl, rfl, hf, hu⟩
        have HF := Lib.hid hf
        have HU2 := Lib.hid (HU.out.trans hu)
        clear hw hres hj hf hu HS HU
        have hz := (HU2.out.block (k := w.heap.size) (by simp) (fun e => hRw (Option.some.inj e))).trans HZ0.out
        obtain ⟨⟨z0, z1, z2, z3, z4⟩, y0, y1, y2, y3, y4⟩ := cellsOf5 hz
        have HZ := Lib.hid hz
        clear hz
        go_wp2
        (try simp only [Exit.inBlock, Exit.then])
        refine bodyPost_ret (results_cell_row rfl _ _ w.heap.size 28 _ (0, 0) _ (by rfl) (set5 HZ.out) Tryd.underlying28 rfl (by kernel_rfl)) rfl ?_
        have hU := ((Upd.of_below HB1.out (some R)).trans HU2.out).trans_below (below_set5 (c0 := .int .i64 3) (c1 := .int .i64 0) (c2 := .string ⟨#[]⟩) (c3 := .slice none 0 0) (c4 := .slice none 0 0) (Below.refl w.heap.size w2) (Nat.le_refl _))
        exact ⟨.mk 3 0 ⟨#[]⟩ [] [], none, 0, none, 0, rfl, rep_flat 3 0 ⟨#[]⟩ (by omega) (by omega) (by decide) _ _, hU, by rw [← HB.out]; exact HF.out.after (other_set5 hRw)⟩
      | ok n q =>
        rw [hj] at hw hres
        have HB := Lib.hid (show JR.ok (JV.mk 3 n ⟨#[]⟩ [] []) q = res from hres)
        go_wp2_with fail
        refine hw.mono ?_; rintro e w2 ⟨q2, v, rfl, ⟨rfl, hnb⟩, hq, hpq, hqs, hsr, hu⟩
        have HF := Lib.hid hsr
        have HQ := Lib.hid hq
        have HU2 := Lib.hid (HU.out.trans hu)
        clear hw hres hj hsr hu hq HS HU
        have hz := (HU2.out.block (k := w.heap.size) (by simp) (fun e => hRw (Option.some.inj e))).trans HZ0.out
        obtain ⟨⟨z0, z1, z2, z3, z4⟩, y0, y1, y2, y3, y4⟩ := cellsOf5 hz
        have HZ := Lib.hid hz
        clear hz
        go_wp2
        (try simp only [Exit.inBlock, Exit.then])
        refine bodyPost_ret (results_cell_row rfl _ _ w.heap.size 28 _ (0, 0) _ (by rfl) (set5 HZ.out) Tryd.underlying28 rfl (by kernel_rfl)) rfl ?_
        have hU := ((Upd.of_below HB1.out (some R)).trans HU2.out).trans_below (below_set5 (c0 := .int .i64 3) (c1 := .int .i64 n) (c2 := .string ⟨#[]⟩) (c3 := .slice none 0 0) (c4 := .slice none 0 0) (Below.refl w.heap.size w2) (Nat.le_refl _))
        exact ⟨.mk 3 n ⟨#[]⟩ [] [], none, 0, none, 0, rfl, rep_flat 3 n ⟨#[]⟩ (by omega) hnb (by decide) _ _, hU, by rw [← HB.out]; exact ⟨rfl, q2, .inl HQ.out.symm, hpq, hqs, HF.out.after (other_set5 hRw)⟩⟩
    have hres := (if_neg (show ¬ (c = 45 ∨ isDg c = true) from fun h => h.elim c45 cdg)).symm.trans hres
    have hgd : decide ((48 : Int) ≤ (c.toNat : Int)) = false ∨ (decide ((48 : Int) ≤ (c.toNat : Int)) = true ∧ decide ((c.toNat : Int) ≤ (57 : Int)) = false) := by
      simp only [decide_eq_false_iff_not, decide_eq_true_eq]
      have : ¬ (48 ≤ c.toNat ∧ c.toNat ≤ 57) := fun e => cdg (by simp [isDg, e])
      omega
    clear c45 cdg
    rcases hgd with g48 | ⟨g48, g57⟩
    · as_aux_lemma =>
        by_cases c34 : c = 34
        · have m34 : ((c.toNat : Int) == 34) = true := byte_eq (d := 34) c34
          have hres := (if_pos c34).symm.trans hres
          have hw := dtext_c R s p c r HL.out (by omega) W HS.out
          clear h1
          cases hj : jtext s.size (r.length + 1) r [] with
          | bad er pl =>
            rw [hj] at hw hres
            have HB := Lib.hid (show JR.bad er pl = res from hres)
            go_wp2_with fail
            refine hw.mono ?_; rintro e w2 ⟨v, rfl, rfl, hf, hu⟩
            have HF := Lib.hid hf
            have HU2 := Lib.hid (HU.out.trans hu)
            clear hw hres hj hf hu HS HU c34
            have hz := (HU2.out.block (k := w.heap.size) (by simp) (fun e => hRw (Option.some.inj e))).trans HZ0.out
            obtain ⟨⟨z0, z1, z2, z3, z4⟩, y0, y1, y2, y3, y4⟩ := cellsOf5 hz
            have HZ := Lib.hid hz
            clear hz
            go_wp2
            (try simp only [Exit.inBlock, Exit.then])
            refine bodyPost_ret (results_cell_row rfl _ _ w.heap.size 28 _ (0, 0) _ (by rfl) (set5 HZ.out) Tryd.underlying28 rfl (by kernel_rfl)) rfl ?_
            have hU := ((Upd.of_below HB1.out (some R)).trans HU2.out).trans_below (below_set5 (c0 := .int .i64 4) (c1 := .int .i64 0) (c2 := .string ⟨#[]⟩) (c3 := .slice none 0 0) (c4 := .slice none 0 0) (Below.refl w.heap.size w2) (Nat.le_refl _))
            exact ⟨.mk 4 0 ⟨#[]⟩ [] [], none, 0, none, 0, rfl, rep_flat 4 0 ⟨#[]⟩ (by omega) (by omega) (by decide) _ _, hU, by rw [← HB.out]; exact HF.out.after (other_set5 hRw)⟩
          | ok x q =>
            rw [hj] at hw hres
            have HB := Lib.hid (show JR.ok (JV.mk 4 0 ⟨x.toArray⟩ [] []) q = res from hres)
            go_wp2_with fail
            refine hw.mono ?_; rintro e w2 ⟨q2, v, rfl, ⟨rfl, hxl⟩, hq, hpq, hqs, hsr, hu⟩
            have HF := Lib.hid hsr
            have HQ := Lib.hid hq
            have HU2 := Lib.hid (HU.out.trans hu)
            clear hw hres hj hsr hu hq HS HU c34
            have hz := (HU2.out.block (k := w.heap.size) (by simp) (fun e => hRw (Option.some.inj e))).trans HZ0.out
            obtain ⟨⟨z0, z1, z2, z3, z4⟩, y0, y1, y2, y3, y4⟩ := cellsOf5 hz
            have HZ := Lib.hid hz
            clear hz
            go_wp2
            (try simp only [Exit.inBlock, Exit.then])
            refine bodyPost_ret (results_cell_row rfl _ _ w.heap.size 28 _ (0, 0) _ (by rfl) (set5 HZ.out) Tryd.underlying28 rfl (by kernel_rfl)) rfl ?_
            have hU := ((Upd.of_below HB1.out (some R)).trans HU2.out).trans_below (below_set5 (c0 := .int .i64 4) (c1 := .int .i64 0) (c2 := .string ⟨x.toArray⟩) (c3 := .slice none 0 0) (c4 := .slice none 0 0) (Below.refl w.heap.size w2) (Nat.le_refl _))
            exact ⟨.mk 4 0 ⟨x.toArray⟩ [] [], none, 0, none, 0, rfl, rep_flat 4 0 ⟨x.toArray⟩ (by omega) (by omega) (by show x.toArray.size ≤ maxLen; unfold maxLen; simp; omega) _ _, hU, by rw [← HB.out]; exact ⟨rfl, q2, .inl HQ.out.symm, by omega, hqs, HF.out.after (other_set5 hRw)⟩⟩
        have m34 : ((c.toNat : Int) == 34) = false := byte_ne (d := 34) c34
        have hres := (if_neg c34).symm.trans hres
        clear c34
        by_cases c91 : c = 91
        · have m91 : ((c.toNat : Int) == 91) = true := byte_eq (d := 91) c91
          have hres := (if_pos c91).symm.trans hres
          cases k with
          | zero =>
            have HB := Lib.hid (show JR.bad 17 p = res from by rw [HIH.out.1 (by omega), hrl] at hres; exact hres)
            have hdd : decide (d < 64) = false := by have := HD.out; rw [decide_eq_false_iff_not]; omega
            have hfl := dfail_c R s p 17 p (by decide) W HS.out
            clear hres
            go_wp2_with fail
            refine hfl.mono ?_; rintro e w2 ⟨rfl, hr, hu⟩
            have HF := Lib.hid hr
            have HU2 := Lib.hid (HU.out.trans hu)
            clear hr hu hfl h1 HS HU c91
            have hz := (HU2.out.block (k := w.heap.size) (by simp) (fun e => hRw (Option.some.inj e))).trans HZ0.out
            obtain ⟨⟨z0, z1, z2, z3, z4⟩, y0, y1, y2, y3, y4⟩ := cellsOf5 hz
            have HZ := Lib.hid hz
            clear hz
            go_wp2
            (try simp only [Exit.inBlock, Exit.then])
            refine bodyPost_ret (results_cell_row rfl _ _ w.heap.size 28 _ (0, 0) _ (by rfl) (set5 HZ.out) Tryd.underlying28 rfl (by kernel_rfl)) rfl ?_
            have hU := ((Upd.of_below HB1.out (some R)).trans HU2.out).trans_below (below_set5 (c0 := .int .i64 0) (c1 := .int .i64 0) (c2 := .string ⟨#[]⟩) (c3 := .slice none 0 0) (c4 := .slice none 0 0) (Below.refl w.heap.size w2) (Nat.le_refl _))
            exact ⟨.mk 0 0 ⟨#[]⟩ [] [], none, 0, none, 0, rfl, rep_flat 0 0 ⟨#[]⟩ (by omega) (by omega) (by decide) _ _, hU, by rw [← HB.out]; exact HF.out.after (other_set5 hRw)⟩
          | succ k' =>
            have hdl : d < 64 := by have := HD.out; omega
            have hw := dlist_c s hs k' (by omega) (HIH.out.2.2 k' rfl) R p c r HL.out W HS.out d (by have := HD.out; omega)
            rw [HIH.out.2.1 k' rfl] at hres
            rw [hres] at hw
            clear h1 hres
            go_wp2_with fail
            refine hw.mono ?_; rintro e w2 ⟨t, tan, tcn, tai, tci, rfl, hrep, hu, hpost⟩
            have HP := Lib.hid hpost
            have HREP := Lib.hid hrep
            have HU2 := Lib.hid (HU.out.trans hu)
            have hWs := HU.out.grown.size
            clear hw hpost hrep hu c91
            have hz := (HU2.out.block (k := w.heap.size) (by simp) (fun e => hRw (Option.some.inj e))).trans HZ0.out
            obtain ⟨⟨z0, z1, z2, z3, z4⟩, y0, y1, y2, y3, y4⟩ := cellsOf5 hz
            have HZ := Lib.hid hz
            clear hz
            go_wp2
            (try simp only [Exit.inBlock, Exit.then])
            refine bodyPost_ret (results_cell_row rfl _ _ w.heap.size 28 _ (0, 0) _ (by rfl) (set5 HZ.out) Tryd.underlying28 rfl (by kernel_rfl)) rfl ?_
            have hU := ((Upd.of_below HB1.out (some R)).trans HU2.out).trans_below (below_set5 (c0 := .int .i64 t.kind) (c1 := .int .i64 t.int) (c2 := .string t.text) (c3 := .slice tan t.names.length tcn) (c4 := .slice tai t.items.length tci) (Below.refl w.heap.size w2) (Nat.le_refl _))
            refine ⟨t, tan, tcn, tai, tci, rfl, Rep.kept (fun b hlt hb => ⟨by rw [hs1] at hWs; omega, other_set5 (by rw [hs1] at hWs; omega)⟩) _ _ HREP.out, hU, ?_⟩
            have hP := HP.out
            cases res with
            | bad er pl => exact (show FltAt w2 R s er pl from hP).after (other_set5 hRw)
            | ok u r9 =>
              obtain ⟨h1, q, h2, h3, h4, h5⟩ := hP
              exact ⟨h1, q, h2, h3, h4, h5.after (other_set5 hRw)⟩
        have m91 : ((c.toNat : Int) == 91) = false := byte_ne (d := 91) c91
        have hres := (if_neg c91).symm.trans hres
        clear c91
        by_cases c123 : c = 123
        · have m123 : ((c.toNat : Int) == 123) = true := byte_eq (d := 123) c123
          have hres := (if_pos c123).symm.trans hres
          cases k with
          | zero =>
            have HB := Lib.hid (show JR.bad 17 p = res from by rw [HIH.out.1 (by omega), hrl] at hres; exact hres)
            have hdd : decide (d < 64) = false := by have := HD.out; rw [decide_eq_false_iff_not]; omega
            have hfl := dfail_c R s p 17 p (by decide) W HS.out
            clear hres
            go_wp2_with fail
            refine hfl.mono ?_; rintro e w2 ⟨rfl, hr, hu⟩
            have HF := Lib.hid hr
            have HU2 := Lib.hid (HU.out.trans hu)
            clear hr hu hfl h1 HS HU c123
            have hz := (HU2.out.block (k := w.heap.size) (by simp) (fun e => hRw (Option.some.inj e))).trans HZ0.out
            obtain ⟨⟨z0, z1, z2, z3, z4⟩, y0, y1, y2, y3, y4⟩ := cellsOf5 hz
            have HZ := Lib.hid hz
            clear hz
            go_wp2
            (try simp only [Exit.inBlock, Exit.then])
            refine bodyPost_ret (results_cell_row rfl _ _ w.heap.size 28 _ (0, 0) _ (by rfl) (set5 HZ.out) Tryd.underlying28 rfl (by kernel_rfl)) rfl ?_
            have hU := ((Upd.of_below HB1.out (some R)).trans HU2.out).trans_below (below_set5 (c0 := .int .i64 0) (c1 := .int .i64 0) (c2 := .string ⟨#[]⟩) (c3 := .slice none 0 0) (c4 := .slice none 0 0) (Below.refl w.heap.size w2) (Nat.le_refl _))
            exact ⟨.mk 0 0 ⟨#[]⟩ [] [], none, 0, none, 0, rfl, rep_flat 0 0 ⟨#[]⟩ (by omega) (by omega) (by decide) _ _, hU, by rw [← HB.out]; exact HF.out.after (other_set5 hRw)⟩
          | succ k' =>
            have hdl : d < 64 := by have := HD.out; omega
            have hw := dobject_c s hs k' (by omega) (HIH.out.2.2 k' rfl) R p c r HL.out W HS.out d (by have := HD.out; omega)
            rw [HIH.out.2.1 k' rfl] at hres
            rw [hres] at hw
            clear h1 hres
            go_wp2_with fail
            refine hw.mono ?_; rintro e w2 ⟨t, tan, tcn, tai, tci, rfl, hrep, hu, hpost⟩
            have HP := Lib.hid hpost
            have HREP := Lib.hid hrep
            have HU2 := Lib.hid (HU.out.trans hu)
            have hWs := HU.out.grown.size
            clear hw hpost hrep hu c123
            have hz := (HU2.out.block (k := w.heap.size) (by simp) (fun e => hRw (Option.some.inj e))).trans HZ0.out
            obtain ⟨⟨z0, z1, z2, z3, z4⟩, y0, y1, y2, y3, y4⟩ := cellsOf5 hz
            have HZ := Lib.hid hz
            clear hz
            go_wp2
            (try simp only [Exit.inBlock, Exit.then])
            refine bodyPost_ret (results_cell_row rfl _ _ w.heap.size 28 _ (0, 0) _ (by rfl) (set5 HZ.out) Tryd.underlying28 rfl (by kernel_rfl)) rfl ?_
            have hU := ((Upd.of_below HB1.out (some R)).trans HU2.out).trans_below (below_set5 (c0 := .int .i64 t.kind) (c1 := .int .i64 t.int) (c2 := .string t.text) (c3 := .slice tan t.names.length tcn) (c4 := .slice tai t.items.length tci) (Below.refl w.heap.size w2) (Nat.le_refl _))
            refine ⟨t, tan, tcn, tai, tci, rfl, Rep.kept (fun b hlt hb => ⟨by rw [hs1] at hWs; omega, other_set5 (by rw [hs1] at hWs; omega)⟩) _ _ HREP.out, hU, ?_⟩
            have hP := HP.out
            cases res with
            | bad er pl => exact (show FltAt w2 R s er pl from hP).after (other_set5 hRw)
            | ok u r9 =>
              obtain ⟨h1, q, h2, h3, h4, h5⟩ := hP
              exact ⟨h1, q, h2, h3, h4, h5.after (other_set5 hRw)⟩
        have m123 : ((c.toNat : Int) == 123) = false := byte_ne (d := 123) c123
        have hres := (if_neg c123).symm.trans hres
        clear c123
        have HB := Lib.hid (show JR.bad 10 p = res from by rw [hrl] at hres; exact hres)
        have hfl := dfail_c R s p 10 p (by decide) W HS.out
        clear hres
        go_wp2_with fail
        refine hfl.mono ?_; rintro e w2 ⟨rfl, hr, hu⟩
        have HF := Lib.hid hr
        have HU2 := Lib.hid (HU.out.trans hu)
        clear hr hu hfl h1 HS HU
        have hz := (HU2.out.block (k := w.heap.size) (by simp) (fun e => hRw (Option.some.inj e))).trans HZ0.out
        obtain ⟨⟨z0, z1, z2, z3, z4⟩, y0, y1, y2, y3, y4⟩ := cellsOf5 hz
        have HZ := Lib.hid hz
        clear hz
        go_wp2
        (try simp only [Exit.inBlock, Exit.then])
        refine bodyPost_ret (results_cell_row rfl _ _ w.heap.size 28 _ (0, 0) _ (by rfl) (set5 HZ.out) Tryd.underlying28 rfl (by kernel_rfl)) rfl ?_
        have hU := ((Upd.of_below HB1.out (some R)).trans HU2.out).trans_below (below_set5 (c0 := .int .i64 0) (c1 := .int .i64 0) (c2 := .string ⟨#[]⟩) (c3 := .slice none 0 0) (c4 := .slice none 0 0) (Below.refl w.heap.size w2) (Nat.le_refl _))
        exact ⟨.mk 0 0 ⟨#[]⟩ [] [], none, 0, none, 0, rfl, rep_flat 0 0 ⟨#[]⟩ (by omega) (by omega) (by decide) _ _, hU, by rw [← HB.out]; exact HF.out.after (other_set5 hRw)⟩
    · have g48 : (48 : Int) ≤ (c.toNat : Int) := of_decide_eq_true g48
      by_cases c34 : c = 34
      · have m34 : ((c.toNat : Int) == 34) = true := byte_eq (d := 34) c34
        have hres := (if_pos c34).symm.trans hres
        have hw := dtext_c R s p c r HL.out (by omega) W HS.out
        clear h1
        cases hj : jtext s.size (r.length + 1) r [] with
        | bad er pl =>
          rw [hj] at hw hres
          have HB := Lib.hid (show JR.bad er pl = res from hres)
          go_wp2_with fail
          refine hw.mono ?_; rintro e w2 ⟨v, rfl, rfl, hf, hu⟩
          have HF := Lib.hid hf
          have HU2 := Lib.hid (HU.out.trans hu)
          clear hw hres hj hf hu HS HU c34
          have hz := (HU2.out.block (k := w.heap.size) (by simp) (fun e => hRw (Option.some.inj e))).trans HZ0.out
          obtain ⟨⟨z0, z1, z2, z3, z4⟩, y0, y1, y2, y3, y4⟩ := cellsOf5 hz
          have HZ := Lib.hid hz
          clear hz
          go_wp2
          (try simp only [Exit.inBlock, Exit.then])
          refine bodyPost_ret (results_cell_row rfl _ _ w.heap.size 28 _ (0, 0) _ (by rfl) (set5 HZ.out) Tryd.underlying28 rfl (by kernel_rfl)) rfl ?_
          have hU := ((Upd.of_below HB1.out (some R)).trans HU2.out).trans_below (below_set5 (c0 := .int .i64 4) (c1 := .int .i64 0) (c2 := .string ⟨#[]⟩) (c3 := .slice none 0 0) (c4 := .slice none 0 0) (Below.refl w.heap.size w2) (Nat.le_refl _))
          exact ⟨.mk 4 0 ⟨#[]⟩ [] [], none, 0, none, 0, rfl, rep_flat 4 0 ⟨#[]⟩ (by omega) (by omega) (by decide) _ _, hU, by rw [← HB.out]; exact HF.out.after (other_set5 hRw)⟩
        | ok x q =>
          rw [hj] at hw hres
          have HB := Lib.hid (show JR.ok (JV.mk 4 0 ⟨x.toArray⟩ [] []) q = res from hres)
          go_wp2_with fail
          refine hw.mono ?_; rintro e w2 ⟨q2, v, rfl, ⟨rfl, hxl⟩, hq, hpq, hqs, hsr, hu⟩
          have HF := Lib.hid hsr
          have HQ := Lib.hid hq
          have HU2 := Lib.hid (HU.out.trans hu)
          clear hw hres hj hsr hu hq HS HU c34
          have hz := (HU2.out.block (k := w.heap.size) (by simp) (fun e => hRw (Option.some.inj e))).trans HZ0.out
          obtain ⟨⟨z0, z1, z2, z3, z4⟩, y0, y1, y2, y3, y4⟩ := cellsOf5 hz
          have HZ := Lib.hid hz
          clear hz
          go_wp2
          (try simp only [Exit.inBlock, Exit.then])
          refine bodyPost_ret (results_cell_row rfl _ _ w.heap.size 28 _ (0, 0) _ (by rfl) (set5 HZ.out) Tryd.underlying28 rfl (by kernel_rfl)) rfl ?_
          have hU := ((Upd.of_below HB1.out (some R)).trans HU2.out).trans_below (below_set5 (c0 := .int .i64 4) (c1 := .int .i64 0) (c2 := .string ⟨x.toArray⟩) (c3 := .slice none 0 0) (c4 := .slice none 0 0) (Below.refl w.heap.size w2) (Nat.le_refl _))
          exact ⟨.mk 4 0 ⟨x.toArray⟩ [] [], none, 0, none, 0, rfl, rep_flat 4 0 ⟨x.toArray⟩ (by omega) (by omega) (by show x.toArray.size ≤ maxLen; unfold maxLen; simp; omega) _ _, hU, by rw [← HB.out]; exact ⟨rfl, q2, .inl HQ.out.symm, by omega, hqs, HF.out.after (other_set5 hRw)⟩⟩
      have m34 : ((c.toNat : Int) == 34) = false := byte_ne (d := 34) c34
      have hres := (if_neg c34).symm.trans hres
      clear c34
      by_cases c91 : c = 91
      · have m91 : ((c.toNat : Int) == 91) = true := byte_eq (d := 91) c91
        have hres := (if_pos c91).symm.trans hres
        cases k with
        | zero =>
          have HB := Lib.hid (show JR.bad 17 p = res from by rw [HIH.out.1 (by omega), hrl] at hres; exact hres)
          have hdd : decide (d < 64) = false := by have := HD.out; rw [decide_eq_false_iff_not]; omega
          have hfl := dfail_c R s p 17 p (by decide) W HS.out
          clear hres
          go_wp2_with fail
          refine hfl.mono ?_; rintro e w2 ⟨rfl, hr, hu⟩
          have HF := Lib.hid hr
          have HU2 := Lib.hid (HU.out.trans hu)
          clear hr hu hfl h1 HS HU c91
          have hz := (HU2.out.block (k := w.heap.size) (by simp) (fun e => hRw (Option.some.inj e))).trans HZ0.out
          obtain ⟨⟨z0, z1, z2, z3, z4⟩, y0, y1, y2, y3, y4⟩ := cellsOf5 hz
          have HZ := Lib.hid hz
          clear hz
          go_wp2
          (try simp only [Exit.inBlock, Exit.then])
          refine bodyPost_ret (results_cell_row rfl _ _ w.heap.size 28 _ (0, 0) _ (by rfl) (set5 HZ.out) Tryd.underlying28 rfl (by kernel_rfl)) rfl ?_
          have hU := ((Upd.of_below HB1.out (some R)).trans HU2.out).trans_below (below_set5 (c0 := .int .i64 0) (c1 := .int .i64 0) (c2 := .string ⟨#[]⟩) (c3 := .slice none 0 0) (c4 := .slice none 0 0) (Below.refl w.heap.size w2) (Nat.le_refl _))
          exact ⟨.mk 0 0 ⟨#[]⟩ [] [], none, 0, none, 0, rfl, rep_flat 0 0 ⟨#[]⟩ (by omega) (by omega) (by decide) _ _, hU, by rw [← HB.out]; exact HF.out.after (other_set5 hRw)⟩
        | succ k' =>
          have hdl : d < 64 := by have := HD.out; omega
          have hw := dlist_c s hs k' (by omega) (HIH.out.2.2 k' rfl) R p c r HL.out W HS.out d (by have := HD.out; omega)
          rw [HIH.out.2.1 k' rfl] at hres
          rw [hres] at hw
          clear h1 hres
          go_wp2_with fail
          refine hw.mono ?_; rintro e w2 ⟨t, tan, tcn, tai, tci, rfl, hrep, hu, hpost⟩
          have HP := Lib.hid hpost
          have HREP := Lib.hid hrep
          have HU2 := Lib.hid (HU.out.trans hu)
          have hWs := HU.out.grown.size
          clear hw hpost hrep hu c91
          have hz := (HU2.out.block (k := w.heap.size) (by simp) (fun e => hRw (Option.some.inj e))).trans HZ0.out
          obtain ⟨⟨z0, z1, z2, z3, z4⟩, y0, y1, y2, y3, y4⟩ := cellsOf5 hz
          have HZ := Lib.hid hz
          clear hz
          go_wp2
          (try simp only [Exit.inBlock, Exit.then])
          refine bodyPost_ret (results_cell_row rfl _ _ w.heap.size 28 _ (0, 0) _ (by rfl) (set5 HZ.out) Tryd.underlying28 rfl (by kernel_rfl)) rfl ?_
          have hU := ((Upd.of_below HB1.out (some R)).trans HU2.out).trans_below (below_set5 (c0 := .int .i64 t.kind) (c1 := .int .i64 t.int) (c2 := .string t.text) (c3 := .slice tan t.names.length tcn) (c4 := .slice tai t.items.length tci) (Below.refl w.heap.size w2) (Nat.le_refl _))
          refine ⟨t, tan, tcn, tai, tci, rfl, Rep.kept (fun b hlt hb => ⟨by rw [hs1] at hWs; omega, other_set5 (by rw [hs1] at hWs; omega)⟩) _ _ HREP.out, hU, ?_⟩
          have hP := HP.out
          cases res with
          | bad er pl => exact (show FltAt w2 R s er pl from hP).after (other_set5 hRw)
          | ok u r9 =>
            obtain ⟨h1, q, h2, h3, h4, h5⟩ := hP
            exact ⟨h1, q, h2, h3, h4, h5.after (other_set5 hRw)⟩
      have m91 : ((c.toNat : Int) == 91) = false := byte_ne (d := 91) c91
      have hres := (if_neg c91).symm.trans hres
      clear c91
      by_cases c123 : c = 123
      · have m123 : ((c.toNat : Int) == 123) = true := byte_eq (d := 123) c123
        have hres := (if_pos c123).symm.trans hres
        cases k with
        | zero =>
          have HB := Lib.hid (show JR.bad 17 p = res from by rw [HIH.out.1 (by omega), hrl] at hres; exact hres)
          have hdd : decide (d < 64) = false := by have := HD.out; rw [decide_eq_false_iff_not]; omega
          have hfl := dfail_c R s p 17 p (by decide) W HS.out
          clear hres
          go_wp2_with fail
          refine hfl.mono ?_; rintro e w2 ⟨rfl, hr, hu⟩
          have HF := Lib.hid hr
          have HU2 := Lib.hid (HU.out.trans hu)
          clear hr hu hfl h1 HS HU c123
          have hz := (HU2.out.block (k := w.heap.size) (by simp) (fun e => hRw (Option.some.inj e))).trans HZ0.out
          obtain ⟨⟨z0, z1, z2, z3, z4⟩, y0, y1, y2, y3, y4⟩ := cellsOf5 hz
          have HZ := Lib.hid hz
          clear hz
          go_wp2
          (try simp only [Exit.inBlock, Exit.then])
          refine bodyPost_ret (results_cell_row rfl _ _ w.heap.size 28 _ (0, 0) _ (by rfl) (set5 HZ.out) Tryd.underlying28 rfl (by kernel_rfl)) rfl ?_
          have hU := ((Upd.of_below HB1.out (some R)).trans HU2.out).trans_below (below_set5 (c0 := .int .i64 0) (c1 := .int .i64 0) (c2 := .string ⟨#[]⟩) (c3 := .slice none 0 0) (c4 := .slice none 0 0) (Below.refl w.heap.size w2) (Nat.le_refl _))
          exact ⟨.mk 0 0 ⟨#[]⟩ [] [], none, 0, none, 0, rfl, rep_flat 0 0 ⟨#[]⟩ (by omega) (by omega) (by decide) _ _, hU, by rw [← HB.out]; exact HF.out.after (other_set5 hRw)⟩
        | succ k' =>
          have hdl : d < 64 := by have := HD.out; omega
          have hw := dobject_c s hs k' (by omega) (HIH.out.2.2 k' rfl) R p c r HL.out W HS.out d (by have := HD.out; omega)
          rw [HIH.out.2.1 k' rfl] at hres
          rw [hres] at hw
          clear h1 hres
          go_wp2_with fail
          refine hw.mono ?_; rintro e w2 ⟨t, tan, tcn, tai, tci, rfl, hrep, hu, hpost⟩
          have HP := Lib.hid hpost
          have HREP := Lib.hid hrep
          have HU2 := Lib.hid (HU.out.trans hu)
          have hWs := HU.out.grown.size
          clear hw hpost hrep hu c123
          have hz := (HU2.out.block (k := w.heap.size) (by simp) (fun e => hRw (Option.some.inj e))).trans HZ0.out
          obtain ⟨⟨z0, z1, z2, z3, z4⟩, y0, y1, y2, y3, y4⟩ := cellsOf5 hz
          have HZ := Lib.hid hz
          clear hz
          go_wp2
          (try simp only [Exit.inBlock, Exit.then])
          refine bodyPost_ret (results_cell_row rfl _ _ w.heap.size 28 _ (0, 0) _ (by rfl) (set5 HZ.out) Tryd.underlying28 rfl (by kernel_rfl)) rfl ?_
          have hU := ((Upd.of_below HB1.out (some R)).trans HU2.out).trans_below (below_set5 (c0 := .int .i64 t.kind) (c1 := .int .i64 t.int) (c2 := .string t.text) (c3 := .slice tan t.names.length tcn) (c4 := .slice tai t.items.length tci) (Below.refl w.heap.size w2) (Nat.le_refl _))
          refine ⟨t, tan, tcn, tai, tci, rfl, Rep.kept (fun b hlt hb => ⟨by rw [hs1] at hWs; omega, other_set5 (by rw [hs1] at hWs; omega)⟩) _ _ HREP.out, hU, ?_⟩
          have hP := HP.out
          cases res with
          | bad er pl => exact (show FltAt w2 R s er pl from hP).after (other_set5 hRw)
          | ok u r9 =>
            obtain ⟨h1, q, h2, h3, h4, h5⟩ := hP
            exact ⟨h1, q, h2, h3, h4, h5.after (other_set5 hRw)⟩
      have m123 : ((c.toNat : Int) == 123) = false := byte_ne (d := 123) c123
      have hres := (if_neg c123).symm.trans hres
      clear c123
      have HB := Lib.hid (show JR.bad 10 p = res from by rw [hrl] at hres; exact hres)
      have hfl := dfail_c R s p 10 p (by decide) W HS.out
      clear hres
      go_wp2_with fail
      refine hfl.mono ?_; rintro e w2 ⟨rfl, hr, hu⟩
      have HF := Lib.hid hr
      have HU2 := Lib.hid (HU.out.trans hu)
      clear hr hu hfl h1 HS HU
      have hz := (HU2.out.block (k := w.heap.size) (by simp) (fun e => hRw (Option.some.inj e))).trans HZ0.out
      obtain ⟨⟨z0, z1, z2, z3, z4⟩, y0, y1, y2, y3, y4⟩ := cellsOf5 hz
      have HZ := Lib.hid hz
      clear hz
      go_wp2
      (try simp only [Exit.inBlock, Exit.then])
      refine bodyPost_ret (results_cell_row rfl _ _ w.heap.size 28 _ (0, 0) _ (by rfl) (set5 HZ.out) Tryd.underlying28 rfl (by kernel_rfl)) rfl ?_
      have hU := ((Upd.of_below HB1.out (some R)).trans HU2.out).trans_below (below_set5 (c0 := .int .i64 0) (c1 := .int .i64 0) (c2 := .string ⟨#[]⟩) (c3 := .slice none 0 0) (c4 := .slice none 0 0) (Below.refl w.heap.size w2) (Nat.le_refl _))
      exact ⟨.mk 0 0 ⟨#[]⟩ [] [], none, 0, none, 0, rfl, rep_flat 0 0 ⟨#[]⟩ (by omega) (by omega) (by decide) _ _, hU, by rw [← HB.out]; exact HF.out.after (other_set5 hRw)⟩
theorem dvalue_all (s : ByteArray) (hs : s.size < 1099511627776) : ∀ (k : Nat), k ≤ 64 → DvalSaid s k
  | 0, hk => dvalue_step s hs 0 hk (fun _ r => .bad 17 (s.size - (r.length + 1))) (fun _ => rfl) (fun _ _ _ => rfl) (fun k' e => by omega) (fun k' e => by omega)
  | k + 1, hk => dvalue_step s hs (k + 1) hk (fun o r => jitems s.size (jval s.size k) o (r.length + 1) r [] []) (fun _ => rfl) (fun h => by omega)
    (fun k' e o r => (Nat.succ.inj e) ▸ rfl) (fun k' e => (Nat.succ.inj e) ▸ dvalue_all s hs k (by omega))
end Go.Proofs.YtbkbokfegjodnaaDoor
