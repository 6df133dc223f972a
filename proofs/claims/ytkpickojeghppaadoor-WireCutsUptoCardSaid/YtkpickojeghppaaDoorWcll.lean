/- The walk of later (the client's). Conditions: at most a thousand asks are open, at most 2 to the 40 replies are kept. -/
import Derived.Test.YtkpickojeghppaaDoorWrep
import Derived.Deep.RegionLaw
namespace Go.Proofs.YtkpickojeghppaaDoor
open Go.RowKit
theorem replTy : SlTy Tryd.prog 116 122 (.agg #[.int .u32 0, .string ⟨#[]⟩]) 2 24 := ⟨by kernel_rfl, by kernel_rfl, by kernel_rfl, by decide⟩
theorem cameV_append (a b : List (Nat × ByteArray)) : cameV (a ++ b) = cameV a ++ cameV b := by simp [cameV]
/-- what came has grown -/
theorem cl_cgrown {w : World} {R : Nat} {V : CV} {s s2 : Cl} (h : CK.At w R V s) {q' : Value} {w1 : World} (hu : Upd w w1 V.r.ownBlock q'.ownBlock) (hs : Slab w1 2 q' s2.came.length (cameV s2.came))
    (hc : ((clCells R V s).setIfInBounds 9 q') = clCells R { V with r := q' } s2) (hi : s2.closed = s.closed) (hin : s2.inp = s.inp) (ho : s2.out = s.out) (hr : s2.asked = s.asked) :
    CK.At (w1.setCell ⟨R, 9, none⟩ q') R { V with r := q' } s2 ∧ Turn (CK.F R V s) w (w1.setCell ⟨R, 9, none⟩ q') ∧ ∀ g, CK.F R { V with r := q' } s2 g → CK.F R V s g ∨ w.heap.size ≤ g := by
  have hR := h.ltR
  have hb1 : w1.heap[R]? = some (.cells (clCells R V s) 118 (0, 0)) := (hu.block hR (h.nR _ (.tail _ (.tail _ (.tail _ (.head _)))))).trans h.blk
  have hb2 := heap_setCell_same w1 R 9 _ _ q' hb1
  rw [hc] at hb2
  have hn : ∀ g, q'.ownBlock = some g → V.r.ownBlock = some g ∨ w.heap.size ≤ g := fun g hg => by
    rcases hu.own with e | ⟨q, e, hq⟩
    · left; rw [← e]; exact hg
    · right; rw [e] at hg; rw [← Option.some.inj hg]; exact hq
  have hne : ∀ g, q'.ownBlock = some g → g ≠ R := fun g hg e => by
    subst e
    rcases hn g hg with e | e
    · exact h.nR _ (.tail _ (.tail _ (.tail _ (.head _)))) e
    · omega
  have hs2 : Slab (w1.setCell ⟨R, 9, none⟩ q') 2 q' s2.came.length (cameV s2.came) := Slab.same hs (fun g hg => heap_setCell_other _ _ _ _ (hne g hg))
  refine EK.repl (K := CK) (s2 := s2) [⟨1, V.i, s.inp.length, bytesV s.inp, s.closed = false⟩, ⟨1, V.o, s.out.length, bytesV s.out, True⟩, ⟨1, V.q, s.asked.length, numsV s.asked, True⟩] []
    ⟨2, V.r, s.came.length, cameV s.came, True⟩ ⟨2, q', s2.came.length, cameV s2.came, True⟩ rfl (by show clParts _ s2 = _; simp only [clParts, hi, hin, ho, hr]; rfl) h ?_ hb2 (fun _ => hs2) (fun g hg => Slab.lt hs2 hg) hn
  exact ((Turn.refl (fun g => g = R ∨ V.r.ownBlock = some g) w).upd hu (fun g hg => .inl (.inr hg))).set (.inl (.inl rfl)) 9 q'
/-- the first ask is no more -/
theorem cl_qtail {w : World} {R G o o2 cap : Nat} {vi vo vr : Value} {s : Cl} {x : Nat} {r : List Nat} (h : CK.At w R ⟨vi, vo, .slice (some ⟨G, o, none⟩) s.asked.length cap, vr⟩ s) (hx : s.asked = x :: r) (c3 : Nat) (hc3 : c3 = cap - 1) (hp : o2 = o + 1 ∨ cap - 1 = 0) :
    CK.At (w.setCell ⟨R, 8, none⟩ (.slice (some ⟨G, o2, none⟩) (s.asked.length - 1) c3)) R ⟨vi, vo, .slice (some ⟨G, o2, none⟩) (s.asked.length - 1) c3, vr⟩ { s with asked := r } ∧
    Turn (CK.F R ⟨vi, vo, .slice (some ⟨G, o, none⟩) s.asked.length cap, vr⟩ s) w (w.setCell ⟨R, 8, none⟩ (.slice (some ⟨G, o2, none⟩) (s.asked.length - 1) c3)) ∧
    ∀ g, CK.F R ⟨vi, vo, .slice (some ⟨G, o2, none⟩) (s.asked.length - 1) c3, vr⟩ { s with asked := r } g → CK.F R ⟨vi, vo, .slice (some ⟨G, o, none⟩) s.asked.length cap, vr⟩ s g ∨ w.heap.size ≤ g := by
  subst hc3
  have hG : G < w.heap.size := h.lt _ (.tail _ (.tail _ (.head _))) G rfl
  have hne : G ≠ R := fun e => h.nR _ (.tail _ (.tail _ (.head _))) (by rw [← e]; rfl)
  have hs := Slab.tail (cl_asked h) 1 (by rw [hx]; simp) (o2 := o2) (by simpa using hp)
  rw [hx] at hs
  have hs2 : Slab w 1 (.slice (some ⟨G, o2, none⟩) (s.asked.length - 1) (cap - 1)) r.length (numsV r) := by rw [hx]; exact hs
  exact EK.repl (K := CK) (v2 := ⟨vi, vo, .slice (some ⟨G, o2, none⟩) (s.asked.length - 1) (cap - 1), vr⟩) (s2 := { s with asked := r }) [⟨1, vi, s.inp.length, bytesV s.inp, s.closed = false⟩, ⟨1, vo, s.out.length, bytesV s.out, True⟩] [⟨2, vr, s.came.length, cameV s.came, True⟩]
    ⟨1, .slice (some ⟨G, o, none⟩) s.asked.length cap, s.asked.length, numsV s.asked, True⟩ ⟨1, .slice (some ⟨G, o2, none⟩) (s.asked.length - 1) (cap - 1), r.length, numsV r, True⟩ rfl rfl h ((Turn.refl (fun g => g = R ∨ _) w).set (.inl (.inl rfl)) 8 _) (heap_setCell_same _ R 8 _ _ _ h.blk)
    (fun _ => Slab.same hs2 (fun g hg => heap_setCell_other _ _ _ _ (by rw [← Option.some.inj hg]; exact hne))) (fun g hg => by rw [← Option.some.inj hg]; simpa using hG) (fun g hg => .inl hg)
theorem EK.chain {V S : Type} {K : EK V S} {R : Nat} {v v3 v4 : V} {s s3 s4 : S} {w wd w3 w4 : World} (hb : Below w.heap.size w wd) (ht : Turn (K.F R v s) wd w3) (hn : ∀ g, K.F R v3 s3 g → K.F R v s g ∨ wd.heap.size ≤ g) (h : K.At w4 R v4 s4 ∧ Turn (K.F R v3 s3) w3 w4 ∧ ∀ g, K.F R v4 s4 g → K.F R v3 s3 g ∨ w3.heap.size ≤ g) (r : Value) : K.Post R v s w s4 r (.returned r) w4 :=
  EK.seq (v1 := v3) (s1 := s3) ((Turn.of_below hb).trans (ht.weak (fun _ hg => .inl hg))) (fun g hg => (hn g hg).imp (fun e => e) (fun e => Nat.le_trans hb.size e)) ⟨v4, rfl, h.1, h.2.1, h.2.2⟩
set_option maxRecDepth 20000 in
set_option maxHeartbeats 4000000 in
/-- a reply -/
theorem clLater4_c (R : Nat) (V : CV) (s : Cl) (hb : s.began = true) (id to : Nat) (body : ByteArray) (sm : Bool) (hal : s.asked.length ≤ 1000) (hcl : s.came.length ≤ 1099511627776) (w : World) (h : CK.At w R V s) :
    Calls Tryd.prog 76 #[.pointer (some ⟨R, 0, none⟩), .agg #[.int .u32 (id : Int), .int .u32 (to : Int), .int .i64 4, .string body, .bool sm]] w (CK.Post R V s w (s.take ⟨id, to, 4, body, sm⟩).1 (.int .i64 ((s.take ⟨id, to, 4, body, sm⟩).2 : Int))) := by
  have hRl := h.ltR
  have hb0 : Below w.heap.size w (w.alloc (.cells #[.int .u32 (id : Int), .int .u32 (to : Int), .int .i64 4, .string body, .bool sm] 27)) := (Below.refl _ _).alloc (Nat.le_refl _) _
  have HW := Lib.hid (fun (n : Nat) => And.intro (StAt.below h (below_drewN hb0 n) : CK.At _ R V s) (And.intro (below_drewN hb0 n) (show ((w.alloc (.cells #[.int .u32 (id : Int), .int .u32 (to : Int), .int .i64 4, .string body, .bool sm] 27)).drewN n).heap[w.heap.size]? = some (.cells #[.int .u32 (id : Int), .int .u32 (to : Int), .int .i64 4, .string body, .bool sm] 27) from heap_alloc_new w _)))
  have c8 := (cl_cells h).1.2.2.2.2.2.2.2.2.1
  obtain ⟨A, cap, hvq, hnc, hcm, hform⟩ := Slab.form (cl_asked h)
  obtain ⟨vi, vo, vq, vr⟩ := V
  simp only at hvq c8
  subst hvq
  obtain ⟨l, hl⟩ : ∃ l, s.asked = l := ⟨_, rfl⟩
  cases l with
  | nil =>
    have HT := Lib.hid (show s.take ⟨id, to, 4, body, sm⟩ = (s, 284) by unfold Cl.take; rw [if_neg (by rw [hb]; decide), if_pos rfl, hl])
    have hz : s.asked.length = 0 := by rw [hl]; rfl
    have c8' := c8
    rw [hz] at c8'
    clear h hb hb0 c8 hl hform hz hnc
    go_enter Tryd.func76, Tryd.ntmps76
    go_wp2
    go_quiet (fail)
    go_wp2
    go_ret
    rw [HT.out]
    exact ⟨_, rfl, (HW.out nq).1, Turn.of_below (HW.out nq).2.1, fun g hg => .inl hg⟩
  | cons x r =>
    have hlen : s.asked.length = r.length + 1 := by rw [hl]; rfl
    obtain ⟨G, o, rfl, hG⟩ : ∃ G o, A = some ⟨G, o, none⟩ ∧ w.rangeAt G o (numsV s.asked) := by
      rcases hform with ⟨_, h0, _⟩ | ⟨g, off, h1, _, _, h2, _⟩
      · omega
      · exact ⟨g, off, h1, h2⟩
    have d0 : w.cell? ⟨G, o, none⟩ = some (.int .u32 (x : Int)) := hG 0 _ (by rw [hl]; rfl)
    have hGl := cell_lt d0
    simp only at hGl
    have hn1 : (0 : Int) < (s.asked.length : Int) := by omega
    have hnp : 0 < s.asked.length := by omega
    have hnd : decide (0 < s.asked.length) = true := decide_eq_true hnp
    by_cases hx : to = x
    · subst hx
      have HT := Lib.hid (show s.take ⟨id, to, 4, body, sm⟩ = ({ s with came := s.came ++ [(to, body)], asked := r }, 0) by unfold Cl.take; rw [if_neg (by rw [hb]; decide), if_pos rfl, hl]; exact if_pos rfl)
      have HL := Lib.hid hl
      clear h hb hb0 hform hG hl hlen
      go_enter Tryd.func76, Tryd.ntmps76
      go_wp2
      go_big_quiet (fail)
      obtain ⟨h1, hb1, hx1⟩ := HW.out nq
      have H1 := Lib.hid h1
      have HB1 := Lib.hid hb1
      have c9 := (cl_cells h1).1.2.2.2.2.2.2.2.2.2.1
      obtain ⟨A9, cap9, hvr, _, _, _⟩ := Slab.form (cl_came h1)
      simp only at hvr c9
      subst hvr
      obtain ⟨⟨b0, b1, b2, b3, b4⟩, _⟩ := cellsOf5 hx1
      have c8' := (cl_cells h1).1.2.2.2.2.2.2.2.2.1
      have hRl1 := h1.ltR
      clear h1 hb1 hx1 HW c8 d0
      generalize (w.alloc (.cells #[.int .u32 (id : Int), .int .u32 (to : Int), .int .i64 4, .string body, .bool sm] 27)).drewN nq = W at *
      go_wp2
      have c9a := cell_below (show Below W.heap.size W (W.alloc (.cells #[.int .u32 (to : Int), .string body] 122)) from (by repeat (first | with_reducible exact Below.refl _ _ | with_reducible refine below_drewN ?_ _ | with_reducible refine Below.drew ?_ | with_reducible refine Below.alloc ?_ (by first | (simp; done) | (simp; omega)) _ | with_reducible refine Below.setCell ?_ (by first | (simp; done) | (simp; omega)) _))) c9
      have c9b := cell_below (show Below W.heap.size W (W.drew.alloc (.cells #[.int .u32 (to : Int), .string body] 122)) from (by repeat (first | with_reducible exact Below.refl _ _ | with_reducible refine below_drewN ?_ _ | with_reducible refine Below.drew ?_ | with_reducible refine Below.alloc ?_ (by first | (simp; done) | (simp; omega)) _ | with_reducible refine Below.setCell ?_ (by first | (simp; done) | (simp; omega)) _))) c9
      go_region_law (first
          | (refine step_slab replTy 116 (by rfl) _ _ (by rfl) (.slice A9 s.came.length cap9) s.came.length (cameV s.came) (by rfl) (Slab.below (cl_came H1.out) (by repeat (first | with_reducible exact Below.refl _ _ | with_reducible refine below_drewN ?_ _ | with_reducible refine Below.drew ?_ | with_reducible refine Below.alloc ?_ (by first | (simp; done) | (simp; omega)) _ | with_reducible refine Below.setCell ?_ (by first | (simp; done) | (simp; omega)) _))) (.slice (some ⟨W.heap.size, 0, none⟩) 1 1) (by rfl) 1 [.int .u32 (to : Int), .string body] (Src.ofSlice _ replTy.slice _ 1 1 _ rfl (World.news_of_block (heap_alloc_new _ _)) (by simp [Value.oneCell'])) (by unfold maxLen; omega) (by omega) ?_; intro vr2 W2 hs2 hu2; have hBq : CK.At _ R ⟨vi, vo, .slice (some ⟨G, o, none⟩) s.asked.length cap, .slice A9 s.came.length cap9⟩ s := StAt.below (w' := W.drew.alloc (.cells #[.int .u32 (to : Int), .string body] 122)) H1.out (by repeat (first | with_reducible exact Below.refl _ _ | with_reducible refine below_drewN ?_ _ | with_reducible refine Below.drew ?_ | with_reducible refine Below.alloc ?_ (by first | (simp; done) | (simp; omega)) _ | with_reducible refine Below.setCell ?_ (by first | (simp; done) | (simp; omega)) _)); have hbq := (hu2.block hBq.ltR (hBq.nR _ (.tail _ (.tail _ (.tail _ (.head _)))))).trans hBq.blk; have d9 : W2.cell? ⟨R, 9, none⟩ = some (.slice A9 s.came.length cap9) := cell_of_row _ _ _ _ _ _ hbq; have e9 : W2.frozen? ⟨R, 9, none⟩ = false := frozen_of_row _ _ _ _ _ hbq; have hs2' : Slab W2 2 vr2 (s.came ++ [(to, body)]).length (cameV (s.came ++ [(to, body)])) := (by rw [List.length_append, cameV_append]; exact hs2); obtain ⟨hf1, hf2, hf3⟩ := cl_cgrown hBq (s2 := { s with came := s.came ++ [(to, body)] }) hu2 hs2' rfl rfl rfl rfl rfl; have hd8 := (cl_cells hf1).1.2.2.2.2.2.2.2.2.1; have hk8 := (cl_cells hf1).2 8; have hRl2 := hf1.ltR; have HFIN := Lib.hid (And.intro hf1 (And.intro (HB1.out.trans (show Below w.heap.size W (W.drew.alloc (.cells #[.int .u32 (to : Int), .string body] 122)) from Below.mono (by repeat (first | with_reducible exact Below.refl _ _ | with_reducible refine below_drewN ?_ _ | with_reducible refine Below.drew ?_ | with_reducible refine Below.alloc ?_ (by first | (simp; done) | (simp; omega)) _ | with_reducible refine Below.setCell ?_ (by first | (simp; done) | (simp; omega)) _)) HB1.out.size)) (And.intro hf2 hf3))); obtain ⟨A2, cap2, hv2, _⟩ := Slab.form hs2; subst hv2; clear hs2 hu2 hBq hbq hs2' hf1 hf2 hf3))
      all_goals (
        obtain ⟨a1, a2, a3, a4⟩ := HFIN.out
        by_cases hc3 : cap - 1 = 0
        · have HQ := Lib.hid (EK.chain a2 a3 a4 (cl_qtail (s := { s with came := s.came ++ [(to, body)] }) (o2 := o) a1 HL.out 0 hc3.symm (.inr hc3)) (.int .i64 0))
          clear a1 a2 a3 a4
          go_wp2
          go_ret
          rw [HT.out]
          exact HQ.out
        · have hcx : 1 ≤ cap := by omega
          have HQ := Lib.hid (EK.chain a2 a3 a4 (cl_qtail (s := { s with came := s.came ++ [(to, body)] }) (o2 := o + 1) a1 HL.out (cap - 1) rfl (.inl rfl)) (.int .i64 0))
          clear a1 a2 a3 a4
          go_wp2
          go_ret
          rw [HT.out]
          exact HQ.out)
    · have HT := Lib.hid (show s.take ⟨id, to, 4, body, sm⟩ = (s, 284) by unfold Cl.take; rw [if_neg (by rw [hb]; decide), if_pos rfl, hl]; exact if_neg hx)
      have hxb : ((to : Int) == (x : Int)) = false := by rw [beq_eq_false_iff_ne]; omega
      clear h hb hb0 hform hG hl hlen hx
      go_enter Tryd.func76, Tryd.ntmps76
      go_wp2
      go_big_quiet (fail)
      go_wp2
      go_ret
      rw [HT.out]
      exact ⟨_, rfl, (HW.out nq).1, Turn.of_below (HW.out nq).2.1, fun g hg => .inl hg⟩
set_option maxRecDepth 20000 in
set_option maxHeartbeats 4000000 in
/-- a bye -/
theorem clLater5_c (R : Nat) (V : CV) (s : Cl) (hb : s.began = true) (id to : Nat) (body : ByteArray) (sm : Bool) (w : World) (h : CK.At w R V s) :
    Calls Tryd.prog 76 #[.pointer (some ⟨R, 0, none⟩), .agg #[.int .u32 (id : Int), .int .u32 (to : Int), .int .i64 5, .string body, .bool sm]] w (CK.Post R V s w (s.take ⟨id, to, 5, body, sm⟩).1 (.int .i64 ((s.take ⟨id, to, 5, body, sm⟩).2 : Int))) := by
  have hRl := h.ltR
  have hb0 : Below w.heap.size w (w.alloc (.cells #[.int .u32 (id : Int), .int .u32 (to : Int), .int .i64 5, .string body, .bool sm] 27)) := (Below.refl _ _).alloc (Nat.le_refl _) _
  have HW := Lib.hid (fun (n : Nat) => And.intro (StAt.below h (below_drewN hb0 n) : CK.At _ R V s) (below_drewN hb0 n))
  obtain ⟨⟨_, _, _, _, _, _, _, _, c8, _, c10, c11⟩, _⟩ := cl_cells h
  obtain ⟨A, cap, hvq, hnc, hcm, _⟩ := Slab.form (cl_asked h)
  obtain ⟨vi, vo, vq, vr⟩ := V
  simp only at hvq c8
  subst hvq
  by_cases hall : s.ending ∧ to = s.bye ∧ s.asked = []
  · have HT := Lib.hid (show s.take ⟨id, to, 5, body, sm⟩ = ({ s with closed := true }, 0) by unfold Cl.take; rw [if_neg (by rw [hb]; decide), if_neg (by simp), if_pos rfl]; exact if_pos hall)
    have HSH := Lib.hid (fun (n : Nat) => cl_put (HW.out n).1 (s2 := { s with closed := true }) ((Turn.refl (fun g => g = R) _).set (.inl rfl) 2 (.bool false)) (heap_setCell_same _ R 2 _ _ (.bool false) (HW.out n).1.blk) (fun a => by cases a) rfl rfl rfl)
    have HSC := Lib.hid (fun (n : Nat) => And.intro (cl_cells (HW.out n).1).1.2.2.1 ((cl_cells (HW.out n).1).2 2))
    obtain ⟨he, ht, hl⟩ := hall
    rw [he] at c11
    rw [← ht] at c10
    have hz : s.asked.length = 0 := by rw [hl]; rfl
    have c8' := c8
    rw [hz] at c8'
    clear h hb hb0 c8 hz hl ht he hnc
    go_enter Tryd.func76, Tryd.ntmps76
    go_wp2
    go_big_quiet (fail)
    have c2 := (HSC.out nq).1
    have f2 := (HSC.out nq).2
    go_wp2
    go_ret
    rw [HT.out]
    exact EK.chain (HW.out nq).2 (Turn.refl _ _) (fun g hg => .inl hg) (HSH.out nq) _
  · have HT := Lib.hid (show s.take ⟨id, to, 5, body, sm⟩ = (s, 284) by unfold Cl.take; rw [if_neg (by rw [hb]; decide), if_neg (by simp), if_pos rfl]; exact if_neg hall)
    by_cases he : s.ending = true
    · rw [he] at c11
      by_cases ht : to = s.bye
      · have hl : 0 < s.asked.length := by
          rcases Nat.eq_zero_or_pos s.asked.length with e | e
          · exact absurd ⟨he, ht, List.eq_nil_of_length_eq_zero e⟩ hall
          · exact e
        have hlb : ((s.asked.length : Int) == 0) = false := by rw [beq_eq_false_iff_ne]; omega
        rw [← ht] at c10
        clear h hb hb0 hall he ht hl
        go_enter Tryd.func76, Tryd.ntmps76
        go_wp2
        go_big_quiet (fail)
        go_wp2
        go_ret
        rw [HT.out]
        exact ⟨_, rfl, (HW.out nq).1, Turn.of_below (HW.out nq).2, fun g hg => .inl hg⟩
      · have htb : ((to : Int) == (s.bye : Int)) = false := by rw [beq_eq_false_iff_ne]; omega
        clear h hb hb0 hall he ht
        go_enter Tryd.func76, Tryd.ntmps76
        go_wp2
        go_big_quiet (fail)
        go_wp2
        go_ret
        rw [HT.out]
        exact ⟨_, rfl, (HW.out nq).1, Turn.of_below (HW.out nq).2, fun g hg => .inl hg⟩
    · have he2 : s.ending = false := by simpa using he
      rw [he2] at c11
      clear h hb hb0 hall he he2
      go_enter Tryd.func76, Tryd.ntmps76
      go_wp2
      go_big_quiet (fail)
      go_wp2
      go_ret
      rw [HT.out]
      exact ⟨_, rfl, (HW.out nq).1, Turn.of_below (HW.out nq).2, fun g hg => .inl hg⟩
set_option maxRecDepth 20000 in
set_option maxHeartbeats 4000000 in
/-- whatever else -/
theorem clLater0_c (R : Nat) (V : CV) (s : Cl) (hb : s.began = true) (id to : Nat) (kind : Int) (body : ByteArray) (sm : Bool) (h4 : kind ≠ 4) (h5 : kind ≠ 5) (h6 : kind ≠ 6) (w : World) (h : CK.At w R V s) :
    Calls Tryd.prog 76 #[.pointer (some ⟨R, 0, none⟩), .agg #[.int .u32 (id : Int), .int .u32 (to : Int), .int .i64 kind, .string body, .bool sm]] w (CK.Post R V s w (s.take ⟨id, to, kind, body, sm⟩).1 (.int .i64 ((s.take ⟨id, to, kind, body, sm⟩).2 : Int))) := by
  have HT := Lib.hid (show s.take ⟨id, to, kind, body, sm⟩ = (s, 284) by unfold Cl.take; rw [if_neg (by rw [hb]; decide), if_neg h4, if_neg h5, if_neg h6])
  have HF := Lib.hid (EK.post_below h ((Below.refl _ _).alloc (Nat.le_refl _) (.cells #[.int .u32 (id : Int), .int .u32 (to : Int), .int .i64 kind, .string body, .bool sm] 27)) (.int .i64 284))
  have k4 : (kind == 4) = false := by rw [beq_eq_false_iff_ne]; exact h4
  have k5 : (kind == 5) = false := by rw [beq_eq_false_iff_ne]; exact h5
  have k6 : (kind == 6) = false := by rw [beq_eq_false_iff_ne]; exact h6
  clear h hb h4 h5 h6
  go_enter Tryd.func76, Tryd.ntmps76
  go_wp2
  go_ret
  rw [HT.out]
  exact HF.out
end Go.Proofs.YtkpickojeghppaaDoor
