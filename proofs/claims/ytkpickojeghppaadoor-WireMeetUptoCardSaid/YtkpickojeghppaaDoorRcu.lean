/- The walk of takes (the document's client), what may come. Conditions: at most a thousand asks are open, at most 2 to the 40 replies are kept. -/
import Derived.Test.YtkpickojeghppaaDoorRct
import Derived.Deep.RegionLaw
namespace Go.Proofs.YtkpickojeghppaaDoor
open Go.RowKit
theorem faultN_pos (l : List UInt8) : faultN l ≠ 0 ∧ faultN l ≤ 999 := by
  unfold faultN
  split
  · split
    · rename_i n _ hn
      omega
    · exact ⟨by decide, by decide⟩
  · exact ⟨by decide, by decide⟩
set_option maxRecDepth 20000 in
set_option maxHeartbeats 4000000 in
/-- a fault -/
theorem rctS6 (R : Nat) (V : CV) (s : Cl) (id to : Nat) (body : ByteArray) (sm : Bool) (hb : s.began = true) (hbs : body.size ≤ 9223372036854770000) (w : World) (h : RCK.At w R V s) :
    Calls Tryd.prog 70 #[.pointer (some ⟨R, 0, none⟩), .agg #[.int .u32 (id : Int), .int .u32 (to : Int), .int .i64 6, .string body, .bool sm]] w (RCK.Post R V s w (s.took ⟨id, to, 6, body, sm⟩) (.tuple #[])) := by
  have HT := Lib.hid (show s.took ⟨id, to, 6, body, sm⟩ = s.stop (faultN body.data.toList) by
    have ht : s.take ⟨id, to, 6, body, sm⟩ = (s, faultN body.data.toList) := by unfold Cl.take; rw [if_neg (by rw [hb]; decide), if_neg (by simp), if_neg (by simp), if_pos rfl]; rfl
    unfold Cl.took Cl.failed
    rw [ht]
    exact if_neg (faultN_pos _).1)
  have hRl := h.ltR
  have hb0 : Below w.heap.size w (w.alloc (.cells #[.int .u32 (id : Int), .int .u32 (to : Int), .int .i64 6, .string body, .bool sm] 27)) := (Below.refl _ _).alloc (Nat.le_refl _) _
  obtain ⟨⟨_, _, _, _, _, c5, _⟩, _⟩ := rc_cells h
  rw [hb] at c5
  have HRE := Lib.hid (reason_c body hbs (w.alloc (.cells #[.int .u32 (id : Int), .int .u32 (to : Int), .int .i64 6, .string body, .bool sm] 27)))
  have HFL := Lib.hid (fun (w2 : World) (hw : Below w.heap.size w w2) => rcfails_b R V s (faultN body.data.toList) w h w2 hw)
  have HB0 := Lib.hid hb0
  clear h hb hb0 hbs
  go_enter Tryd.func70, Tryd.ntmps70
  go_wp2_with fail
  refine HRE.out.mono ?_; rintro e w1 ⟨rfl, hb1⟩
  have HFN := Lib.hid (HFL.out w1 (HB0.out.trans (hb1.mono HB0.out.size)))
  clear hb1
  go_wp2_with fail
  refine HFN.out.mono ?_; rintro e w2 ⟨V2, rfl, h2, ht2, hn2⟩
  have HF := Lib.hid (And.intro h2 (And.intro ht2 hn2))
  clear h2 ht2 hn2
  go_wp2
  go_end0
  rw [HT.out]
  exact ⟨V2, rfl, HF.out.1, HF.out.2.1, HF.out.2.2⟩
set_option maxRecDepth 20000 in
set_option maxHeartbeats 4000000 in
/-- the welcome -/
theorem rctS2 (R : Nat) (V : CV) (s : Cl) (id : Nat) (body : ByteArray) (sm : Bool) (hb : s.began = false) (hc : s.closed = false) (w : World) (h : RCK.At w R V s) :
    Calls Tryd.prog 70 #[.pointer (some ⟨R, 0, none⟩), .agg #[.int .u32 (id : Int), .int .u32 1, .int .i64 2, .string body, .bool sm]] w (RCK.Post R V s w (s.took ⟨id, 1, 2, body, sm⟩) (.tuple #[])) := by
  have HT := Lib.hid (show s.took ⟨id, 1, 2, body, sm⟩ = { s with began := true } by
    have ht : s.take ⟨id, 1, 2, body, sm⟩ = ({ s with began := true }, 0) := by unfold Cl.take; rw [if_pos hb]; rfl
    unfold Cl.took Cl.failed
    rw [ht]
    exact if_pos rfl)
  have hRl := h.ltR
  obtain ⟨⟨_, _, _, _, _, c5, _⟩, hf⟩ := rc_cells h
  rw [hb] at c5
  have f5 := hf 5
  have hput := rc_put h (s2 := { s with began := true }) ((Turn.refl (fun g => g = R) w).set (g := R) (.inl rfl) 5 (.bool true)) (heap_setCell_same _ R 5 _ _ (.bool true) h.blk) (fun _ => ⟨hc, rfl⟩) rfl rfl rfl
  have HF := Lib.hid (fun (o : Obj) => EK.post_then hput ((Below.refl _ _).alloc (Nat.le_refl _) o) (.tuple #[]))
  clear h hb hc hput hf
  go_enter Tryd.func70, Tryd.ntmps70
  go_wp2
  go_end0
  rw [HT.out]
  exact HF.out _
set_option maxRecDepth 20000 in
set_option maxHeartbeats 4000000 in
/-- the bye -/
theorem rctS5 (R : Nat) (V : CV) (s : Cl) (id to : Nat) (body : ByteArray) (sm : Bool) (hb : s.began = true) (he : s.ending = true) (ht : to = s.bye) (hq : s.asked = []) (w : World) (h : RCK.At w R V s) :
    Calls Tryd.prog 70 #[.pointer (some ⟨R, 0, none⟩), .agg #[.int .u32 (id : Int), .int .u32 (to : Int), .int .i64 5, .string body, .bool sm]] w (RCK.Post R V s w (s.took ⟨id, to, 5, body, sm⟩) (.tuple #[])) := by
  have HT := Lib.hid (show s.took ⟨id, to, 5, body, sm⟩ = { s with closed := true } by
    have ht : s.take ⟨id, to, 5, body, sm⟩ = ({ s with closed := true }, 0) := by unfold Cl.take; rw [if_neg (by rw [hb]; decide), if_neg (by simp), if_pos rfl]; exact if_pos ⟨he, ht, hq⟩
    unfold Cl.took Cl.failed
    rw [ht]
    exact if_pos rfl)
  have hRl := h.ltR
  have hb0 : Below w.heap.size w (w.alloc (.cells #[.int .u32 (id : Int), .int .u32 (to : Int), .int .i64 5, .string body, .bool sm] 27)) := (Below.refl _ _).alloc (Nat.le_refl _) _
  obtain ⟨A, cap, hvq, _, _, _⟩ := Slab.form (rc_asked h)
  have hz : s.asked.length = 0 := by rw [hq]; rfl
  rw [hz] at hvq
  have HAT := Lib.hid (fun (n : Nat) => show RCK.At ((w.alloc (.cells #[.int .u32 (id : Int), .int .u32 (to : Int), .int .i64 5, .string body, .bool sm] 27)).drewN n) R V s from StAt.below h (below_drewN hb0 n))
  have HBX := Lib.hid (fun (n : Nat) => And.intro (show ((w.alloc (.cells #[.int .u32 (id : Int), .int .u32 (to : Int), .int .i64 5, .string body, .bool sm] 27)).drewN n).heap[w.heap.size]? = some (.cells #[.int .u32 (id : Int), .int .u32 (to : Int), .int .i64 5, .string body, .bool sm] 27) from heap_alloc_new w _) (below_drewN hb0 n))
  have HQ := Lib.hid (And.intro hvq (And.intro hb (And.intro he ht)))
  obtain ⟨⟨_, _, _, _, _, c5, c6, c7, _, c9, _⟩, _⟩ := rc_cells h
  rw [hb] at c5
  rw [he] at c6
  rw [← ht] at c7
  rw [hvq] at c9
  clear h hb hb0 he ht hq hz hvq
  go_enter Tryd.func70, Tryd.ntmps70
  go_wp2
  go_quiet (fail)
  have H1 := Lib.hid (And.intro (HAT.out nq) (HBX.out nq).2)
  obtain ⟨⟨_, _, _, _, _, d5, d6, d7, _, d9, _⟩, _⟩ := rc_cells (HAT.out nq)
  rw [HQ.out.2.1] at d5
  rw [HQ.out.2.2.1] at d6
  rw [← HQ.out.2.2.2] at d7
  rw [HQ.out.1] at d9
  obtain ⟨⟨b0, b1, b2, b3, b4⟩, _⟩ := cellsOf5 (HBX.out nq).1
  clear HAT HBX c5 c6 c7 c9
  generalize (w.alloc (.cells #[.int .u32 (id : Int), .int .u32 (to : Int), .int .i64 5, .string body, .bool sm] 27)).drewN nq = W at *
  go_wp2
  go_quiet (fail)
  have h2 : RCK.At (W.drewN nq) R V s := StAt.below H1.out.1 (below_drewN' _ _)
  have d2 := (rc_cells h2).1.2.2.1
  have f2 := (rc_cells h2).2 2
  have hput := rc_put h2 (s2 := { s with closed := true }) ((Turn.refl (fun g => g = R) _).set (g := R) (.inl rfl) 2 (.bool true)) (heap_setCell_same _ R 2 _ _ (.bool true) h2.blk) (fun a => by cases a) rfl rfl rfl
  have HF := Lib.hid (EK.seq (r := .tuple #[]) (e := .returned (.tuple #[])) ((Turn.of_below H1.out.2).trans (Turn.of_below (below_drewN' W nq))) (fun g hg => .inl hg) ⟨V, rfl, hput.1, hput.2.1, hput.2.2⟩)
  clear h2 hput d5 d6 d7 d9 b0 b1 b2 b3 b4
  go_wp2
  go_end0
  rw [HT.out]
  exact HF.out
theorem told2Ty : SlTy Tryd.prog 77 124 (.agg #[.int .u32 0, .string ⟨#[]⟩]) 2 24 := ⟨by kernel_rfl, by kernel_rfl, by kernel_rfl, by decide⟩
set_option maxRecDepth 20000 in
set_option maxHeartbeats 8000000 in
/-- a reply -/
theorem rctS4 (R : Nat) (V : CV) (s : Cl) (id to : Nat) (body : ByteArray) (sm : Bool) (hb : s.began = true) (r : List Nat) (hq : s.asked = to :: r) (hal : s.asked.length ≤ 1000) (hcl : s.came.length ≤ 1099511627776) (w : World) (h : RCK.At w R V s) :
    Calls Tryd.prog 70 #[.pointer (some ⟨R, 0, none⟩), .agg #[.int .u32 (id : Int), .int .u32 (to : Int), .int .i64 4, .string body, .bool sm]] w (RCK.Post R V s w (s.took ⟨id, to, 4, body, sm⟩) (.tuple #[])) := by
  have HT := Lib.hid (show s.took ⟨id, to, 4, body, sm⟩ = { s with came := s.came ++ [(to, body)], asked := r } by
    have ht : s.take ⟨id, to, 4, body, sm⟩ = ({ s with came := s.came ++ [(to, body)], asked := r }, 0) := by unfold Cl.take; rw [if_neg (by rw [hb]; decide), if_pos rfl, hq]; exact if_pos rfl
    unfold Cl.took Cl.failed
    rw [ht]
    exact if_pos rfl)
  have hRl := h.ltR
  have hb0 : Below w.heap.size w (w.alloc (.cells #[.int .u32 (id : Int), .int .u32 (to : Int), .int .i64 4, .string body, .bool sm] 27)) := (Below.refl _ _).alloc (Nat.le_refl _) _
  obtain ⟨A, cap, hvq, hnc, hcm, hform⟩ := Slab.form (rc_asked h)
  obtain ⟨G, o, rfl, hG⟩ : ∃ G o, A = some ⟨G, o, none⟩ ∧ w.rangeAt G o (numsV s.asked) := by
    rcases hform with ⟨_, h0, _⟩ | ⟨g, off, h1, _, _, h2, _⟩
    · rw [hq] at h0; simp at h0
    · exact ⟨g, off, h1, h2⟩
  have d0 : w.cell? ⟨G, o, none⟩ = some (.int .u32 (to : Int)) := hG 0 _ (by rw [hq]; rfl)
  have hGl := cell_lt d0
  simp only at hGl
  have hnp : 0 < s.asked.length := by rw [hq]; simp
  have hnd : decide (0 < s.asked.length) = true := decide_eq_true hnp
  obtain ⟨vi, vo, vq, vr⟩ := V
  simp only at hvq
  subst hvq
  have HW := Lib.hid (fun (n : Nat) => And.intro (show RCK.At ((w.alloc (.cells #[.int .u32 (id : Int), .int .u32 (to : Int), .int .i64 4, .string body, .bool sm] 27)).drewN n) R ⟨vi, vo, .slice (some ⟨G, o, none⟩) s.asked.length cap, vr⟩ s from StAt.below h (below_drewN hb0 n)) (And.intro (below_drewN hb0 n) (show ((w.alloc (.cells #[.int .u32 (id : Int), .int .u32 (to : Int), .int .i64 4, .string body, .bool sm] 27)).drewN n).heap[w.heap.size]? = some (.cells #[.int .u32 (id : Int), .int .u32 (to : Int), .int .i64 4, .string body, .bool sm] 27) from heap_alloc_new w _)))
  obtain ⟨⟨_, _, _, _, _, c5, _, _, _, c9, _⟩, _⟩ := rc_cells h
  rw [hb] at c5
  have HL := Lib.hid hq
  clear h hb hb0 hform hG hq
  go_enter Tryd.func70, Tryd.ntmps70
  go_wp2
  go_quiet (fail)
  obtain ⟨h1, hb1, hx1⟩ := HW.out nq
  have H1 := Lib.hid h1
  have HB1 := Lib.hid hb1
  have c10 := (rc_cells h1).1.2.2.2.2.2.2.2.2.2.2
  obtain ⟨A9, cap9, hvr, _, _, _⟩ := Slab.form (rc_came h1)
  simp only at hvr c10
  subst hvr
  obtain ⟨⟨b0, b1, b2, b3, b4⟩, _⟩ := cellsOf5 hx1
  have c9' := (rc_cells h1).1.2.2.2.2.2.2.2.2.2.1
  have hRl1 := h1.ltR
  clear h1 hb1 hx1 HW c9 d0 c5
  generalize (w.alloc (.cells #[.int .u32 (id : Int), .int .u32 (to : Int), .int .i64 4, .string body, .bool sm] 27)).drewN nq = W at *
  go_wp2
  have c10a := cell_below (show Below W.heap.size W (W.alloc (.cells #[.int .u32 (to : Int), .string body] 124)) from (by repeat (first | with_reducible exact Below.refl _ _ | with_reducible refine below_drewN ?_ _ | with_reducible refine Below.drew ?_ | with_reducible refine Below.alloc ?_ (by first | (simp; done) | (simp; omega)) _ | with_reducible refine Below.setCell ?_ (by first | (simp; done) | (simp; omega)) _))) c10
  have c10b := cell_below (show Below W.heap.size W (W.drew.alloc (.cells #[.int .u32 (to : Int), .string body] 124)) from (by repeat (first | with_reducible exact Below.refl _ _ | with_reducible refine below_drewN ?_ _ | with_reducible refine Below.drew ?_ | with_reducible refine Below.alloc ?_ (by first | (simp; done) | (simp; omega)) _ | with_reducible refine Below.setCell ?_ (by first | (simp; done) | (simp; omega)) _))) c10
  go_region_law (first
    | (refine step_slab told2Ty 77 (by rfl) _ _ (by rfl) (.slice A9 s.came.length cap9) s.came.length (cameV s.came) (by rfl) (Slab.below (rc_came H1.out) (by repeat (first | with_reducible exact Below.refl _ _ | with_reducible refine below_drewN ?_ _ | with_reducible refine Below.drew ?_ | with_reducible refine Below.alloc ?_ (by first | (simp; done) | (simp; omega)) _ | with_reducible refine Below.setCell ?_ (by first | (simp; done) | (simp; omega)) _))) (.slice (some ⟨W.heap.size, 0, none⟩) 1 1) (by rfl) 1 [.int .u32 (to : Int), .string body] (Src.ofSlice _ told2Ty.slice _ 1 1 _ rfl (World.news_of_block (heap_alloc_new _ _)) (by simp [Value.oneCell'])) (by unfold maxLen; omega) (by omega) ?_; intro vr2 W2 hs2 hu2; have hBq : RCK.At _ R ⟨vi, vo, .slice (some ⟨G, o, none⟩) s.asked.length cap, .slice A9 s.came.length cap9⟩ s := StAt.below (w' := W.drew.alloc (.cells #[.int .u32 (to : Int), .string body] 124)) H1.out (by repeat (first | with_reducible exact Below.refl _ _ | with_reducible refine below_drewN ?_ _ | with_reducible refine Below.drew ?_ | with_reducible refine Below.alloc ?_ (by first | (simp; done) | (simp; omega)) _ | with_reducible refine Below.setCell ?_ (by first | (simp; done) | (simp; omega)) _)); have hbq := (hu2.block hBq.ltR (hBq.nR _ (.tail _ (.tail _ (.tail _ (.head _)))))).trans hBq.blk; have d10 : W2.cell? ⟨R, 10, none⟩ = some (.slice A9 s.came.length cap9) := cell_of_row _ _ _ _ _ _ hbq; have e10 : W2.frozen? ⟨R, 10, none⟩ = false := frozen_of_row _ _ _ _ _ hbq; have hs2' : Slab W2 2 vr2 (s.came ++ [(to, body)]).length (cameV (s.came ++ [(to, body)])) := (by rw [List.length_append, cameV_append]; exact hs2); obtain ⟨hf1, hf2, hf3⟩ := rc_cgrown hBq (s2 := { s with came := s.came ++ [(to, body)] }) hu2 hs2' rfl rfl rfl rfl rfl; have hd9 := (rc_cells hf1).1.2.2.2.2.2.2.2.2.2.1; have hk9 := (rc_cells hf1).2 9; have hRl2 := hf1.ltR; have HFIN := Lib.hid (And.intro hf1 (And.intro (HB1.out.trans (show Below w.heap.size W (W.drew.alloc (.cells #[.int .u32 (to : Int), .string body] 124)) from Below.mono (by repeat (first | with_reducible exact Below.refl _ _ | with_reducible refine below_drewN ?_ _ | with_reducible refine Below.drew ?_ | with_reducible refine Below.alloc ?_ (by first | (simp; done) | (simp; omega)) _ | with_reducible refine Below.setCell ?_ (by first | (simp; done) | (simp; omega)) _)) HB1.out.size)) (And.intro hf2 hf3))); obtain ⟨A2, cap2, hv2, _⟩ := Slab.form hs2; subst hv2; clear hs2 hu2 hBq hbq hs2' hf1 hf2 hf3))
  all_goals (
    obtain ⟨a1, a2, a3, a4⟩ := HFIN.out
    by_cases hc3 : cap - 1 = 0
    · have HQ := Lib.hid (EK.chain a2 a3 a4 (rc_qtail (s := { s with came := s.came ++ [(to, body)] }) (o2 := o) a1 HL.out 0 hc3.symm (.inr hc3)) (.tuple #[]))
      clear a1 a2 a3 a4
      go_wp2
      go_end0
      rw [HT.out]
      exact HQ.out
    · have hcx : 1 ≤ cap := by omega
      have HQ := Lib.hid (EK.chain a2 a3 a4 (rc_qtail (s := { s with came := s.came ++ [(to, body)] }) (o2 := o + 1) a1 HL.out (cap - 1) rfl (.inl rfl)) (.tuple #[]))
      clear a1 a2 a3 a4
      go_wp2
      go_end0
      rw [HT.out]
      exact HQ.out)
theorem rctake_c (R : Nat) (V : CV) (s : Cl) (hok : s.Ok) (hc : s.closed = false) (hcl : s.came.length ≤ 1099511627776) (m : WMsg) (hbs : m.body.size ≤ 9223372036854770000) (w : World) (h : RCK.At w R V s) :
    Calls Tryd.prog 70 #[.pointer (some ⟨R, 0, none⟩), .agg (msgV m).toArray] w (RCK.Post R V s w (s.took m) (.tuple #[])) := by
  obtain ⟨id, to, kind, body, sm⟩ := m
  have hal : s.asked.length ≤ 1000 := by have := hok.asked; omega
  show Calls Tryd.prog 70 #[.pointer (some ⟨R, 0, none⟩), .agg #[.int .u32 (id : Int), .int .u32 (to : Int), .int .i64 kind, .string body, .bool sm]] w (RCK.Post R V s w (s.took ⟨id, to, kind, body, sm⟩) (.tuple #[]))
  cases hb : s.began with
  | false =>
    have key : ¬ (kind = 2 ∧ to = 1) → s.take ⟨id, to, kind, body, sm⟩ = (s, 284) := fun hn => by
      unfold Cl.take
      rw [if_pos hb, if_pos]
      show kind ≠ 2 ∨ to ≠ 1
      by_cases e : kind = 2
      · exact .inr (fun e2 => hn ⟨e, e2⟩)
      · exact .inl e
    by_cases h2 : kind = 2
    · subst h2
      by_cases ht : to = 1
      · subst ht
        exact rctS2 R V s id body sm hb hc w h
      · exact rctF2 R V s id to body sm (key (fun e => ht e.2)) hb ht w h
    · have hT := key (fun e => h2 e.1)
      by_cases h4 : kind = 4
      · subst h4; exact rctF4 R V s id to body sm hT hb w h
      · by_cases h5 : kind = 5
        · subst h5; exact rctF5 R V s id to body sm hT hb w h
        · by_cases h6 : kind = 6
          · subst h6; exact rctF6 R V s id to body sm hT hb w h
          · exact rctFx R V s id to kind body sm hT hb h2 h4 h5 h6 w h
  | true =>
    have hbn : ¬ s.began = false := by rw [hb]; decide
    by_cases h4 : kind = 4
    · subst h4
      obtain ⟨l, hq⟩ : ∃ l, s.asked = l := ⟨_, rfl⟩
      cases l with
      | nil => exact rctT4n R V s id to body sm (by unfold Cl.take; rw [if_neg hbn, if_pos rfl, hq]) hb hq w h
      | cons x r =>
        by_cases hx : to = x
        · subst hx
          exact rctS4 R V s id to body sm hb r hq hal hcl w h
        · exact rctT4x R V s id to body sm (by unfold Cl.take; rw [if_neg hbn, if_pos rfl, hq]; exact if_neg hx) hb x r hq hal hx w h
    · by_cases h5 : kind = 5
      · subst h5
        have key : ¬ (s.ending = true ∧ to = s.bye ∧ s.asked = []) → s.take ⟨id, to, 5, body, sm⟩ = (s, 284) := fun hn => by
          unfold Cl.take
          rw [if_neg hbn, if_neg (by simp), if_pos rfl]
          exact if_neg hn
        cases he : s.ending with
        | false => exact rctT5e R V s id to body sm (key (fun e => by rw [he] at e; exact absurd e.1 (by decide))) hb he w h
        | true =>
          by_cases ht : to = s.bye
          · by_cases hq : s.asked = []
            · exact rctS5 R V s id to body sm hb he ht hq w h
            · exact rctT5q R V s id to body sm (key (fun e => hq e.2.2)) hb he ht hq hal w h
          · exact rctT5t R V s id to body sm (key (fun e => ht e.2.1)) hb he ht w h
      · by_cases h6 : kind = 6
        · subst h6
          exact rctS6 R V s id to body sm hb hbs w h
        · have hT : s.take ⟨id, to, kind, body, sm⟩ = (s, 284) := by unfold Cl.take; rw [if_neg hbn, if_neg h4, if_neg h5, if_neg h6]
          by_cases h2 : kind = 2
          · subst h2; exact rctT2 R V s id to body sm hT hb w h
          · exact rctTx R V s id to kind body sm hT hb h4 h5 h6 w h
end Go.Proofs.YtkpickojeghppaaDoor
