/- The walk of later (the server's). Conditions: what goes out is shorter than 2 to the 38. -/
import Derived.Test.YtkpickojeghppaaDoorWsvb
import Derived.Deep.RegionLaw
namespace Go.Proofs.YtkpickojeghppaaDoor
open Go.RowKit
section
variable {P : Program} {S E : TypeId} {z : Value} {size bytes : Nat} {w : World}
theorem wp_slab {o : Oper} {a : Act} {K : Act → World → Prop} {Q : Exit → Act → World → Prop} (ty : SlTy P S E z size bytes) (tx : TypeId) (s y : Operand)
    (ho : o.op = .call { callee := .builtin .append, args := #[s, y], argTypes := #[S, tx] })
    (v : Value) (n : Nat) (xs : List Value) (hv : a.eval s = v) (hown : Slab w size v n xs) (x : Value) (hx : a.eval y = x) (m : Nat) (news : List Value) (hs : Src P size tx x m news w)
    (h63 : n + m ≤ maxLen) (hbytes : (n + m) * bytes ≤ 140737488355328)
    (h : ∀ v' w', Slab w' size v' (n + m) (xs ++ news) → Upd w w' v.ownBlock v'.ownBlock → K (a.put o.dst v') w') : o.wp P a w K Q := by
  obtain ⟨v', w', hr, h2, h3⟩ := run_app_slab (w := w) ty tx o.type v n xs hown x m news hs h63 hbytes
  unfold Oper.wp execOp
  simp only [ho, resolve, invoke, builtin, Sem.run_bind, Sem.run_pure, Result.andThen_ok, List.map_toArray, List.map_cons, List.map_nil, hv, hx, hr]
  exact h v' w' h2 h3
/-- at a step of a region that draws -/
theorem step_slab {ops : Array Oper} {o : Oper} {a : Act} {K : Act → World → Prop} {Q : Exit → Act → World → Prop} {F : Prop} (ty : SlTy P S E z size bytes) (tx : TypeId) (hgd : o.guard = none) (s y : Operand)
    (ho : o.op = .call { callee := .builtin .append, args := #[s, y], argTypes := #[S, tx] })
    (v : Value) (n : Nat) (xs : List Value) (hv : a.eval s = v) (hown : Slab w size v n xs) (x : Value) (hx : a.eval y = x) (m : Nat) (news : List Value) (hs : Src P size tx x m news w)
    (h63 : n + m ≤ maxLen) (hbytes : (n + m) * bytes ≤ 140737488355328)
    (h : ∀ v' w', Slab w' size v' (n + m) (xs ++ news) → Upd w w' v.ownBlock v'.ownBlock → K (a.put o.dst v') w') :
    if Region.wanted o (yielded ops a.tmps) = true then Oper.wp P o a w K Q else F := by
  have hw : Region.wanted o (yielded ops a.tmps) = true := by simp [Region.wanted, hgd]
  rw [if_pos hw]
  exact wp_slab ty tx s y ho v n xs hv hown x hx m news hs h63 hbytes h
end
theorem askTy : SlTy Tryd.prog 99 110 (.agg #[.int .u32 0, .string ⟨#[]⟩, .bool false]) 3 32 := ⟨by kernel_rfl, by kernel_rfl, by kernel_rfl, by decide⟩
theorem heldV_append (a b : List (Nat × ByteArray × Bool)) : heldV (a ++ b) = heldV a ++ heldV b := by simp [heldV]
/-- the held asks have grown -/
theorem SvAt.held {w : World} {R : Nat} {vi vo vh vh' : Value} {s s2 : Sv} (h : SvAt w R vi vo vh s) {w1 : World} (hu : Upd w w1 vh.ownBlock vh'.ownBlock) (hs : Slab w1 3 vh' s2.held.length (heldV s2.held))
    (hc : ((svCells R vi vo vh s).setIfInBounds 7 vh') = svCells R vi vo vh' s2) (hi : s2.closed = s.closed) (he : s2.ending = s.ending) (hin : s2.inp = s.inp) (ho : s2.out = s.out) :
    SvAt (w1.setCell ⟨R, 7, none⟩ vh') R vi vo vh' s2 ∧ Turn (SvF R vi vo vh) w (w1.setCell ⟨R, 7, none⟩ vh') ∧ ∀ g, SvF R vi vo vh' g → SvF R vi vo vh g ∨ w.heap.size ≤ g := by
  have hR := h.lt
  have hn : ∀ g, vh'.ownBlock = some g → vh.ownBlock = some g ∨ w.heap.size ≤ g := fun g hg => by
    rcases hu.own with e | ⟨q, e, hq⟩
    · left; rw [← e]; exact hg
    · right; rw [e] at hg; rw [← Option.some.inj hg]; exact hq
  have hb1 : w1.heap[R]? = some (.cells (svCells R vi vo vh s) 101 (0, 0)) := (hu.block hR h.nR.2.2).trans h.blk
  have hb2 := heap_setCell_same w1 R 7 _ _ vh' hb1
  rw [hc] at hb2
  have ht : Turn (SvF R vi vo vh) w (w1.setCell ⟨R, 7, none⟩ vh') := ((Turn.refl (SvF R vi vo vh) w).upd hu (fun g hg => .inl (.inr (.inr (.inr hg))))).set (.inl (.inl rfl)) 7 vh'
  have htn : Turn (fun g => g = R ∨ vh.ownBlock = some g) w (w1.setCell ⟨R, 7, none⟩ vh') := ((Turn.refl (fun g => g = R ∨ vh.ownBlock = some g) w).upd hu (fun g hg => .inl (.inr hg))).set (.inl (.inl rfl)) 7 vh'
  have hne : ∀ g, vh'.ownBlock = some g → g ≠ R := fun g hg e => by
    subst e
    rcases hn g hg with e | e
    · exact h.nR.2.2 e
    · omega
  refine ⟨⟨hb2, fun a b => ?_, ?_, Slab.same hs (fun g hg => heap_setCell_other _ _ _ _ (hne g hg)), ⟨h.nR.1, h.nR.2.1, fun e => hne R e rfl⟩, fun g hg => ⟨fun e => ?_, (h.ap g hg).2⟩, fun g hg e => ?_, fun g hg => Nat.lt_of_lt_of_le (h.lti g hg) ht.size⟩, ht, fun g hg => ?_⟩
  · rw [hin]
    refine Slab.turn (h.sin (by rw [← hi]; exact a) (by rw [← he]; exact b)) htn (fun g hg e => ?_)
    rcases e with e | e
    · exact h.nR.1 (by rw [← e]; exact hg)
    · exact h.ap2 g e hg
  · rw [ho]
    refine Slab.turn h.sout htn (fun g hg e => ?_)
    rcases e with e | e
    · exact h.nR.2.1 (by rw [← e]; exact hg)
    · exact (h.ap g hg).1 e
  · rcases hn g e with e | e
    · exact (h.ap g hg).1 e
    · have := Slab.lt h.sout hg; omega
  · rcases hn g hg with e2 | e2
    · exact h.ap2 g e2 e
    · have := h.lti g e; omega
  · rcases hg with hg | hg | hg | hg
    · exact .inl (.inl hg)
    · exact .inl (.inr (.inl hg))
    · exact .inl (.inr (.inr (.inl hg)))
    · exact (hn g hg).imp (fun e => .inr (.inr (.inr e))) (fun e => e)
set_option maxRecDepth 20000 in
set_option maxHeartbeats 8000000 in
theorem later_c (R : Nat) (vi vo vh : Value) (s : Sv) (hb : s.began = true) (m : WMsg) (hm : MsgOk m) (hlen : s.out.length ≤ 274877906944) (hhl : s.held.length ≤ 1000) (w : World) (h : SvAt w R vi vo vh s) :
    Calls Tryd.prog 73 #[.pointer (some ⟨R, 0, none⟩), .agg (msgV m).toArray] w (SvPost R vi vo vh w (s.take m).1 (.int .i64 ((s.take m).2 : Int))) := by
  obtain ⟨id, to, kind, body, sm⟩ := m
  have hid := hm.1
  simp only at hid
  clear hm
  show Calls Tryd.prog 73 #[.pointer (some ⟨R, 0, none⟩), .agg #[.int .u32 (id : Int), .int .u32 (to : Int), .int .i64 kind, .string body, .bool sm]] w _
  have hb0 : Below w.heap.size w (w.alloc (.cells #[.int .u32 (id : Int), .int .u32 (to : Int), .int .i64 kind, .string body, .bool sm] 27)) := (Below.refl _ _).alloc (Nat.le_refl _) _
  have HW := Lib.hid (fun (n : Nat) => And.intro (h.below (below_drewN hb0 n)) (And.intro (below_drewN hb0 n) (show ((w.alloc (.cells #[.int .u32 (id : Int), .int .u32 (to : Int), .int .i64 kind, .string body, .bool sm] 27)).drewN n).heap[w.heap.size]? = some (.cells #[.int .u32 (id : Int), .int .u32 (to : Int), .int .i64 kind, .string body, .bool sm] 27) from heap_alloc_new w (.cells #[.int .u32 (id : Int), .int .u32 (to : Int), .int .i64 kind, .string body, .bool sm] 27))))
  by_cases hk3 : kind = 3
  · subst hk3
    obtain ⟨⟨_, _, _, _, _, _, _, _, g8, _, _⟩, gf⟩ := (HW.out 0).1.cells
    by_cases hle : id ≤ s.last
    · have HT := Lib.hid (show s.take ⟨id, to, 3, body, sm⟩ = (s, 284) by unfold Sv.take; rw [if_neg (by rw [hb]; decide), if_pos rfl, if_pos hle])
      have g8' : (w.alloc (.cells #[.int .u32 (id : Int), .int .u32 (to : Int), .int .i64 3, .string body, .bool sm] 27)).cell? ⟨R, 8, none⟩ = some (.int .u32 (s.last : Int)) := g8
      clear h hb hb0 g8 gf
      go_enter Tryd.func73, Tryd.ntmps73
      go_wp2
      go_quiet (fail)
      go_wp2
      go_ret
      rw [HT.out]
      exact ⟨vi, vo, vh, rfl, (HW.out nq).1, Turn.of_below (HW.out nq).2.1, fun g hg => .inl hg⟩
    · have g8' : (w.alloc (.cells #[.int .u32 (id : Int), .int .u32 (to : Int), .int .i64 3, .string body, .bool sm] 27)).cell? ⟨R, 8, none⟩ = some (.int .u32 (s.last : Int)) := g8
      obtain ⟨A, cap, hvh, hnc, hcm, _⟩ := Slab.form h.sheld
      have hlt : s.last < id := by omega
      by_cases hfull : 16 ≤ s.held.length
      · have HT := Lib.hid (show s.take ⟨id, to, 3, body, sm⟩ = (s, 5) by unfold Sv.take; rw [if_neg (by rw [hb]; decide), if_pos rfl, if_neg hle, if_pos hfull])
        subst hvh
        have HWA := Lib.hid (fun (n : Nat) => (HW.out n).1.cells.1.2.2.2.2.2.2.2.1)
        clear h hb hb0 g8 gf
        go_enter Tryd.func73, Tryd.ntmps73
        go_wp2
        go_quiet (fail)
        have c7 := HWA.out nq
        go_wp2
        go_ret
        rw [HT.out]
        exact ⟨vi, vo, _, rfl, (HW.out nq).1, Turn.of_below (HW.out nq).2.1, fun g hg => .inl hg⟩
      · have HT := Lib.hid (show s.take ⟨id, to, 3, body, sm⟩ = ({ s with last := id, held := s.held ++ [(id, body, false)] }, 0) by unfold Sv.take; rw [if_neg (by rw [hb]; decide), if_pos rfl, if_neg hle, if_neg hfull])
        subst hvh
        clear h hb hb0 g8 gf
        go_enter Tryd.func73, Tryd.ntmps73
        go_wp2
        go_quiet (fail)
        obtain ⟨h1, hb1, hx1⟩ := HW.out nq
        have H1 := Lib.hid h1
        have HB1 := Lib.hid hb1
        have HX1 := Lib.hid hx1
        have c7 := h1.cells.1.2.2.2.2.2.2.2.1
        have c8 := h1.cells.1.2.2.2.2.2.2.2.2.1
        have f8 := h1.cells.2 8
        obtain ⟨⟨b0, b1, b2, b3, b4⟩, _⟩ := cellsOf5 hx1
        clear h1 hb1 hx1 HW g8'
        generalize (w.alloc (.cells #[.int .u32 (id : Int), .int .u32 (to : Int), .int .i64 3, .string body, .bool sm] 27)).drewN nq = W at *
        have h2 := H1.out.put (s2 := { s with last := id }) ((Turn.refl (fun g => g = R) W).set (g := R) (.inl rfl) 8 (.int .u32 (id : Int))) (heap_setCell_same _ R 8 _ _ (.int .u32 (id : Int)) H1.out.blk) (fun a b => ⟨a, b, rfl⟩) rfl rfl
        have ht2 := Turn.trans (Turn.of_below (S := SvF R vi vo (.slice A s.held.length cap)) HB1.out) (((Turn.refl (SvF R vi vo (.slice A s.held.length cap)) W).set (g := R) (.inl (.inl rfl)) 8 (.int .u32 (id : Int))).weak (fun g hg => .inl hg))
        have H2 := Lib.hid h2
        have HT2 := Lib.hid ht2
        go_wp2
        have hx2 : (W.setCell ⟨R, 8, none⟩ (.int .u32 (id : Int))).heap[w.heap.size]? = _ := (heap_setCell_other W ⟨R, 8, none⟩ w.heap.size (.int .u32 (id : Int)) (show w.heap.size ≠ R by have := H1.out.lt; intro e; subst e; have := H1.out.blk; rw [HX1.out] at this; injection this with this; injection this with this; have := congrArg Array.size this; simp [svCells] at this)).trans HX1.out
        clear b0 b1 b2 b3 b4 c7 c8 f8 H1 HX1 HB1
        generalize (W.setCell ⟨R, 8, none⟩ (.int .u32 (id : Int))) = W1 at *
        obtain ⟨⟨b0, b1, b2, b3, b4⟩, _⟩ := cellsOf5 hx2
        have c7 := h2.cells.1.2.2.2.2.2.2.2.1
        have f7 := h2.cells.2 7
        have c7a := cell_below (show Below W1.heap.size W1 (W1.alloc (.cells #[.int .u32 (id : Int), .string body, .bool false] 110)) from (by repeat (first | with_reducible exact Below.refl _ _ | with_reducible refine below_drewN ?_ _ | with_reducible refine Below.drew ?_ | with_reducible refine Below.alloc ?_ (by first | (simp; done) | (simp; omega)) _ | with_reducible refine Below.setCell ?_ (by first | (simp; done) | (simp; omega)) _))) c7
        have c7b := cell_below (show Below W1.heap.size W1 (W1.drew.alloc (.cells #[.int .u32 (id : Int), .string body, .bool false] 110)) from (by repeat (first | with_reducible exact Below.refl _ _ | with_reducible refine below_drewN ?_ _ | with_reducible refine Below.drew ?_ | with_reducible refine Below.alloc ?_ (by first | (simp; done) | (simp; omega)) _ | with_reducible refine Below.setCell ?_ (by first | (simp; done) | (simp; omega)) _))) c7
        clear hx2 h2 ht2
        go_region_law (first
          | (refine step_slab askTy 99 (by rfl) _ _ (by rfl) (.slice A s.held.length cap) s.held.length (heldV s.held) (by rfl) (Slab.below H2.out.sheld (by repeat (first | with_reducible exact Below.refl _ _ | with_reducible refine below_drewN ?_ _ | with_reducible refine Below.drew ?_ | with_reducible refine Below.alloc ?_ (by first | (simp; done) | (simp; omega)) _ | with_reducible refine Below.setCell ?_ (by first | (simp; done) | (simp; omega)) _))) (.slice (some ⟨W1.heap.size, 0, none⟩) 1 1) (by rfl) 1 (askV (id, body, false)) (Src.ofSlice _ askTy.slice _ 1 1 _ rfl (World.news_of_block (heap_alloc_new _ _)) (by simp [askV, Value.oneCell'])) (by unfold maxLen; omega) (by omega) ?_; intro vh2 W2 hs2 hu2; have hBq : SvAt _ R vi vo (.slice A s.held.length cap) { s with last := id } := H2.out.below (w' := W1.drew.alloc (.cells #[.int .u32 (id : Int), .string body, .bool false] 110)) (by repeat (first | with_reducible exact Below.refl _ _ | with_reducible refine below_drewN ?_ _ | with_reducible refine Below.drew ?_ | with_reducible refine Below.alloc ?_ (by first | (simp; done) | (simp; omega)) _ | with_reducible refine Below.setCell ?_ (by first | (simp; done) | (simp; omega)) _)); have hbq := (hu2.block hBq.lt hBq.nR.2.2).trans hBq.blk; have d7 : W2.cell? ⟨R, 7, none⟩ = some (.slice A s.held.length cap) := cell_of_row _ _ _ _ _ _ hbq; have e7 : W2.frozen? ⟨R, 7, none⟩ = false := frozen_of_row _ _ _ _ _ hbq; have hs2' : Slab W2 3 vh2 (s.held ++ [(id, body, false)]).length (heldV (s.held ++ [(id, body, false)])) := (by rw [List.length_append, heldV_append]; exact hs2); obtain ⟨hf1, hf2, hf3⟩ := hBq.held (s2 := { s with last := id, held := s.held ++ [(id, body, false)] }) hu2 hs2' rfl rfl rfl rfl rfl; have HFIN := Lib.hid (And.intro hf1 (And.intro (HT2.out.trans ((Turn.of_below (S := SvF R vi vo (.slice A s.held.length cap)) (show Below W1.heap.size W1 (W1.drew.alloc (.cells #[.int .u32 (id : Int), .string body, .bool false] 110)) from (by repeat (first | with_reducible exact Below.refl _ _ | with_reducible refine below_drewN ?_ _ | with_reducible refine Below.drew ?_ | with_reducible refine Below.alloc ?_ (by first | (simp; done) | (simp; omega)) _ | with_reducible refine Below.setCell ?_ (by first | (simp; done) | (simp; omega)) _)))).trans (hf2.weak (fun g hg => .inl hg)) |>.weak (fun g hg => .inl hg))) (fun g hg => (hf3 g hg).imp (fun e => e) (fun e => Nat.le_trans (Nat.le_trans HT2.out.size (show W1.heap.size ≤ (W1.drew.alloc (.cells #[.int .u32 (id : Int), .string body, .bool false] 110)).heap.size by simp)) e)))); obtain ⟨A2, cap2, hv2, _⟩ := Slab.form hs2; subst hv2; clear hs2 hu2 hBq hbq hs2' hf1 hf2 hf3))
        all_goals (
          go_wp2
          go_ret
          rw [HT.out]
          exact ⟨vi, vo, _, rfl, HFIN.out.1, HFIN.out.2.1, HFIN.out.2.2⟩)
  · by_cases hk5 : kind = 5
    · subst hk5
      have hT : s.take ⟨id, to, 5, body, sm⟩ = (({ s with bye := id, ending := true } : Sv).parts, 0) := by unfold Sv.take; rw [if_neg (by rw [hb]; decide), if_neg (by simp), if_pos rfl]
      have HT := Lib.hid hT
      have hRl := h.lt
      obtain ⟨⟨_, _, _, c3, _, _, _, _, _, c9, c10⟩, hf⟩ := h.cells
      have f3 := hf 3
      have f9 := hf 9
      have f10 := hf 10
      have hblk := heap_setCell_same _ R 3 _ _ (.bool true) (heap_setCell_same _ R 10 _ _ (.bool true) (heap_setCell_same _ R 9 _ _ (.int .u32 (id : Int)) h.blk))
      have ht := (((Turn.refl (fun g => g = R) w).set (g := R) (.inl rfl) 9 (.int .u32 (id : Int))).set (g := R) (.inl rfl) 10 (.bool true)).set (g := R) (.inl rfl) 3 (.bool true)
      have h1 := h.put (s2 := { s with bye := id, ending := true }) ht hblk (fun _ b => by cases b) rfl rfl
      have hbn : Below (((w.setCell ⟨R, 9, none⟩ (.int .u32 (id : Int))).setCell ⟨R, 10, none⟩ (.bool true)).setCell ⟨R, 3, none⟩ (.bool true)).heap.size (((w.setCell ⟨R, 9, none⟩ (.int .u32 (id : Int))).setCell ⟨R, 10, none⟩ (.bool true)).setCell ⟨R, 3, none⟩ (.bool true)) ((((w.setCell ⟨R, 9, none⟩ (.int .u32 (id : Int))).setCell ⟨R, 10, none⟩ (.bool true)).setCell ⟨R, 3, none⟩ (.bool true)).alloc (.cells #[.int .u32 (id : Int), .int .u32 (to : Int), .int .i64 5, .string body, .bool sm] 27)) := (Below.refl _ _).alloc (Nat.le_refl _) _
      have HL := Lib.hid (leaves_c R vi vo vh { s with bye := id, ending := true } hlen hid _ (h1.below hbn))
      have HTN := Lib.hid (ht.trans (Turn.of_below (S := fun g => g = R ∨ w.heap.size ≤ g) hbn))
      clear h hb hb0 hf HW hT hblk ht h1 hbn
      go_enter Tryd.func73, Tryd.ntmps73
      go_wp2_with fail
      refine HL.out.mono ?_; rintro e w2 ⟨vi', vo', vh', rfl, hsv, htn, hnw⟩
      have HSV := Lib.hid hsv
      have HT2 := Lib.hid (show Turn (SvF R vi vo vh) w w2 from (HTN.out.weak (fun g hg => .inl hg)).trans (htn.weak (fun g hg => .inl hg)))
      have HN2 := Lib.hid (show ∀ g, SvF R vi' vo' vh' g → SvF R vi vo vh g ∨ w.heap.size ≤ g from fun g hg => (hnw g hg).imp (fun e => e) (fun e => Nat.le_trans HTN.out.size e))
      clear hsv htn hnw c3 c9 c10 f3 f9 f10
      go_wp2
      go_ret
      rw [HT.out]
      exact ⟨vi', vo', vh', rfl, HSV.out, HT2.out, HN2.out⟩
    · have HT := Lib.hid (show s.take ⟨id, to, kind, body, sm⟩ = (s, 284) by unfold Sv.take; rw [if_neg (by rw [hb]; decide), if_neg hk3, if_neg hk5])
      have h3 : (kind == 3) = false := by rw [beq_eq_false_iff_ne]; exact hk3
      have h5 : (kind == 5) = false := by rw [beq_eq_false_iff_ne]; exact hk5
      have H0 := Lib.hid (h.below hb0)
      have HB0 := Lib.hid hb0
      clear h hb hb0 HW hk3 hk5
      go_enter Tryd.func73, Tryd.ntmps73
      go_wp2
      go_ret
      rw [HT.out]
      exact ⟨vi, vo, vh, rfl, H0.out, Turn.of_below HB0.out, fun g hg => .inl hg⟩
end Go.Proofs.YtkpickojeghppaaDoor
