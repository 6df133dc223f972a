/- The walk of Answer. Conditions: what goes out is shorter than 2 to the 38. -/
import Derived.Test.YtkpickojeghppaaDoorWtab
namespace Go.Proofs.YtkpickojeghppaaDoor
open Go.RowKit
/-- a slab's end -/
theorem Slab.tail {w : World} {size n cap G o o2 : Nat} {xs : List Value} (h : Slab w size (.slice (some ⟨G, o, none⟩) n cap) n xs) (k : Nat) (hk : k ≤ n) (hp : o2 = o + k * size ∨ cap - k = 0) :
    Slab w size (.slice (some ⟨G, o2, none⟩) (n - k) (cap - k)) (n - k) (xs.drop (k * size)) := by
  have hl := h.1
  rcases h.2 with ⟨h0, _⟩ | ⟨g, off, c, he, h1, h2, h3, h4, h5⟩
  · cases h0
  · injection he with e1 e2 e3
    injection e1 with e1
    injection e1 with e1 e4
    subst e1; subst e4; subst e3
    have hd : (xs.drop (k * size)).length = (n - k) * size := by rw [List.length_drop, hl, Nat.sub_mul]
    refine ⟨hd, .inr ⟨G, o2, cap - k, rfl, by omega, by omega, h3, ?_, ?_⟩⟩
    · rcases hp with rfl | hp
      · exact rangeAt_drop h4 _
      · have : n - k = 0 := by omega
        rw [this, Nat.zero_mul] at hd
        rw [List.eq_nil_of_length_eq_zero hd]
        intro j v hj; simp at hj
    · rcases hp with rfl | hp
      · intro j hj
        have : k * size + j < cap * size := by rw [Nat.sub_mul] at hj; have := Nat.mul_le_mul_right size (Nat.le_trans hk h1); omega
        rw [Nat.add_assoc]; exact h5 _ this
      · rw [hp, Nat.zero_mul]; intro j hj; omega
/-- the first held is no more -/
theorem SvAt.tail {w : World} {R G o o2 cap : Nat} {vi vo : Value} {s : Sv} {x : Nat × ByteArray × Bool} {r : List (Nat × ByteArray × Bool)} (h : SvAt w R vi vo (.slice (some ⟨G, o, none⟩) s.held.length cap) s) (hx : s.held = x :: r) (hp : o2 = o + 3 ∨ cap - 1 = 0) :
    SvAt (w.setCell ⟨R, 7, none⟩ (.slice (some ⟨G, o2, none⟩) (s.held.length - 1) (cap - 1))) R vi vo (.slice (some ⟨G, o2, none⟩) (s.held.length - 1) (cap - 1)) { s with held := r } := by
  have ht : Turn (fun g => g = R) w (w.setCell ⟨R, 7, none⟩ (.slice (some ⟨G, o2, none⟩) (s.held.length - 1) (cap - 1))) := (Turn.refl (fun g => g = R) w).set (g := R) (.inl rfl) _ _
  have hs := Slab.tail h.sheld 1 (by rw [hx]; simp) (o2 := o2) (by simpa using hp)
  rw [hx] at hs
  have hs2 : Slab w 3 (.slice (some ⟨G, o2, none⟩) (s.held.length - 1) (cap - 1)) r.length (heldV r) := by rw [hx]; exact hs
  refine ⟨heap_setCell_same _ R 7 _ _ _ h.blk, fun a b => Slab.turn (h.sin a b) ht (fun g hg e => h.nR.1 (by rw [← e]; exact hg)), Slab.turn h.sout ht (fun g hg e => h.nR.2.1 (by rw [← e]; exact hg)), Slab.turn hs2 ht (fun g hg e => h.nR.2.2 (by rw [← e]; exact hg)), ⟨h.nR.1, h.nR.2.1, h.nR.2.2⟩, fun g hg => h.ap g hg, fun g hg => h.ap2 g hg, fun g hg => Nat.lt_of_lt_of_le (h.lti g hg) ht.size⟩
structure Sv.Ok (s : Sv) : Prop where
  bye : s.bye < 4294967296
  held : s.held.length ≤ 16
  ids : ∀ x ∈ s.held, x.1 < 4294967296
def Sv.answer (s : Sv) (body : ByteArray) : Sv × Nat :=
  if s.closed then (s, 285) else match s.held with
  | [] => (s, 7)
  | (_, _, false) :: _ => (s, 7)
  | (i, _, true) :: r => if packE ((msgTo i 4 body).summed s.sums) = 0 then (({ s.send (msgTo i 4 body) with held := r } : Sv).parts, 0) else ((s.send (msgTo i 4 body)).fail (packE ((msgTo i 4 body).summed s.sums)), packE ((msgTo i 4 body).summed s.sums))
theorem packE_le (m : WMsg) : packE m ≤ 281 := by unfold packE; split <;> (try split) <;> omega
theorem send_out (s : Sv) (m : WMsg) : (s.send m).out.length ≤ s.out.length + 131072 := by
  show (s.out ++ packL _).length ≤ _
  rw [List.length_append]
  have := packL_len (m.summed s.sums)
  omega
set_option maxRecDepth 20000 in
set_option maxHeartbeats 8000000 in
theorem answer_c (R : Nat) (vi vo vh : Value) (s : Sv) (hok : s.Ok) (body : ByteArray) (hbs : body.size ≤ 9223372036854770000) (hlen : s.out.length ≤ 137438953472) (w : World) (h : SvX w R vi vo vh s) :
    Calls Tryd.prog 28 #[.pointer (some ⟨R, 0, none⟩), .string body] w (SvPost R vi vo vh w (s.answer body).1 (.int .i64 ((s.answer body).2 : Int))) := by
  obtain ⟨⟨_, _, c2, _, _, _, _, c7, _, _, _⟩, _⟩ := h.sv.cells
  by_cases hc : s.closed = true
  · have HA := Lib.hid (show s.answer body = (s, 285) by unfold Sv.answer; rw [if_pos hc])
    have H := Lib.hid h
    rw [hc] at c2
    clear h hok c7
    go_enter Tryd.func28, Tryd.ntmps28
    go_wp2
    go_ret
    rw [HA.out]
    exact svPost_same H.out.sv _
  · have hc0 : s.closed = false := by simpa using hc
    rw [hc0] at c2
    obtain ⟨A, cap, hvh, hnc, hcm, hform⟩ := h.sv.sheld.form
    subst hvh
    obtain ⟨l, hh⟩ : ∃ l, s.held = l := ⟨_, rfl⟩
    cases l with
    | nil =>
      have HA := Lib.hid (show s.answer body = (s, 7) by unfold Sv.answer; rw [if_neg hc, hh])
      have H := Lib.hid h
      rw [hh] at c7
      have c7' : w.cell? ⟨R, 7, none⟩ = some (.slice A 0 cap) := c7
      have HH := Lib.hid hh
      clear h hok hform c7
      go_enter Tryd.func28, Tryd.ntmps28
      go_wp2
      go_ret
      rw [HA.out]
      exact svPost_same H.out.sv _
    | cons x r =>
      obtain ⟨i, b, t⟩ := x
      have hl : s.held.length = r.length + 1 := by rw [hh]; rfl
      have hidl : i < 4294967296 := hok.ids (i, b, t) (by rw [hh]; exact .head _)
      have hrl := hok.held
      obtain ⟨G, o, rfl, hG⟩ : ∃ G o, A = some ⟨G, o, none⟩ ∧ w.rangeAt G o (heldV s.held) := by
        rcases hform with ⟨_, h0, _⟩ | ⟨g, off, h1, _, _, h2, _⟩
        · omega
        · exact ⟨g, off, h1, h2⟩
      have d0 : w.cell? ⟨G, o, none⟩ = some (.int .u32 (i : Int)) := hG 0 _ (by rw [hh]; rfl)
      have d2 : w.cell? ⟨G, o + 2, none⟩ = some (.bool t) := hG 2 _ (by rw [hh]; rfl)
      have hn0 : ((s.held.length : Int) == 0) = false := by rw [beq_eq_false_iff_ne]; omega
      have hn1 : (0 : Int) < (s.held.length : Int) := by omega
      cases t with
      | false =>
        have HA := Lib.hid (show s.answer body = (s, 7) by unfold Sv.answer; rw [if_neg hc, hh])
        have H := Lib.hid h
        clear h hok hform hG hh
        generalize s.held.length = n at *
        go_enter Tryd.func28, Tryd.ntmps28
        go_wp2
        go_ret
        rw [HA.out]
        exact svPost_same H.out.sv _
      | true =>
        have hm := msgTo_ok (to := i) (kind := 4) (body := body) hidl (by decide) (by decide) hbs
        have hdrew : ∀ n : Nat, SvX (w.drewN n) R vi vo (.slice (some ⟨G, o, none⟩) s.held.length cap) s := fun n => h.below (below_drewN' w n)
        have HD := Lib.hid hdrew
        have HSEND := Lib.hid (fun (n : Nat) => show Calls Tryd.prog 62 #[.pointer (some ⟨R, 0, none⟩), .agg #[.int .u32 0, .int .u32 (i : Int), .int .i64 4, .string body, .bool false]] (w.drewN n) _ from
          send_c R (svCells R vi vo (.slice (some ⟨G, o, none⟩) s.held.length cap) s) 101 vo s.out s.sums (msgTo i 4 body) hm (by omega) _ (hdrew n).sv.blk rfl rfl (hdrew n).sv.sout h.sv.nR.2.1)
        have hso := send_out s (msgTo i 4 body)
        have hpl := packE_le ((msgTo i 4 body).summed s.sums)
        by_cases hE : packE ((msgTo i 4 body).summed s.sums) = 0
        · have HA := Lib.hid (show s.answer body = (({ s.send (msgTo i 4 body) with held := r } : Sv).parts, 0) by unfold Sv.answer; rw [if_neg hc, hh]; exact if_pos hE)
          have HE := Lib.hid hE
          have HH := Lib.hid hh
          have HO := Lib.hid hok
          have HC := Lib.hid (fun (n : Nat) => (HSEND.out n).mono (R' := fun e w2 => ∃ vi2 vo2 G2 o2 cap2, e = .returned (.int .i64 0) ∧ Hid (SvX w2 R vi2 vo2 (.slice (some ⟨G2, o2, none⟩) s.held.length cap2) (s.send (msgTo i 4 body))) ∧ Hid (Turn (SvF R vi vo (.slice (some ⟨G, o, none⟩) s.held.length cap)) w w2) ∧ Hid (∀ g, SvF R vi2 vo2 (.slice (some ⟨G2, o2, none⟩) s.held.length cap2) g → SvF R vi vo (.slice (some ⟨G, o, none⟩) s.held.length cap) g ∨ w.heap.size ≤ g) ∧ s.held.length ≤ cap2 ∧ cap2 ≤ maxLen ∧ w2.cell? ⟨R, 7, none⟩ = some (.slice (some ⟨G2, o2, none⟩) s.held.length cap2) ∧ w2.frozen? ⟨R, 7, none⟩ = false) (fun e w2 hp => by
            obtain ⟨vi2, vo2, vh2, he, hsv, ht, hnw⟩ := (hdrew n).sv.sent hp
            rw [hE] at he
            obtain ⟨A2, cap2, rfl, h1, h2, h3⟩ := hsv.sheld.form
            have hsx := (hdrew n).of hsv ht hnw
            rcases h3 with ⟨_, h0, _⟩ | ⟨G2, o2, rfl, _⟩
            · exact absurd h0 (by show s.held.length ≠ 0; omega)
            · exact ⟨vi2, vo2, G2, o2, cap2, he, Lib.hid hsx, Lib.hid ((Turn.of_below (below_drewN' w n)).trans (ht.weak (fun g hg => .inl hg))), Lib.hid hnw, h1, h2, hsv.cells.1.2.2.2.2.2.2.2.1, hsv.cells.2 7⟩))
          have HLV := Lib.hid (fun (w2 : World) (vi2 vo2 : Value) (G2 o2 cap2 o3 c3 : Nat) (hx : SvX w2 R vi2 vo2 (.slice (some ⟨G2, o2, none⟩) s.held.length cap2) (s.send (msgTo i 4 body))) (hc3 : c3 = cap2 - 1) (hp : o3 = o2 + 3 ∨ cap2 - 1 = 0) =>
            leaves_c R vi2 vo2 (.slice (some ⟨G2, o3, none⟩) (s.held.length - 1) c3) { s.send (msgTo i 4 body) with held := r } (by show (s.send (msgTo i 4 body)).out.length ≤ _; omega) hok.bye (w2.setCell ⟨R, 7, none⟩ (.slice (some ⟨G2, o3, none⟩) (s.held.length - 1) c3)) (by rw [hc3]; exact SvAt.tail (s := s.send (msgTo i 4 body)) (x := (i, b, true)) (r := r) hx.sv hh hp))
          clear h hok hform hG hh hdrew hm hc hl HSEND
          go_enter Tryd.func28, Tryd.ntmps28
          go_wp2
          go_region_with (go_at_call 62; refine (HC.out _).mono ?_; rintro ee w2 ⟨vi2, vo2, G2, o2, cap2, rfl, HX, HT2, HN2, hc1, hc2, hl2, f7⟩)
          all_goals (
            by_cases hc3 : cap2 - 1 = 0
            · go_wp2_with fail
              refine (HLV.out w2 vi2 vo2 G2 o2 cap2 o2 0 HX.out hc3.symm (.inr hc3)).mono ?_
              rintro ee w3 ⟨vi3, vo3, vh3, rfl, h3, ht3, hn3⟩
              have HF := Lib.hid (SvPost.seq (vh' := .slice (some ⟨G2, o2, none⟩) (s.held.length - 1) 0) (HT2.out.set (.inl (.inl rfl)) 7 _) HN2.out ⟨vi3, vo3, vh3, rfl, h3, ht3, hn3⟩ : SvPost R vi vo (.slice (some ⟨G, o, none⟩) s.held.length cap) w _ (.tuple #[]) _ w3)
              clear h3 ht3 hn3
              go_wp2
              go_ret
              obtain ⟨a1, a2, a3, _, a4, a5, a6⟩ := HF.out
              rw [HA.out]
              exact ⟨a1, a2, a3, rfl, a4, a5, a6⟩
            · have hcx : 1 ≤ cap2 := by omega
              go_wp2_with fail
              refine (HLV.out w2 vi2 vo2 G2 o2 cap2 (o2 + 3) (cap2 - 1) HX.out rfl (.inl rfl)).mono ?_
              rintro ee w3 ⟨vi3, vo3, vh3, rfl, h3, ht3, hn3⟩
              have HF := Lib.hid (SvPost.seq (vh' := .slice (some ⟨G2, o2 + 3, none⟩) (s.held.length - 1) (cap2 - 1)) (HT2.out.set (.inl (.inl rfl)) 7 _) HN2.out ⟨vi3, vo3, vh3, rfl, h3, ht3, hn3⟩ : SvPost R vi vo (.slice (some ⟨G, o, none⟩) s.held.length cap) w _ (.tuple #[]) _ w3)
              clear h3 ht3 hn3
              go_wp2
              go_ret
              obtain ⟨a1, a2, a3, _, a4, a5, a6⟩ := HF.out
              rw [HA.out]
              exact ⟨a1, a2, a3, rfl, a4, a5, a6⟩)
        · have HA := Lib.hid (show s.answer body = ((s.send (msgTo i 4 body)).failed (packE ((msgTo i 4 body).summed s.sums)), packE ((msgTo i 4 body).summed s.sums)) by unfold Sv.answer Sv.failed; rw [if_neg hc, hh, if_neg hE]; exact if_neg hE)
          obtain ⟨pe, hpe⟩ : ∃ n, packE ((msgTo i 4 body).summed s.sums) = n := ⟨_, rfl⟩
          rw [hpe] at hE hpl HA
          have hneb : ((pe : Int) != 0) = true := by rw [bne_iff_ne]; omega
          have HC := Lib.hid (fun (n : Nat) => (HSEND.out n).mono (R' := fun e w2 => ∃ vi2 vo2 vh2, e = .returned (.int .i64 (pe : Int)) ∧ Hid (SvX w2 R vi2 vo2 vh2 (s.send (msgTo i 4 body))) ∧ Hid (Turn (SvF R vi vo (.slice (some ⟨G, o, none⟩) s.held.length cap)) w w2) ∧ Hid (∀ g, SvF R vi2 vo2 vh2 g → SvF R vi vo (.slice (some ⟨G, o, none⟩) s.held.length cap) g ∨ w.heap.size ≤ g)) (fun e w2 hp => by
            obtain ⟨vi2, vo2, vh2, he, hsv, ht, hnw⟩ := (hdrew n).sv.sent hp
            rw [hpe] at he
            exact ⟨vi2, vo2, vh2, he, Lib.hid ((hdrew n).of hsv ht hnw), Lib.hid ((Turn.of_below (below_drewN' w n)).trans (ht.weak (fun g hg => .inl hg))), Lib.hid hnw⟩))
          have HFL := Lib.hid (fun (w2 : World) (vi2 vo2 vh2 : Value) (hx : SvX w2 R vi2 vo2 vh2 (s.send (msgTo i 4 body))) => fail_c R vi2 vo2 vh2 (s.send (msgTo i 4 body)) pe (by omega) (by omega) w2 hx)
          clear h hok hform hG hh hdrew hm hc hl HSEND hpe
          go_enter Tryd.func28, Tryd.ntmps28
          go_wp2
          go_region_with (go_at_call 62; refine (HC.out _).mono ?_; rintro ee w2 ⟨vi2, vo2, vh2, rfl, HX, HT2, HN2⟩)
          all_goals (
            go_wp2_with fail
            refine (HFL.out w2 vi2 vo2 vh2 HX.out).mono ?_
            rintro ee w3 ⟨vi3, vo3, vh3, rfl, h3, ht3, hn3⟩
            have HF := Lib.hid (SvPost.seq HT2.out HN2.out ⟨vi3, vo3, vh3, rfl, h3, ht3, hn3⟩ : SvPost R vi vo (.slice (some ⟨G, o, none⟩) s.held.length cap) w _ (.tuple #[]) _ w3)
            clear h3 ht3 hn3
            go_wp2
            go_ret
            obtain ⟨a1, a2, a3, _, a4, a5, a6⟩ := HF.out
            rw [HA.out]
            exact ⟨a1, a2, a3, rfl, a4, a5, a6⟩)
end Go.Proofs.YtkpickojeghppaaDoor
