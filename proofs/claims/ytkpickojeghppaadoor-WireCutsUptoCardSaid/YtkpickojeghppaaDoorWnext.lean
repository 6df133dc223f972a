/- The walk of Next (the server's). Conditions: at most a thousand asks are held. -/
import Derived.Test.YtkpickojeghppaaDoorWout
namespace Go.Proofs.YtkpickojeghppaaDoor
open Go.RowKit
/-- one cell of a slab is written -/
theorem Slab.put {w : World} {size n cap G o : Nat} {xs : List Value} (h : Slab w size (.slice (some ⟨G, o, none⟩) n cap) n xs) (j : Nat) (hj : j < xs.length) (u : Value) :
    Slab (w.setCell ⟨G, o + j, none⟩ u) size (.slice (some ⟨G, o, none⟩) n cap) n (xs.set j u) := by
  have hl := h.1
  rcases h.2 with ⟨h0, _⟩ | ⟨g, off, c, he, h1, h2, h3, h4, h5⟩
  · cases h0
  · injection he with e1 e2 e3
    injection e1 with e1
    injection e1 with e1 e4
    subst e1; subst e4; subst e3
    have hn : n * size ≤ cap * size := Nat.mul_le_mul_right _ h1
    refine ⟨by rw [List.length_set]; exact hl, .inr ⟨G, o, cap, rfl, h1, h2, by simpa using h3, fun i v hi => ?_, fun i hi => ?_⟩⟩
    · by_cases hij : j = i
      · subst hij
        rw [List.getElem?_set_self hj] at hi
        cases hi
        obtain ⟨x, hx⟩ := Option.isSome_iff_exists.1 (h5 j (by omega)).1
        exact setS hx
      · rw [List.getElem?_set_ne hij] at hi
        rw [setO (fun e => hij (by injection e with _ e; omega))]
        exact h4 i v hi
    · rw [setF]
      by_cases hij : j = i
      · subst hij
        obtain ⟨x, hx⟩ := Option.isSome_iff_exists.1 (h5 j hi).1
        exact ⟨by rw [setS hx]; rfl, (h5 j hi).2⟩
      · rw [setO (fun e => hij (by injection e with _ e; omega))]
        exact h5 i hi
theorem heldV_len (l : List (Nat × ByteArray × Bool)) : (heldV l).length = l.length * 3 := by
  induction l with
  | nil => rfl
  | cons x r ih => show (askV x ++ heldV r).length = _; rw [List.length_append, ih, List.length_cons]; show 3 + _ = _; omega
/-- told -/
def told (l : List (Nat × ByteArray × Bool)) (k : Nat) : List (Nat × ByteArray × Bool) := l.modify k (fun x => (x.1, x.2.1, true))
theorem told_len (l : List (Nat × ByteArray × Bool)) (k : Nat) : (told l k).length = l.length := by simp [told]
theorem heldV_told (l : List (Nat × ByteArray × Bool)) : ∀ (k : Nat), k < l.length → heldV (told l k) = (heldV l).set (k * 3 + 2) (.bool true) := by
  induction l with
  | nil => intro k h; simp at h
  | cons x r ih =>
    intro k h
    obtain ⟨i, b, t⟩ := x
    cases k with
    | zero => rfl
    | succ k =>
      have := ih k (by simpa using h)
      show askV (i, b, t) ++ heldV (told r k) = (askV (i, b, t) ++ heldV r).set _ _
      rw [this, List.set_append_right _ _ (by show 3 ≤ _; omega)]
      congr 1
      show _ = (heldV r).set ((k + 1) * 3 + 2 - 3) _
      congr 1
      omega
def Sv.next (s : Sv) : Sv := match tellAt s.held with | none => s | some k => { s with held := told s.held k }
def Sv.nextV (s : Sv) : Value := match tellAt s.held with | none => .tuple #[.int .u32 0, .string ⟨#[]⟩, .bool false] | some k => .tuple #[.int .u32 ((s.held.getD k (0, ⟨#[]⟩, false)).1 : Int), .string (s.held.getD k (0, ⟨#[]⟩, false)).2.1, .bool true]
theorem tellAt_lt : ∀ (l : List (Nat × ByteArray × Bool)) (k : Nat), tellAt l = some k → k < l.length
  | [], k, h => by cases h
  | (i, b, false) :: r, k, h => by simp only [tellAt, Option.some.injEq] at h; subst h; simp
  | (i, b, true) :: r, k, h => by
    simp only [tellAt, Option.map_eq_some_iff] at h
    obtain ⟨j, hj, rfl⟩ := h
    have := tellAt_lt r j hj
    simp; omega
/-- an ask has been told -/
theorem SvAt.tell {w : World} {R G o cap k : Nat} {vi vo : Value} {s : Sv} (h : SvAt w R vi vo (.slice (some ⟨G, o, none⟩) s.held.length cap) s) (hk : k < s.held.length) (hGR : G ≠ R) :
    SvAt (w.setCell ⟨G, o + k * 3 + 2, none⟩ (.bool true)) R vi vo (.slice (some ⟨G, o, none⟩) s.held.length cap) { s with held := told s.held k } := by
  have ht : Turn (fun g => g = G) w (w.setCell ⟨G, o + k * 3 + 2, none⟩ (.bool true)) := (Turn.refl (fun g => g = G) w).set (g := G) (.inl rfl) _ _
  have hp := Slab.put h.sheld (k * 3 + 2) (by rw [heldV_len]; omega) (.bool true)
  rw [← Nat.add_assoc] at hp
  refine ⟨(heap_setCell_other _ _ _ _ (fun e => hGR e.symm)).trans h.blk, fun a b => Slab.turn (h.sin a b) ht (fun g hg e => h.ap2 G rfl (by rw [← e]; exact hg)), Slab.turn h.sout ht (fun g hg e => (h.ap g hg).1 (by rw [e]; rfl)), ?_, h.nR, h.ap, h.ap2, fun g hg => Nat.lt_of_lt_of_le (h.lti g hg) ht.size⟩
  show Slab _ 3 _ (told s.held k).length (heldV (told s.held k))
  rw [told_len, heldV_told s.held k hk]
  exact hp
set_option maxRecDepth 20000 in
set_option maxHeartbeats 4000000 in
theorem next_c (R : Nat) (vi vo vh : Value) (s : Sv) (hl : s.held.length ≤ 1000) (w : World) (h : SvAt w R vi vo vh s) :
    Calls Tryd.prog 26 #[.pointer (some ⟨R, 0, none⟩)] w (SvPost R vi vo vh w s.next s.nextV) := by
  have c7 := h.cells.1.2.2.2.2.2.2.2.1
  have HI := Lib.hid (index_c vh s.held hl w h.sheld)
  obtain ⟨A, cap, hvh, hnc, hcm, hform⟩ := h.sheld.form
  subst hvh
  have H := Lib.hid h
  have HF := Lib.hid hform
  clear h hform
  cases ht : tellAt s.held with
  | none =>
    have HN := Lib.hid (show s.next = s ∧ s.nextV = .tuple #[.int .u32 0, .string ⟨#[]⟩, .bool false] by unfold Sv.next Sv.nextV; rw [ht]; exact ⟨rfl, rfl⟩)
    have HT := Lib.hid (show tellI s.held = -1 by unfold tellI; rw [ht])
    clear ht
    go_enter Tryd.func26, Tryd.ntmps26
    go_wp2_with fail
    refine HI.out.mono ?_; rintro e w2 ⟨he, hb2⟩
    rw [HT.out] at he
    subst he
    have H2 := Lib.hid (And.intro (H.out.below hb2) hb2)
    clear hb2 c7
    go_wp2
    refine bodyPost_ret (results_tmp3 rfl _ _ _) rfl ?_
    rw [HN.out.1, HN.out.2]
    exact ⟨vi, vo, _, rfl, H2.out.1, Turn.of_below H2.out.2, fun g hg => .inl hg⟩
  | some k =>
    have hk := tellAt_lt s.held k ht
    have HN := Lib.hid (show s.next = { s with held := told s.held k } ∧ s.nextV = .tuple #[.int .u32 ((s.held[k]).1 : Int), .string (s.held[k]).2.1, .bool true] by unfold Sv.next Sv.nextV; rw [ht]; simp [hk])
    have HT := Lib.hid (show tellI s.held = (k : Int) by unfold tellI; rw [ht])
    obtain ⟨G, o, rfl, _, _, hr, hth⟩ : ∃ G o, A = some ⟨G, o, none⟩ ∧ (Value.slice A s.held.length cap).ownBlock = some G ∧ G < w.heap.size ∧ w.rangeAt G o (heldV s.held) ∧ w.there G o (cap * 3) := by
      rcases HF.out with ⟨_, h0, _⟩ | h
      · omega
      · exact h
    have hGR : G ≠ R := fun e => H.out.nR.2.2 (by simp [Value.ownBlock, e])
    have d0 : w.cell? ⟨G, o + k * 3, none⟩ = some (.int .u32 ((s.held[k]).1 : Int)) := hr (k * 3 + 0) _ (heldV_get s.held k hk 0 (by omega))
    have d1 : w.cell? ⟨G, o + k * 3 + 1, none⟩ = some (.string (s.held[k]).2.1) := hr (k * 3 + 1) _ (heldV_get s.held k hk 1 (by omega))
    have d2 : w.cell? ⟨G, o + k * 3 + 2, none⟩ = some (.bool (s.held[k]).2.2) := hr (k * 3 + 2) _ (heldV_get s.held k hk 2 (by omega))
    have d3 : w.frozen? ⟨G, o + k * 3 + 2, none⟩ = false := (hth (k * 3 + 2) (by omega)).2
    have HK := Lib.hid hk
    have HL := Lib.hid (heldV_told s.held k hk)
    clear ht hr hth
    generalize (s.held[k]).1 = xi at *
    generalize (s.held[k]).2.1 = xb at *
    generalize (s.held[k]).2.2 = xt at *
    go_enter Tryd.func26, Tryd.ntmps26
    go_wp2_with fail
    refine HI.out.mono ?_; rintro e w2 ⟨he, hb2⟩
    rw [HT.out] at he
    subst he
    have H2 := Lib.hid (And.intro (H.out.below hb2) hb2)
    have c7' := cell_below hb2 c7
    have e0 := cell_below hb2 d0
    have e1 := cell_below hb2 d1
    have e2 := cell_below hb2 d2
    have e3 := (hb2.frozen (p := ⟨G, o + k * 3 + 2, none⟩) (cell_lt d2)).trans d3
    clear hb2 c7 d0 d1 d2 d3
    go_wp2
    go_quiet (fail)
    go_wp2
    refine bodyPost_ret (results_tmp3 rfl _ _ _) rfl ?_
    rw [HN.out.1, HN.out.2]
    have h3 := H2.out.1.tell HK.out hGR
    exact ⟨vi, vo, _, rfl, h3.below (below_drewN' _ nq), ((Turn.of_below (S := SvF R vi vo (.slice (some ⟨G, o, none⟩) s.held.length cap)) H2.out.2).set (.inl (.inr (.inr (.inr rfl)))) _ _).trans (Turn.of_below (below_drewN' _ nq)), fun g hg => .inl hg⟩
end Go.Proofs.YtkpickojeghppaaDoor
