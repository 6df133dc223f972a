/- The walks of Next and Answer (the document's server). Conditions: at most a thousand asks are held, what goes out is shorter than 2 to the 37. -/
import Derived.Test.YtkpickojeghppaaDoorRtake
namespace Go.Proofs.YtkpickojeghppaaDoor
open Go.RowKit
theorem rs_tell {w : World} {R G o cap k : Nat} {vi vo : Value} {s : Sv} (h : RSK.At w R ⟨vi, vo, .slice (some ⟨G, o, none⟩) s.held.length cap⟩ s) (hk : k < s.held.length) :
    RSK.At (w.setCell ⟨G, o + k * 3 + 2, none⟩ (.bool true)) R ⟨vi, vo, .slice (some ⟨G, o, none⟩) s.held.length cap⟩ { s with held := told s.held k } ∧
    Turn (RSK.F R ⟨vi, vo, .slice (some ⟨G, o, none⟩) s.held.length cap⟩ s) w (w.setCell ⟨G, o + k * 3 + 2, none⟩ (.bool true)) ∧
    ∀ g, RSK.F R ⟨vi, vo, .slice (some ⟨G, o, none⟩) s.held.length cap⟩ { s with held := told s.held k } g → RSK.F R ⟨vi, vo, .slice (some ⟨G, o, none⟩) s.held.length cap⟩ s g ∨ w.heap.size ≤ g := by
  have hGR : G ≠ R := fun e => h.nR _ (.tail _ (.tail _ (.head _))) (by rw [← e]; rfl)
  have ht : Turn (fun g => g = G) w (w.setCell ⟨G, o + k * 3 + 2, none⟩ (.bool true)) := (Turn.refl (fun g => g = G) w).set (g := G) (.inl rfl) _ _
  have hp := Slab.put (rs_held h) (k * 3 + 2) (by rw [heldV_len]; omega) (.bool true)
  rw [← Nat.add_assoc] at hp
  have hp2 : Slab (w.setCell ⟨G, o + k * 3 + 2, none⟩ (.bool true)) 3 (.slice (some ⟨G, o, none⟩) s.held.length cap) (told s.held k).length (heldV (told s.held k)) := by
    rw [told_len, heldV_told s.held k hk]
    exact hp
  exact EK.repl (K := RSK) (v2 := ⟨vi, vo, .slice (some ⟨G, o, none⟩) s.held.length cap⟩) (s2 := { s with held := told s.held k }) [⟨1, vi, s.inp.length, bytesV s.inp, s.closed = false ∧ s.ending = false⟩, ⟨1, vo, s.out.length, bytesV s.out, True⟩] []
    ⟨3, .slice (some ⟨G, o, none⟩) s.held.length cap, s.held.length, heldV s.held, True⟩ ⟨3, .slice (some ⟨G, o, none⟩) s.held.length cap, (told s.held k).length, heldV (told s.held k), True⟩ rfl rfl h (ht.weak (fun g hg => .inr (by rw [hg]; rfl)))
    ((heap_setCell_other _ _ _ _ (fun e => hGR e.symm)).trans h.blk) (fun _ => hp2) (fun g hg => by have := Slab.lt hp2 hg; exact this) (fun g hg => .inl hg)
theorem tellAt_first : ∀ (l : List (Nat × ByteArray × Bool)) (k : Nat), (∀ j (h : j < l.length), j < k → (l[j]).2.2 = true) → k < l.length → tellAt l = if (l[k]?.map (·.2.2)) = some false then some k else tellAt l
  | l, k, h, hk => by
    split
    · rename_i hf
      induction l generalizing k with
      | nil => simp at hk
      | cons x r ih =>
        obtain ⟨i, b, t⟩ := x
        cases k with
        | zero =>
          simp at hf
          subst hf
          rfl
        | succ k =>
          have h0 := h 0 (by simp) (by omega)
          simp at h0
          subst h0
          have := ih k (fun j hj hjk => h (j + 1) (by simpa using hj) (by omega)) (by simpa using hk) (by simpa using hf)
          simp only [tellAt, this, Option.map_some]
    · rfl
theorem tellAt_all : ∀ (l : List (Nat × ByteArray × Bool)), (∀ j (h : j < l.length), (l[j]).2.2 = true) → tellAt l = none
  | [], _ => rfl
  | (i, b, t) :: r, h => by
    have h0 := h 0 (by simp)
    simp at h0
    subst h0
    have := tellAt_all r (fun j hj => h (j + 1) (by simpa using hj))
    simp only [tellAt, this, Option.map_none]
set_option maxRecDepth 20000 in
set_option maxHeartbeats 4000000 in
theorem rsNext_c (R : Nat) (V : RV) (s : Sv) (hl : s.held.length ≤ 1000) (w : World) (h : RSK.At w R V s) :
    Calls Tryd.prog 27 #[.pointer (some ⟨R, 0, none⟩)] w (RSK.Post R V s w s.next s.nextV) := by
  have c8 := (rs_cells h).1.2.2.2.2.2.2.2.2.1
  obtain ⟨A, cap, hvh, hnc, hcm, hform⟩ := Slab.form (rs_held h)
  obtain ⟨vi, vo, vh⟩ := V
  simp only at hvh c8
  subst hvh
  have H := Lib.hid h
  have HF := Lib.hid hform
  obtain ⟨n, hn⟩ : ∃ n, s.held.length = n := ⟨_, rfl⟩
  have HN := Lib.hid hn
  rw [hn] at c8 hl hnc
  clear h hform hn
  go_enter Tryd.func27, Tryd.ntmps27
  go_wp2
  go_loop [5] (fun i => ∃ k : Nat, k ≤ n ∧ i = .int .i64 k ∧ Hid (∀ j (h : j < s.held.length), j < k → (s.held[j]).2.2 = true)) (fun i => n - (intOf i).toNat)
  case atStart => exact ⟨0, Nat.zero_le _, rfl, Lib.hid (fun j _ hj => by omega)⟩
  case round =>
    obtain ⟨k, hk, rfl, HA⟩ := hrel
    by_cases hlt : k < n
    · have hkl : k < s.held.length := by rw [HN.out]; exact hlt
      obtain ⟨G, o, rfl, _, _, hr, hth⟩ : ∃ G o, A = some ⟨G, o, none⟩ ∧ (Value.slice A s.held.length cap).ownBlock = some G ∧ G < w.heap.size ∧ w.rangeAt G o (heldV s.held) ∧ w.there G o (cap * 3) := by
        rcases HF.out with ⟨_, h0, _⟩ | h
        · omega
        · exact h
      have hGR : G ≠ R := fun e => H.out.nR _ (.tail _ (.tail _ (.head _))) (by rw [← e]; rfl)
      obtain ⟨⟨xi, xb, xt⟩, hxe⟩ : ∃ x, s.held[k]'hkl = x := ⟨_, rfl⟩
      have d0 : w.cell? ⟨G, o + k * 3, none⟩ = some (.int .u32 (xi : Int)) := by have := hr (k * 3 + 0) _ (heldV_get s.held k hkl 0 (by omega)); rw [hxe] at this; exact this
      have d1 : w.cell? ⟨G, o + k * 3 + 1, none⟩ = some (.string xb) := by have := hr (k * 3 + 1) _ (heldV_get s.held k hkl 1 (by omega)); rw [hxe] at this; exact this
      have d2 : w.cell? ⟨G, o + k * 3 + 2, none⟩ = some (.bool xt) := by have := hr (k * 3 + 2) _ (heldV_get s.held k hkl 2 (by omega)); rw [hxe] at this; exact this
      have d3 : w.frozen? ⟨G, o + k * 3 + 2, none⟩ = false := (hth (k * 3 + 2) (by omega)).2
      have HTK := Lib.hid (tellAt_first s.held k HA.out hkl)
      have HG := Lib.hid (show s.held[k]? = some (xi, xb, xt) by rw [List.getElem?_eq_getElem hkl, hxe])
      have HXE := Lib.hid (show k < s.held.length ∧ ∀ h : k < s.held.length, s.held[k]'h = (xi, xb, xt) from ⟨hkl, fun _ => hxe⟩)
      clear hr hth hxe
      cases xt with
      | true =>
        clear hkl d0 d1 d3
        go_wp2
        go_round
        case rel => exact ⟨k + 1, by omega, by go_num, Lib.hid (fun j hj hjk => by
          by_cases e : j = k
          · subst e; rw [HXE.out.2 hj]
          · exact HA.out j hj (by omega))⟩
        case measure => simp [intOf]; omega
      | false =>
        have HT := Lib.hid (show tellAt s.held = some k by rw [HTK.out, HG.out]; rfl)
        have HV := Lib.hid (show s.next = { s with held := told s.held k } ∧ s.nextV = .tuple #[.int .u32 (xi : Int), .string xb, .bool true] by unfold Sv.next Sv.nextV; rw [HT.out]; simp only [List.getD_eq_getElem?_getD, HG.out, Option.getD_some, and_self])
        have HTE := Lib.hid (rs_tell H.out HXE.out.1)
        clear hkl
        go_wp2
        go_quiet (fail)
        go_wp2
        refine bodyPost_ret (results_tmp3 rfl _ _ _) rfl ?_
        rw [HV.out.1, HV.out.2]
        exact EK.post_then HTE.out (below_drewN' _ nq) _
    · obtain rfl : k = n := by omega
      have HT := Lib.hid (show s.next = s ∧ s.nextV = .tuple #[.int .u32 0, .string ⟨#[]⟩, .bool false] by
        unfold Sv.next Sv.nextV
        rw [tellAt_all s.held (fun j hj => HA.out j hj (by rw [← HN.out]; exact hj))]
        exact ⟨rfl, rfl⟩)
      go_wp2
      refine bodyPost_ret (results_tmp3 rfl _ _ _) rfl ?_
      rw [HT.out.1, HT.out.2]
      exact EK.post_same H.out _
end Go.Proofs.YtkpickojeghppaaDoor
