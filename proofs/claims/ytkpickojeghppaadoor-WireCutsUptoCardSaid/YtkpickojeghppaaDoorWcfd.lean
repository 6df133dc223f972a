/- The walk of Feed (the client's). Conditions: what came and is kept is shorter than 2 to the 40. -/
import Derived.Test.YtkpickojeghppaaDoorWcfeedw
namespace Go.Proofs.YtkpickojeghppaaDoor
open Go.RowKit
theorem clone_c (A : Option Addr) (cap : Nat) (p : List UInt8) (hl : p.length ≤ 1099511627776) (w : World) (h : BytesIn w A p) :
    Calls Tryd.prog 68 #[.slice A p.length cap] w fun e w' => ∃ v', e = .returned v' ∧ Src Tryd.prog 1 28 v' p.length (bytesV p) w' ∧ Below w.heap.size w w' := by
  have nilCase : ∀ c, p = [] → Calls Tryd.prog 68 #[.slice none p.length c] w fun e w' => ∃ v', e = .returned v' ∧ Src Tryd.prog 1 28 v' p.length (bytesV p) w' ∧ Below w.heap.size w w' := fun c hp => by
    subst hp
    refine (Tryd.bytes_Clone_nil 0 c w).mono ?_
    rintro e w' ⟨he, rfl⟩
    exact ⟨_, he, src_bslab (bslab_nil _), Below.refl _ _⟩
  have at_ : ∀ a : Addr, (∀ i, i < p.length → w.cell? (a.add i) = some (.int .u8 ((p.map (fun c => (c.toNat : Int))).getD i 0))) → Calls Tryd.prog 68 #[.slice (some a) p.length cap] w fun e w' => ∃ v', e = .returned v' ∧ Src Tryd.prog 1 28 v' p.length (bytesV p) w' ∧ Below w.heap.size w w' := fun a hc => by
    refine (Tryd.bytes_Clone_at a p.length cap (p.map (fun c => (c.toNat : Int))) w (by simp) (by omega) hc).mono ?_
    rintro e w' ⟨v', he, hown, _, hb⟩
    refine ⟨v', he, ?_, hb⟩
    have hx : (p.map (fun c => (c.toNat : Int))).map (Value.int .u8) = bytesV p := by simp [bytesV]
    rw [hx] at hown
    rcases hown.2 with ⟨hv, hz⟩ | ⟨g, c, cur, hv, _⟩
    · have hp : p = [] := by simpa [bytesV] using hz
      subst hp
      rw [hv]
      exact src_bslab (bslab_nil _)
    · have hcs := World.ownsRow.cells hown (g := g) (by rw [hv]; rfl)
      rw [hv]
      exact Src.ofSlice w' bytTy.slice _ _ _ _ (by simp [bytesV]) hcs (fun u hu => by
        simp only [bytesV, List.mem_map] at hu
        obtain ⟨c, _, rfl⟩ := hu
        rfl)
  rcases h with h | ⟨G, o, rfl, hr⟩
  · cases A with
    | none => exact nilCase cap h
    | some a => exact at_ a (fun i hi => by rw [h] at hi; simp at hi)
  · exact at_ _ (fun i hi => by
      have := hr i (.int .u8 (p[i].toNat : Int)) (by simp [bytesV, hi])
      rw [Addr.add_mid]
      rw [this]
      simp [List.getD, hi])
def Cl.failed (s : Cl) (e : Nat) : Cl := if e = 0 then s else { s with closed := true, why := e }
def Cl.feed (s : Cl) (p : List UInt8) : Cl := if s.closed then s else (Cl.feedE ((s.inp ++ p).length + 1) { s with inp := s.inp ++ p }).1.failed (Cl.feedE ((s.inp ++ p).length + 1) { s with inp := s.inp ++ p }).2
set_option maxRecDepth 20000 in
set_option maxHeartbeats 4000000 in
theorem clfeedStop_c (R : Nat) (V : CV) (s : Cl) (pv : Value) (w : World) (hst : s.closed = true) (h : CK.X w R V s) :
    Calls Tryd.prog 56 #[.pointer (some ⟨R, 0, none⟩), pv] w (CK.Post R V s w s (.int .i64 0)) := by
  have c2 := (cl_cells h.at_).1.2.2.1
  have H := Lib.hid h
  clear h
  rw [hst] at c2
  clear hst
  go_enter Tryd.func56, Tryd.ntmps56
  go_wp2
  go_ret
  exact EK.post_same H.out.at_ _
set_option maxRecDepth 20000 in
set_option maxHeartbeats 4000000 in
theorem clFeed_c (R : Nat) (V : CV) (s : Cl) (hok : s.Ok) (A : Option Addr) (cap : Nat) (p : List UInt8) (w : World) (hp : BytesIn w A p) (hroom : s.came.length + (s.inp.length + p.length) ≤ 1099511627776) (h : CK.X w R V s) :
    Calls Tryd.prog 36 #[.pointer (some ⟨R, 0, none⟩), .slice A p.length cap] w (CK.Post R V s w (s.feed p) (.tuple #[])) := by
  have key : ∀ (s2 : Cl) (e : Nat), (∀ (pv : Value) (W : World), Below w.heap.size w W → Src Tryd.prog 1 28 pv p.length (bytesV p) W → Calls Tryd.prog 56 #[.pointer (some ⟨R, 0, none⟩), pv] W (CK.Post R V s W s2 (.int .i64 (e : Int)))) → Calls Tryd.prog 36 #[.pointer (some ⟨R, 0, none⟩), .slice A p.length cap] w (CK.Post R V s w (s2.failed e) (.tuple #[])) := by
    intro s2 e hfe
    have HFE := Lib.hid hfe
    have HCL := Lib.hid (fun (n : Nat) => clone_c A cap p (by omega) (w.drewN n) (by rcases hp with hp | ⟨G, o, h1, h2⟩; exact .inl hp; exact .inr ⟨G, o, h1, fun j v hj => cell_below (below_drewN' w n) (h2 j v hj)⟩))
    have hRl := h.at_.ltR
    clear hfe h hp hok hroom
    have hE : e = 0 ∨ ((e : Int) != 0) = true := by
      rcases Nat.eq_zero_or_pos e with h | h
      · exact .inl h
      · right; rw [bne_iff_ne]; omega
    generalize hpn : p.length = pn at *
    have HPN := Lib.hid hpn
    clear hpn
    rcases hE with hE | hE
    · subst hE
      go_enter Tryd.func36, Tryd.ntmps36
      go_wp2
      go_region_with (first
        | (go_at_call 68; refine (HCL.out _).mono ?_; rintro ee w1 ⟨v1, rfl, hs1, hb1⟩; have HS1 := Lib.hid hs1; have HB1 := Lib.hid ((below_drewN' w _).trans hb1); clear hs1 hb1)
        | (go_at_call 56; refine (HFE.out _ _ HB1.out HS1.out).mono ?_; rintro ee w2 ⟨V2, rfl, h2, ht2, hn2⟩; have HF := Lib.hid (And.intro h2 (And.intro ((Turn.of_below HB1.out).trans (ht2.weak (fun g hg => .inl hg)) : Turn (CK.F R V s) w w2) (show ∀ g, CK.F R V2 s2 g → CK.F R V s g ∨ w.heap.size ≤ g from fun g hg => (hn2 g hg).imp (fun e => e) (fun e => Nat.le_trans HB1.out.size e)))); clear h2 ht2 hn2))
      all_goals (
        go_wp2
        go_end0
        exact ⟨V2, rfl, HF.out.1, HF.out.2.1, HF.out.2.2⟩)
    · have HNE := Lib.hid (show s2.failed e = { s2 with closed := true, why := e } from if_neg (fun h => by rw [h] at hE; exact absurd hE (by decide)))
      go_enter Tryd.func36, Tryd.ntmps36
      go_wp2
      go_region_with (first
        | (go_at_call 68; refine (HCL.out _).mono ?_; rintro ee w1 ⟨v1, rfl, hs1, hb1⟩; have HS1 := Lib.hid hs1; have HB1 := Lib.hid ((below_drewN' w _).trans hb1); clear hs1 hb1)
        | (go_at_call 56; refine (HFE.out _ _ HB1.out HS1.out).mono ?_; rintro ee w2 ⟨V2, rfl, h2, ht2, hn2⟩; have d2 := (cl_cells h2).1.2.2.1; have d4 := (cl_cells h2).1.2.2.2.2.1; have e2 := (cl_cells h2).2 2; have e4 := (cl_cells h2).2 4; have HF := Lib.hid (And.intro h2 (And.intro ((Turn.of_below HB1.out).trans (ht2.weak (fun g hg => .inl hg)) : Turn (CK.F R V s) w w2) (show ∀ g, CK.F R V2 s2 g → CK.F R V s g ∨ w.heap.size ≤ g from fun g hg => (hn2 g hg).imp (fun e => e) (fun e => Nat.le_trans HB1.out.size e)))); clear h2 ht2 hn2))
      all_goals (
        go_wp2
        go_end0
        rw [HNE.out]
        have hf := cl_put HF.out.1 (s2 := { s2 with closed := true, why := e }) (((Turn.refl (fun g => g = R) w2).set (g := R) (.inl rfl) 2 (.bool false)).set (g := R) (.inl rfl) 4 (.int .i64 (e : Int))) (heap_setCell_same _ R 4 _ _ (.int .i64 (e : Int)) (heap_setCell_same _ R 2 _ _ (.bool false) HF.out.1.blk)) (fun a => by cases a) rfl rfl rfl
        exact EK.seq HF.out.2.1 HF.out.2.2 ⟨V2, rfl, hf.1, hf.2.1, hf.2.2⟩)
  by_cases hst : s.closed = true
  · have := key s 0 (fun pv W hb _ => clfeedStop_c R V s pv W hst (h.below hb))
    have e : s.feed p = s.failed 0 := by unfold Cl.feed; rw [if_pos hst]; rfl
    rw [e]; exact this
  · have hcl : s.closed = false := by simpa using hst
    have e : s.feed p = (Cl.feedE ((s.inp ++ p).length + 1) { s with inp := s.inp ++ p }).1.failed (Cl.feedE ((s.inp ++ p).length + 1) { s with inp := s.inp ++ p }).2 := if_neg (by rw [hcl]; decide)
    rw [e]
    exact key _ _ (fun pv W hb hs => clfeed_c R V s hok pv p W hs hroom hcl (h.below hb))
end Go.Proofs.YtkpickojeghppaaDoor
