/- The walk of feed (the client's), the loop. Conditions: what came and is kept is shorter than 2 to the 40. -/
import Derived.Test.YtkpickojeghppaaDoorWclf
namespace Go.Proofs.YtkpickojeghppaaDoor
open Go.RowKit
def Cl.feedE : Nat → Cl → Cl × Nat
  | 0, s => (s, 0)
  | n + 1, s => if s.closed then (s, 0) else
    match unpack s.inp with
    | .bad e => if e = 3 then (s, 0) else (s, e)
    | .ok m k => if (({ s with inp := s.inp.drop k } : Cl).take m).2 = 0 then Cl.feedE n (({ s with inp := s.inp.drop k } : Cl).take m).1 else ({ s with inp := s.inp.drop k } : Cl).take m
theorem cfeedE_stop (n : Nat) (s : Cl) (h : s.closed = true) : s.feedE n = (s, 0) := by
  cases n with
  | zero => rfl
  | succ n => rw [Cl.feedE, if_pos h]
theorem cfeedE_bad (n : Nat) (s : Cl) (e : Nat) (h : s.closed = false) (hu : unpack s.inp = .bad e) : s.feedE (n + 1) = if e = 3 then (s, 0) else (s, e) := by rw [Cl.feedE, if_neg (by rw [h]; decide), hu]
theorem cfeedE_ok (n : Nat) (s : Cl) (m : WMsg) (k : Nat) (h : s.closed = false) (hu : unpack s.inp = .ok m k) : s.feedE (n + 1) = if (({ s with inp := s.inp.drop k } : Cl).take m).2 = 0 then Cl.feedE n (({ s with inp := s.inp.drop k } : Cl).take m).1 else ({ s with inp := s.inp.drop k } : Cl).take m := by rw [Cl.feedE, if_neg (by rw [h]; decide), hu]
theorem unpack_body (l : List UInt8) (m : WMsg) (k : Nat) (h : unpack l = .ok m k) : m.body.size ≤ l.length := by
  have hb : ∀ a b, (bodyOf l a b).size ≤ l.length := fun a b => by
    show (((l.take b).drop a).toArray).size ≤ _
    simp; omega
  unfold unpack at h
  repeat' (split at h)
  all_goals (first | cases h | skip)
  unfold whole at h
  repeat' (split at h)
  all_goals (first | cases h | skip)
  all_goals exact hb _ _
/-- what a message leaves -/
theorem ctake_ok (s : Cl) (m : WMsg) (hok : s.Ok) : (s.take m).1.Ok ∧ (s.take m).1.out = s.out ∧ (s.take m).1.inp = s.inp ∧ (s.take m).1.came.length ≤ s.came.length + 1 ∧ (s.take m).2 ≤ 999 := by
  unfold Cl.take
  split
  · split
    · exact ⟨hok, rfl, rfl, by simp, by simp⟩
    · exact ⟨⟨hok.id, hok.asked⟩, rfl, rfl, by simp, by simp⟩
  · split
    · split
      · exact ⟨hok, rfl, rfl, by simp, by simp⟩
      · rename_i x r hx
        split
        · exact ⟨⟨hok.id, by have := hok.asked; rw [hx] at this; simp at this ⊢; omega⟩, rfl, rfl, by simp, by simp⟩
        · exact ⟨hok, rfl, rfl, by simp, by simp⟩
    · split
      · split
        · exact ⟨⟨hok.id, hok.asked⟩, rfl, rfl, by simp, by simp⟩
        · exact ⟨hok, rfl, rfl, by simp, by simp⟩
      · split
        · refine ⟨hok, rfl, rfl, by simp, ?_⟩
          simp only
          split
          · split <;> omega
          · omega
        · exact ⟨hok, rfl, rfl, by simp, by simp⟩
theorem ctake_c (R : Nat) (V : CV) (s : Cl) (hc : s.closed = false) (hok : s.Ok) (hcl : s.came.length ≤ 1099511627776) (m : WMsg) (hs : m.body.size ≤ 281474976710656) (w : World) (h : CK.X w R V s) :
    Calls Tryd.prog (if s.began then 76 else 67) #[.pointer (some ⟨R, 0, none⟩), .agg (msgV m).toArray] w (CK.Post R V s w (s.take m).1 (.int .i64 ((s.take m).2 : Int))) := by
  cases hb : s.began with
  | true => exact clLater_c R V s hb hok hcl m hs w h
  | false => exact welcome_c R V s hb hc m w h.at_
/-- how much is left to read -/
theorem cleftW_lt {R : Nat} {w : World} {V : CV} {s : Cl} (h : CK.At w R V s) (n : Nat) (hn : s.inp.length < n) : leftW R w < n + 1 := by
  unfold leftW
  obtain ⟨⟨c0, _, c2, c3, _⟩, _⟩ := cl_cells h
  rw [c2, c3, c0]
  split
  · rename_i h1 h2
    injection h1 with h1; injection h1 with h1
    obtain ⟨A, cap, e, _⟩ := (cl_in h (by simpa using h1)).form
    rw [e]
    simp only [lenOf]
    omega
  · omega
theorem cleftW_eq {R : Nat} {w : World} {V : CV} {s : Cl} (h : CK.At w R V s) (hc : s.closed = false) : leftW R w = s.inp.length + 1 := by
  unfold leftW
  obtain ⟨⟨c0, _, c2, c3, _⟩, _⟩ := cl_cells h
  rw [c2, c3, c0, hc]
  obtain ⟨A, cap, e, _⟩ := (cl_in h hc).form
  rw [e]
  rfl
/-- what came is other -/
theorem cl_came_in {w w1 : World} {R : Nat} {V : CV} {vi' : Value} {s : Cl} (h : CK.At w R V s) (ht : Turn (fun g => V.i.ownBlock = some g) w w1) (hn : ∀ g, vi'.ownBlock = some g → V.i.ownBlock = some g ∨ w.heap.size ≤ g) (p : List UInt8) (hs : BSlab w1 vi' p) :
    CK.At (w1.setCell ⟨R, 0, none⟩ vi') R { V with i := vi' } { s with inp := p } ∧ Turn (CK.F R V s) w (w1.setCell ⟨R, 0, none⟩ vi') ∧ ∀ g, CK.F R { V with i := vi' } { s with inp := p } g → CK.F R V s g ∨ w.heap.size ≤ g := by
  have hR := h.ltR
  have hb1 : w1.heap[R]? = some (.cells (clCells R V s) 118 (0, 0)) := ht.obj h.blk (fun e => h.nR _ (.head _) e)
  have hne : ∀ g, vi'.ownBlock = some g → g ≠ R := fun g hg e => by
    subst e
    rcases hn g hg with e | e
    · exact h.nR _ (.head _) e
    · omega
  have hs2 : BSlab (w1.setCell ⟨R, 0, none⟩ vi') vi' p := Slab.same hs (fun g hg => heap_setCell_other _ _ _ _ (hne g hg))
  exact EK.repl (K := CK) (v2 := { V with i := vi' }) (s2 := { s with inp := p }) [] [⟨1, V.o, s.out.length, bytesV s.out, True⟩, ⟨1, V.q, s.asked.length, numsV s.asked, True⟩, ⟨2, V.r, s.came.length, cameV s.came, True⟩]
    ⟨1, V.i, s.inp.length, bytesV s.inp, s.closed = false⟩ ⟨1, vi', p.length, bytesV p, s.closed = false⟩ rfl rfl h ((ht.weak (fun g hg => .inr hg)).set (.inl (.inl rfl)) 0 vi') (heap_setCell_same _ R 0 _ _ vi' hb1)
    (fun _ => hs2) (fun g hg => Slab.lt hs2 hg) hn
/-- what holds at the loop's head -/
structure FcAt (w : World) (R : Nat) (V : CV) (w0 : World) (V0 : CV) (s0 : Cl) (n0 : Nat) (s : Cl) (n : Nat) (z : Cl) : Prop where
  x : CK.X w R V s
  turn : Turn (CK.F R V0 z) w0 w
  new : ∀ g, CK.F R V s g → CK.F R V0 z g ∨ w0.heap.size ≤ g
  fuel : s.inp.length < n
  same : s.feedE n = s0.feedE n0
  ok : s.Ok
  room : s.came.length + s.inp.length ≤ 1099511627776
section
variable {w : World} {R : Nat} {V : CV} {w0 : World} {V0 : CV} {s0 : Cl} {n0 : Nat} {s z : Cl} {n : Nat}
theorem FcAt.post (h : FcAt w R V w0 V0 s0 n0 s n z) {s2 : Cl} {e : Nat} (he : s.feedE n = (s2, e)) {V' : CV} {w' : World} (h2 : CK.At w' R V' s2) (ht : Turn (CK.F R V s) w w') (hn : ∀ g, CK.F R V' s2 g → CK.F R V s g ∨ w.heap.size ≤ g) :
    CK.Post R V0 z w0 (s0.feedE n0).1 (.int .i64 ((s0.feedE n0).2 : Int)) (.returned (.int .i64 (e : Int))) w' := by
  rw [← h.same, he]
  exact EK.seq h.turn h.new ⟨V', rfl, h2, ht, hn⟩
/-- a message more has been taken -/
theorem FcAt.next (h : FcAt w R V w0 V0 s0 n0 s (n + 1) z) (hc : s.closed = false) {m : WMsg} {k : Nat} (hu : unpack s.inp = .ok m k) {s4 : Cl} (ht4 : ({ s with inp := s.inp.drop k } : Cl).take m = (s4, 0)) {V3 : CV} {w3 : World} (hx : CK.X w3 R V3 s4) (ht : Turn (CK.F R V0 z) w0 w3) (hn : ∀ g, CK.F R V3 s4 g → CK.F R V0 z g ∨ w0.heap.size ≤ g) :
    FcAt w3 R V3 w0 V0 s0 n0 s4 n z ∧ leftW R w3 < leftW R w := by
  have hr := h.room
  obtain ⟨hm, hk, hkl⟩ := unpack_ok s.inp (by omega) m k hu
  obtain ⟨a1, a2, a3, a4, _⟩ := ctake_ok { s with inp := s.inp.drop k } m ⟨h.ok.id, h.ok.asked⟩
  rw [ht4] at a1 a2 a3 a4
  simp only at a1 a2 a3 a4
  have hl : s4.inp.length = s.inp.length - k := by rw [a3, List.length_drop]
  have hf := h.fuel
  refine ⟨⟨hx, ht, hn, by omega, ?_, a1, by omega⟩, ?_⟩
  · rw [← h.same, cfeedE_ok n s m k hc hu, ht4]; rfl
  · rw [cleftW_eq h.x.at_ hc]
    exact cleftW_lt hx.at_ s.inp.length (by omega)
theorem FcAt.halt (h : FcAt w R V w0 V0 s0 n0 s (n + 1) z) (hc : s.closed = false) {m : WMsg} {k : Nat} (hu : unpack s.inp = .ok m k) {s4 : Cl} {e4 : Nat} (ht4 : ({ s with inp := s.inp.drop k } : Cl).take m = (s4, e4)) (h4 : e4 ≠ 0) {V3 : CV} {w3 : World} (hx : CK.X w3 R V3 s4) (ht : Turn (CK.F R V0 z) w0 w3) (hn : ∀ g, CK.F R V3 s4 g → CK.F R V0 z g ∨ w0.heap.size ≤ g) :
    CK.Post R V0 z w0 (s0.feedE n0).1 (.int .i64 ((s0.feedE n0).2 : Int)) (.returned (.int .i64 (e4 : Int))) w3 := by
  have : s0.feedE n0 = (s4, e4) := by rw [← h.same, cfeedE_ok n s m k hc hu, ht4]; exact if_neg h4
  rw [this]
  exact ⟨V3, rfl, hx.at_, ht, hn⟩
end
/-- behind a message: what came is shorter; the message is taken -/
theorem cfed_c {R : Nat} {vo vq vr : Value} {w0 : World} {V0 : CV} {s0 s z : Cl} {n0 n G o cap : Nat} {w : World} (HF : FcAt w R ⟨.slice (some ⟨G, o, none⟩) s.inp.length cap, vo, vq, vr⟩ w0 V0 s0 n0 s (n + 1) z) (hc : s.closed = false) {w2 : World} (hb : Below w.heap.size w w2) (m : WMsg) (hm : m.body.size ≤ 281474976710656) (k : Nat) (hk : k ≤ s.inp.length) (o2 c2 : Nat) (hc2 : c2 = cap - k) (hp : o2 = o + k ∨ cap - k = 0) (W3 : World) (hbq : Below (w2.setCell ⟨R, 0, none⟩ (.slice (some ⟨G, o2, none⟩) (s.inp.length - k) c2)).heap.size (w2.setCell ⟨R, 0, none⟩ (.slice (some ⟨G, o2, none⟩) (s.inp.length - k) c2)) W3) :
    Calls Tryd.prog (if s.began then 76 else 67) #[.pointer (some ⟨R, 0, none⟩), .agg (msgV m).toArray] W3 (fun e w3 => ∃ V3, e = .returned (.int .i64 ((({ s with inp := s.inp.drop k } : Cl).take m).2 : Int)) ∧ Hid (CK.X w3 R V3 (({ s with inp := s.inp.drop k } : Cl).take m).1) ∧ Hid (Turn (CK.F R V0 z) w0 w3) ∧ Hid (∀ g, CK.F R V3 (({ s with inp := s.inp.drop k } : Cl).take m).1 g → CK.F R V0 z g ∨ w0.heap.size ≤ g)) := by
  subst hc2
  have h2 := HF.x.below hb
  have hs := BSlab.tail (cl_in h2.at_ hc) hk hp
  obtain ⟨h3, ht3, hn3⟩ := cl_came_in h2.at_ (Turn.refl _ _) (vi' := .slice (some ⟨G, o2, none⟩) (s.inp.length - k) (cap - k)) (fun g hg => .inl hg) _ hs
  have hx3 := h2.of h3 ht3 hn3
  have hx4 := hx3.below hbq
  refine (ctake_c R _ { s with inp := s.inp.drop k } hc ⟨HF.ok.id, HF.ok.asked⟩ (by have := HF.room; show s.came.length ≤ _; omega) m hm _ hx4).mono ?_
  rintro e w3 ⟨V3, he3, h5, ht5, hn5⟩
  have hT : Turn (CK.F R V0 z) w0 W3 :=
    (HF.turn.trans ((((Turn.of_below hb).trans (ht3.weak (fun g hg => .inl hg))).trans (Turn.of_below hbq)).weak HF.new))
  have hN : ∀ g, CK.F R ⟨.slice (some ⟨G, o2, none⟩) (s.inp.length - k) (cap - k), vo, vq, vr⟩ { s with inp := s.inp.drop k } g → CK.F R V0 z g ∨ w0.heap.size ≤ g := fun g hg => (hn3 g hg).elim (HF.new g) (fun e => .inr (Nat.le_trans (Nat.le_trans HF.turn.size hb.size) e))
  exact ⟨V3, he3, Lib.hid (hx4.of h5 ht5 hn5), Lib.hid (hT.trans (ht5.weak hN)), Lib.hid (fun g hg => (hn5 g hg).elim (hN g) (fun e => .inr (Nat.le_trans hT.size e)))⟩
end Go.Proofs.YtkpickojeghppaaDoor
