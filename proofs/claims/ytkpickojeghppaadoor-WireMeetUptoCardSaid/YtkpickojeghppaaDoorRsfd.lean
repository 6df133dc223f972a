/- The walk of Feed (the document's server). Conditions: what came and goes out is shorter than 2 to the 41. -/
import Derived.Test.YtkpickojeghppaaDoorRtake
namespace Go.Proofs.YtkpickojeghppaaDoor
open Go.RowKit
theorem bodyOf_le (l : List UInt8) (a b : Nat) : (bodyOf l a b).size ≤ b - a := by
  show (((l.take b).drop a).toArray).size ≤ _
  simp; omega
/-- a welcome to what was read is not too long -/
theorem unpack_fits (l : List UInt8) (m : WMsg) (k : Nat) (h : unpack l = .ok m k) : packE ((msgTo m.id 2 m.body).summed m.sum) = 0 := by
  have key : m.size ≤ 131072 := by
    unfold unpack at h
    repeat' (split at h)
    all_goals (first | cases h | skip)
    rename_i h1 h2 h3
    unfold whole at h
    repeat' (split at h)
    all_goals (first | cases h | skip)
    · have := bodyOf_le l 24 (numb l 4 - 4)
      unfold WMsg.size
      simp
      omega
    · have := bodyOf_le l 24 (numb l 4)
      unfold WMsg.size
      simp
      omega
  unfold packE
  rw [if_neg (by show ¬ ((2 : Int) < 1 ∨ 6 < (2 : Int)); decide), if_neg]
  show ¬ 131072 < m.size
  omega
theorem rloop_closed (n : Nat) (s : Sv) (h : (s.closed || s.ending) = true) : s.loop n = s := by
  cases n with
  | zero => rfl
  | succ n => rw [Sv.loop, if_pos h]
theorem take_err (s : Sv) (m : WMsg) (hp : packE ((msgTo m.id 2 m.body).summed m.sum) = 0) (h : (s.take m).2 ≠ 0) : (s.take m).1 = s := by
  unfold Sv.take at h ⊢
  by_cases h1 : s.began = false
  · rw [if_pos h1] at h ⊢
    by_cases h2 : m.kind ≠ 1
    · rw [if_pos h2]
    · rw [if_neg h2] at h
      exact absurd hp h
  · rw [if_neg h1] at h ⊢
    by_cases h3 : m.kind = 3
    · rw [if_pos h3] at h ⊢
      by_cases h4 : m.id ≤ s.last
      · rw [if_pos h4]
      · rw [if_neg h4] at h ⊢
        by_cases h5 : 16 ≤ s.held.length
        · rw [if_pos h5]
        · rw [if_neg h5] at h
          exact absurd rfl h
    · rw [if_neg h3] at h ⊢
      by_cases h5 : m.kind = 5
      · rw [if_pos h5] at h
        exact absurd rfl h
      · rw [if_neg h5]
theorem fail_ok (s : Sv) (e : Nat) (h : s.Ok) : (s.fail e).Ok ∧ (s.fail e).out.length ≤ s.out.length + 131072 ∧ (s.fail e).inp = s.inp :=
  ⟨⟨h.bye, Nat.zero_le _, fun x hx => by cases hx⟩, send_out s _, rfl⟩
theorem took_ok (s : Sv) (m : WMsg) (hok : s.Ok) (hm : MsgOk m) (hp : packE ((msgTo m.id 2 m.body).summed m.sum) = 0) : (s.took m).Ok ∧ (s.took m).out.length ≤ s.out.length + 131072 ∧ (s.took m).inp = s.inp := by
  have h := take_ok s m hok hm
  unfold Sv.took Sv.failed
  split
  · exact ⟨h.1, h.2.1, h.2.2.1⟩
  · rename_i he
    rw [take_err s m hp he]
    exact fail_ok s _ hok
theorem rloop_ok (n : Nat) (s : Sv) (m : WMsg) (k : Nat) (h : ¬ (s.closed || s.ending) = true) (hu : unpack s.inp = .ok m k) : s.loop (n + 1) = ((s.cut k).took m).loop n := by
  rw [Sv.loop, if_neg h, hu]
  unfold Sv.took Sv.failed
  show (if ((s.cut k).take m).2 = 0 then Sv.loop n ((s.cut k).take m).1 else ((s.cut k).take m).1.fail ((s.cut k).take m).2) = _
  by_cases he : ((s.cut k).take m).2 = 0
  · rw [if_pos he, if_pos he]
  · rw [if_neg he, if_neg he]
    exact (rloop_closed _ _ rfl).symm
theorem rloop_bad (n : Nat) (s : Sv) (e : Nat) (h : ¬ (s.closed || s.ending) = true) (hu : unpack s.inp = .bad e) : s.loop (n + 1) = if e = 3 then s else s.fail e := by rw [Sv.loop, if_neg h, hu]
/-- how much is left to read -/
def rleft (R : Nat) (w : World) : Nat := match w.cell? ⟨R, 2, none⟩, w.cell? ⟨R, 6, none⟩ with
  | some (.bool false), some (.bool false) => lenOf (w.cell? ⟨R, 0, none⟩) + 1
  | _, _ => 0
theorem rleft_lt {R : Nat} {w : World} {V : RV} {s : Sv} (h : RSK.At w R V s) (n : Nat) (hn : s.inp.length < n) : rleft R w < n + 1 := by
  unfold rleft
  obtain ⟨⟨c0, _, c2, _, _, _, c6, _⟩, _⟩ := rs_cells h
  rw [c2, c6, c0]
  split
  · rename_i h1 h2
    injection h1 with h1; injection h1 with h1
    injection h2 with h2; injection h2 with h2
    obtain ⟨A, cap, hv, _⟩ := Slab.form (rs_in h h1 h2)
    rw [hv]
    simp only [lenOf]
    omega
  · omega
theorem rleft_eq {R : Nat} {w : World} {V : RV} {s : Sv} (h : RSK.At w R V s) (hc : s.closed = false) (he : s.ending = false) : rleft R w = s.inp.length + 1 := by
  unfold rleft
  obtain ⟨⟨c0, _, c2, _, _, _, c6, _⟩, _⟩ := rs_cells h
  rw [c2, c6, c0, hc, he]
  obtain ⟨A, cap, hv, _⟩ := Slab.form (rs_in h hc he)
  rw [hv]
  rfl
/-- what holds at the loop's head -/
structure RfAt (w : World) (R : Nat) (V : RV) (w0 : World) (V0 : RV) (s0 : Sv) (n0 : Nat) (s : Sv) (n : Nat) : Prop where
  at_ : RSK.At w R V s
  turn : Turn (RSK.F R V0 s0) w0 w
  new : ∀ g, RSK.F R V s g → RSK.F R V0 s0 g ∨ w0.heap.size ≤ g
  fuel : s.inp.length < n
  same : s.loop n = s0.loop n0
  ok : s.Ok
  room : 24 * s.out.length + 131072 * s.inp.length ≤ 3298534883328
theorem RfAt.post {w : World} {R : Nat} {V : RV} {w0 : World} {V0 : RV} {s0 : Sv} {n0 : Nat} {s : Sv} {n : Nat} (h : RfAt w R V w0 V0 s0 n0 s n) {s2 : Sv} (he : s.loop n = s2) {e : Ending} {w' : World} (hp : RSK.Post R V s w s2 (.tuple #[]) e w') :
    RSK.Post R V0 s0 w0 (s0.loop n0) (.tuple #[]) e w' := by
  rw [← h.same, he]
  exact EK.seq h.turn h.new hp
/-- a message more has been taken -/
theorem RfAt.next {w : World} {R : Nat} {V : RV} {w0 : World} {V0 : RV} {s0 : Sv} {n0 : Nat} {s : Sv} {n : Nat} (h : RfAt w R V w0 V0 s0 n0 s (n + 1)) (hc : s.closed = false) (he : s.ending = false) {m : WMsg} {k : Nat} (hu : unpack s.inp = .ok m k) {V4 : RV} {w4 : World} (h4 : RSK.At w4 R V4 ((s.cut k).took m)) (ht : Turn (RSK.F R V s) w w4) (hn : ∀ g, RSK.F R V4 ((s.cut k).took m) g → RSK.F R V s g ∨ w.heap.size ≤ g) :
    RfAt w4 R V4 w0 V0 s0 n0 ((s.cut k).took m) n ∧ rleft R w4 < rleft R w := by
  have hr := h.room
  obtain ⟨hm, hk, hkl⟩ := unpack_ok s.inp (by omega) m k hu
  obtain ⟨a1, a2, a3⟩ := took_ok (s.cut k) m ⟨h.ok.bye, h.ok.held, h.ok.ids⟩ hm (unpack_fits _ _ _ hu)
  have hl : ((s.cut k).took m).inp.length = s.inp.length - k := by rw [a3]; exact List.length_drop
  have ho : ((s.cut k).took m).out.length ≤ s.out.length + 131072 := a2
  have hf := h.fuel
  refine ⟨⟨h4, h.turn.trans (ht.weak h.new), fun g hg => (hn g hg).elim (h.new g) (fun e => .inr (Nat.le_trans h.turn.size e)), by omega, ?_, a1, by omega⟩, ?_⟩
  · rw [← h.same, rloop_ok n s m k (by rw [hc, he]; decide) hu]
  · rw [rleft_eq h.at_ hc he]
    exact rleft_lt h4 s.inp.length (by omega)
end Go.Proofs.YtkpickojeghppaaDoor
