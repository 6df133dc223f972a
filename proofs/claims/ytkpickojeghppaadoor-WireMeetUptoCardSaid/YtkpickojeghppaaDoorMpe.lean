/- Both ends whose bytes reach each other, in plain Lean: how little is under way; rounds. Conditions: none. -/
import Derived.Test.YtkpickojeghppaaDoorMpd
namespace Go.Proofs.YtkpickojeghppaaDoor
theorem flatM_le : ∀ (l : List WMsg), (flatM l).length ≤ 131072 * l.length
  | [] => Nat.le_refl _
  | m :: r => by
    rw [flatM_cons, List.length_append, List.length_cons]
    have := flatM_le r
    have := packL_len m
    omega
theorem asksM_len (sums : Bool) : ∀ (l : List ByteArray) (j : Nat), (asksM sums j l).length = l.length
  | [], _ => rfl
  | b :: r, j => by simp [asksM, asksM_len sums r (j + 1)]
theorem repsM_len (sums : Bool) : ∀ (l : List ByteArray) (j : Nat), (repsM sums j l).length = l.length
  | [], _ => rfl
  | b :: r, j => by simp [repsM, repsM_len sums r (j + 1)]
section
variable {sums : Bool} {t : MS} {Y Z H Q : List ByteArray} {sb cb se ce : Bool}
theorem MInv.upLe (h : MInv sums t Y Z H Q sb cb se ce) : (t.s.inp ++ (t.up ++ t.c.out)).length ≤ 2359296 := by
  rw [h.upEq]
  have := flatM_le (upM sums t.asked.length (Y.length + Z.length + H.length + 2) Q sb (t.ended && !se))
  have h2 : (upM sums t.asked.length (Y.length + Z.length + H.length + 2) Q sb (t.ended && !se)).length ≤ 18 := by
    unfold upM
    rw [List.length_append, List.length_append, asksM_len]
    have := h.h16
    have e1 : (if sb = true then ([] : List WMsg) else [helloM sums]).length ≤ 1 := by split <;> simp
    have e2 : (if (t.ended && !se) = true then [byeMs sums (t.asked.length + 2)] else ([] : List WMsg)).length ≤ 1 := by split <;> simp
    omega
  omega
theorem MInv.dnLe (h : MInv sums t Y Z H Q sb cb se ce) : (t.c.inp ++ (t.down ++ t.s.out)).length ≤ 2359296 := by
  rw [h.dnEq]
  have := flatM_le (dnM sums t.asked.length (Y.length + 2) Z (sb && !cb) (t.s.closed && !ce))
  have h2 : (dnM sums t.asked.length (Y.length + 2) Z (sb && !cb) (t.s.closed && !ce)).length ≤ 18 := by
    unfold dnM
    rw [List.length_append, List.length_append, repsM_len]
    have := h.h16
    have e1 : (if (sb && !cb) = true then [welcomeM sums] else ([] : List WMsg)).length ≤ 1 := by split <;> simp
    have e2 : (if (t.s.closed && !ce) = true then [byeA sums (t.asked.length + 2)] else ([] : List WMsg)).length ≤ 1 := by split <;> simp
    omega
  omega
theorem MInv.okS (h : MInv sums t Y Z H Q sb cb se ce) : t.s.Ok := by
  have h1 := h.srv.byeN
  have h2 := h.n
  have h3 := h.h16
  have h4 := h.len
  refine ⟨by omega, by rw [h.srv.held, heldL_len]; omega, ?_⟩
  rw [h.srv.held]
  exact heldL_ids H _ _ (by omega)
theorem MInv.okC (h : MInv sums t Y Z H Q sb cb se ce) : t.c.Ok ∧ 1 ≤ t.c.id := by
  have h2 := h.n
  have h3 := h.h16
  have h4 := h.len
  have hi := h.cli.id
  refine ⟨⟨by rw [hi]; split <;> omega, by rw [h.cli.asked, List.length_range']; omega⟩, by rw [hi]; omega⟩
end
def MS.round (t : MS) : MS := ((t.toS (-1)).answer).toC (-1)
theorem toS_ended (t : MS) (n : Int) : (t.toS n).ended = t.ended := rfl
theorem answer_ended (t : MS) : t.answer.ended = t.ended := by unfold MS.answer; split <;> rfl
theorem answer_step {sums : Bool} {t : MS} {Y Z H Q : List ByteArray} {sb cb se ce : Bool} (h : MInv sums t Y Z H Q sb cb se ce) : ∃ Z' H', MInv sums t.answer Y Z' H' Q sb cb se ce ∧ H'.length = H.length - 1 := by
  cases H with
  | nil => exact ⟨Z, [], by rw [h.idle.1]; exact h, rfl⟩
  | cons b r => exact ⟨Z ++ [b], r, h.answer.1, rfl⟩
/-- what stands behind a round -/
theorem round_done {sums : Bool} {t : MS} {Y Z H Q : List ByteArray} {sb cb se ce : Bool} (h : MInv sums t Y Z H Q sb cb se ce) (he : t.ended = true) : MDone sums t.round (H.length + Q.length - 1) := by
  obtain ⟨H1, Q1, sb1, se1, i1, f1⟩ := h.toS (-1) (by have := h.upLe; omega)
  obtain ⟨a, b, c⟩ := f1 (by omega)
  subst a; subst b
  rw [he] at c
  subst c
  have hl1 := i1.len
  have hl0 := h.len
  have hX := h.heard
  have hX1 : t.heard = Y.length + Z.length := i1.heard
  have hcnt : H1.length = H.length + Q.length := by
    have e : (t.toS (-1)).asked.length = t.asked.length := rfl
    rw [e] at hl1
    simp at hl1
    omega
  obtain ⟨Z2, H2, i2, hl2⟩ := answer_step i1
  obtain ⟨Z3, Z4, cb3, ce3, _, _, i3, f3⟩ := i2.toC (-1) (by have := i2.dnLe; omega)
  obtain ⟨a, b, c⟩ := f3 (by omega)
  subst a; subst b
  refine ⟨Y ++ Z3, H2, ce3, i3, c, by omega⟩
theorem MDone.ended {sums : Bool} {t : MS} {k : Nat} (h : MDone sums t k) : t.ended = true := by
  obtain ⟨Y, H, ce, hi, _⟩ := h.inv
  exact (hi.seq rfl).2
theorem MDone.round {sums : Bool} {t : MS} {k : Nat} (h : MDone sums t k) : MDone sums t.round (k - 1) := by
  have he := h.ended
  obtain ⟨Y, H, ce, hi, _, hl⟩ := h.inv
  obtain ⟨Y', H', ce', i, c, l⟩ := (round_done hi he).inv
  exact ⟨Y', H', ce', i, c, by simp at l; omega⟩
end Go.Proofs.YtkpickojeghppaaDoor
