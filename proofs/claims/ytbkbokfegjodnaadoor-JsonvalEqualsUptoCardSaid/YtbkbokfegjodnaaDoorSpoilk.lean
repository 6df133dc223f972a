/- The walk of spoil: every list under a value is written full, then grown. Conditions: each list is a row of its own. -/
import Derived.Test.YtbkbokfegjodnaaDoorMakeskit
namespace Go.Proofs.YtbkbokfegjodnaaDoor
open Go.RowKit
/-- the first loop: the items ahead of j are spoilt -/
structure SpAt (w0 : World) (X : Nat) (ns : List ByteArray) (is : List JV) (an ai : Option Addr) (cn ci : Nat) (Fs : List Nat) (j : Nat) (w : World) : Prop where
  turn : Turn (fun g => g ∈ Fs) w0 w
  c3 : w.cell? ⟨X, 3, none⟩ = some (.slice an ns.length cn)
  c4 : w.cell? ⟨X, 4, none⟩ = some (.slice ai is.length ci)
  f3 : w.frozen? ⟨X, 3, none⟩ = false
  f4 : w.frozen? ⟨X, 4, none⟩ = false
  nrow : Row w 9 1 (.slice an ns.length cn) ns.length (ns.map Value.string)
  irow : ∃ ys zs F2, ys.length = j * 5 ∧ Row w 28 5 (.slice ai is.length ci) is.length (ys ++ zs) ∧ RepsF w (is.drop j) zs F2 ∧ F2.Nodup ∧ ∀ b ∈ F2, b ∈ Fs
theorem SpAt.next {w0 w : World} {X : Nat} {ns : List ByteArray} {is : List JV} {an ai : Option Addr} {cn ci : Nat} {Fs : List Nat} {j : Nat} (h : SpAt w0 X ns is an ai cn ci Fs j w) (hj : j < is.length)
    (hX : X ∉ Fs) (hn : ∀ b ∈ ownA an, b ∉ Fs) (hi : ∀ b ∈ ownA ai, b ∉ Fs) :
    ∃ cs Ft, RepF w is[j] cs Ft ∧ Ft.Nodup ∧ (∃ g, ai = some ⟨g, 0, none⟩ ∧ Lie w g (j * 5) cs) ∧ ∀ w', Turn (fun g => g ∈ Ft) w w' → SpAt w0 X ns is an ai cn ci Fs (j + 1) w' := by
  obtain ⟨ys, zs, F2, hl, hrow, hreps, hnd, hsub⟩ := h.irow
  rw [List.drop_eq_getElem_cons hj, RepsF] at hreps
  obtain ⟨cs, zs', Ft, Fr, rfl, rfl, h1, h2⟩ := hreps
  rw [List.nodup_append] at hnd
  obtain ⟨n1, n2, n3⟩ := hnd
  have hcs := h1.len
  obtain ⟨a', c', hf, _, _, hf3⟩ := hrow.form
  injection hf with e1 _ e2
  subst e1; subst e2
  rcases hf3 with ⟨_, h0, _⟩ | ⟨g, hg0, _, hgl, hlie⟩
  · omega
  refine ⟨cs, Ft, h1, n1, ⟨g, hg0, fun i u hu => ?_⟩, fun w' ht => ?_⟩
  · have := hlie (j * 5 + i) u (by rw [← hl, List.getElem?_append_right (by omega), Nat.add_sub_cancel_left, List.getElem?_append_left (List.getElem?_eq_some_iff.1 hu).1]; exact hu)
    simpa using this
  · have k : ∀ b, b ∉ Fs → b < w.heap.size → w'.heap[b]? = w.heap[b]? := fun b hb hlt => ht.block b hlt (fun e => hb (hsub b (by simp [e])))
    have kX := k X hX (cell_lt h.c3)
    refine ⟨h.turn.trans (ht.weak (fun g hg => .inl (hsub g (by simp [hg])))), ?_, ?_, ?_, ?_, ?_, ys ++ cs, zs', Fr, by rw [List.length_append, hl, hcs]; omega, ?_, ?_, n2, fun b hb => hsub b (by simp [hb])⟩
    · rw [World.cell?_of_block (w := w) kX]; exact h.c3
    · rw [World.cell?_of_block (w := w) kX]; exact h.c4
    · rw [World.frozen?_of_block (w := w) kX]; exact h.f3
    · rw [World.frozen?_of_block (w := w) kX]; exact h.f4
    · exact h.nrow.same (fun g hg => k g (hn g (ownA_mem hg)) (h.nrow.lt hg))
    · rw [List.append_assoc]; exact hrow.same (fun g hg => k g (hi g (ownA_mem hg)) (hrow.lt hg))
    · exact RepsF.kept _ _ _ h2 (fun b hb => ht.block b (RepsF.lt _ _ _ h2 b hb) (fun e => n3 b e b hb rfl))
end Go.Proofs.YtbkbokfegjodnaaDoor
