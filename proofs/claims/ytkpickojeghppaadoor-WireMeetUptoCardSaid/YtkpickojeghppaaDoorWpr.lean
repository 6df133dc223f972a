/- Plain: what Next, Answer, Out leave of a server that is in order. Conditions: none. -/
import Derived.Test.YtkpickojeghppaaDoorWps
namespace Go.Proofs.YtkpickojeghppaaDoor
open Go.RowKit
theorem told_ids (N : Nat) : ∀ (l : List (Nat × ByteArray × Bool)) (k : Nat), (∀ x ∈ l, x.1 < N) → ∀ x ∈ told l k, x.1 < N
  | [], k, _, x, hx => by simp [told] at hx
  | y :: r, 0, h, x, hx => by
    simp only [told, List.modify_zero_cons, List.mem_cons] at hx
    rcases hx with rfl | hx
    · exact h y (.head _)
    · exact h x (.tail _ hx)
  | y :: r, k + 1, h, x, hx => by
    simp only [told, List.modify_succ_cons, List.mem_cons] at hx
    rcases hx with rfl | hx
    · exact h _ (.head _)
    · exact told_ids N r k (fun z hz => h z (.tail _ hz)) x hx
theorem next_ok {s : Sv} (h : s.Ok) : s.next.Ok := by
  unfold Sv.next
  split
  · exact h
  · exact ⟨h.bye, by show (told _ _).length ≤ 16; rw [told_len]; exact h.held, told_ids _ _ _ h.ids⟩
theorem Sv.Room.mono {s : Sv} {f f2 : Nat} (h : s.Room f) (hf : f ≤ f2) : s.Room f2 := ⟨Nat.le_trans h.inp hf, by have := h.out; omega, fun e => by have := h.both e; omega⟩
theorem next_room {s : Sv} {f : Nat} (h : s.Room f) : s.next.Room f := by
  unfold Sv.next
  split
  · exact h
  · exact ⟨h.inp, h.out, h.both⟩
theorem out_ok {s : Sv} (h : s.Ok) : ({ s with out := [] } : Sv).Ok := ⟨h.bye, h.held, h.ids⟩
theorem out_room {s : Sv} {f : Nat} (h : s.Room f) : ({ s with out := [] } : Sv).Room f := ⟨h.inp, by show 24 * 0 ≤ _; omega, fun e => by have := h.both (show s.stop = false from e); show 24 * 0 + 131072 * s.inp.length ≤ _; omega⟩
theorem more_room {s t : Sv} {f : Nat} (h : s.Room f) (hi : t.inp = s.inp) (ho : t.out.length ≤ s.out.length + 262144) (hs : t.stop = false → s.stop = false) : t.Room (f + 48) :=
  ⟨by rw [hi]; have := h.inp; omega, by have := h.out; omega, fun e => by have := h.both (hs e); rw [hi]; omega⟩
theorem parts_stop (s : Sv) (h : s.parts.stop = false) : s.stop = false := by
  unfold Sv.parts at h
  split at h
  · cases h
  · exact h
theorem answer_ok {s : Sv} (body : ByteArray) {f : Nat} (h : s.Ok) (hr : s.Room f) : (s.answer body).1.Ok ∧ (s.answer body).1.Room (f + 48) := by
  unfold Sv.answer
  have same : s.Ok ∧ s.Room (f + 48) := ⟨h, hr.mono (by omega)⟩
  split
  · exact same
  · split
    · exact same
    · exact same
    · rename_i i b r hh
      have hso := send_out s (msgTo i 4 body)
      split
      · have hok : ({ s.send (msgTo i 4 body) with held := r } : Sv).Ok := ⟨h.bye, by have := h.held; rw [hh] at this; simp at this; show r.length ≤ 16; omega, fun x hx => h.ids x (by rw [hh]; exact .tail _ hx)⟩
        obtain ⟨a, b, c⟩ := parts_ok _ hok
        refine ⟨a, more_room hr c ?_ (fun e => parts_stop { s.send (msgTo i 4 body) with held := r } e)⟩
        have b' : (Sv.parts { s.send (msgTo i 4 body) with held := r }).out.length ≤ (s.send (msgTo i 4 body)).out.length + 131072 := b
        show (Sv.parts { s.send (msgTo i 4 body) with held := r }).out.length ≤ _
        omega
      · obtain ⟨a, b, c⟩ := fail_ok (s.send (msgTo i 4 body)) (packE ((msgTo i 4 body).summed s.sums)) ⟨h.bye, h.held, h.ids⟩
        exact ⟨a, more_room hr c (by show ((s.send (msgTo i 4 body)).fail (packE ((msgTo i 4 body).summed s.sums))).out.length ≤ _; omega) (fun e => by cases e)⟩
theorem room_in {s : Sv} {f n : Nat} (h : s.Room f) (hf : f + n ≤ 8000000) : 24 * s.out.length + 131072 * (s.inp.length + n) ≤ 3298534883328 := by
  have := h.inp
  have := h.out
  omega
theorem room_out {s : Sv} {f : Nat} (h : s.Room f) (hf : f ≤ 8000000) : s.out.length ≤ 137438953472 := by
  have := h.out
  omega
theorem nextV_form (s : Sv) : ∃ (a : Nat) (b : ByteArray) (c : Bool), s.nextV = .tuple #[.int .u32 (a : Int), .string b, .bool c] := by
  unfold Sv.nextV
  split
  · exact ⟨0, _, _, rfl⟩
  · exact ⟨_, _, _, rfl⟩
theorem actsW_take {l : List ActP} {k : Nat} (h : k < l.length) : actsW (l.take (k + 1)) = actsW (l.take k) + ((l[k]).wt + 1) := by
  unfold actsW
  rw [List.take_succ_eq_append_getElem h, List.map_append, List.sum_append]
  simp
theorem actsW_take_le (l : List ActP) (k : Nat) : actsW (l.take k) ≤ actsW l := by
  have h : actsW l = actsW (l.take k) + actsW (l.drop k) := by
    unfold actsW
    rw [← List.sum_append, ← List.map_append, List.take_append_drop]
  omega
end Go.Proofs.YtkpickojeghppaaDoor
