/- feed, in plain Lean: the messages taken, the error that ends it; what it keeps. Conditions: none. -/
import Derived.Test.YtkpickojeghppaaDoorWans
namespace Go.Proofs.YtkpickojeghppaaDoor
def Sv.feedE : Nat → Sv → Sv × Nat
  | 0, s => (s, 0)
  | n + 1, s => if s.closed || s.ending then (s, 0) else
    match unpack s.inp with
    | .bad e => if e = 3 then (s, 0) else (s, e)
    | .ok m k => if (({ s with inp := s.inp.drop k } : Sv).take m).2 = 0 then Sv.feedE n (({ s with inp := s.inp.drop k } : Sv).take m).1 else ({ s with inp := s.inp.drop k } : Sv).take m
theorem whole_bad (l : List UInt8) (n e : Nat) (h : whole l n = .bad e) : 280 ≤ e ∧ e ≤ 283 := by
  unfold whole at h
  repeat' (split at h)
  all_goals (first | (injection h with h; omega) | cases h)
theorem unpack_err (l : List UInt8) (e : Nat) (h : unpack l = .bad e) : 1 ≤ e ∧ e ≤ 283 := by
  unfold unpack at h
  repeat' (split at h)
  all_goals (first | (injection h with h; omega) | (have := whole_bad _ _ _ h; omega))
theorem loop_eq : ∀ (n : Nat) (s : Sv), Sv.loop n s = (s.feedE n).1.failed (s.feedE n).2
  | 0, s => by simp [Sv.loop, Sv.feedE, Sv.failed]
  | n + 1, s => by
    rw [Sv.loop, Sv.feedE]
    split
    · simp [Sv.failed]
    · cases hu : unpack s.inp with
      | bad e =>
        simp only
        split
        · simp [Sv.failed]
        · have := unpack_err _ _ hu
          exact (if_neg (by show ¬ e = 0; omega)).symm
      | ok m k =>
        simp only
        split
        · exact loop_eq n _
        · rename_i h
          exact (if_neg h).symm
/-- what is read: a message, and how many bytes it had -/
theorem unpack_ok (l : List UInt8) (hl : l.length ≤ 9223372036854770000) (m : WMsg) (k : Nat) (h : unpack l = .ok m k) : MsgOk m ∧ 24 ≤ k ∧ k ≤ l.length := by
  have hb : ∀ a b, (bodyOf l a b).size ≤ l.length := fun a b => by
    show (((l.take b).drop a).toArray).size ≤ _
    simp; omega
  have key : ∀ b sm, MsgOk ⟨numb l 8, numb l 12, numb l 16, bodyOf l 24 b, sm⟩ := fun b sm =>
    ⟨numb_lt _ _, numb_lt _ _, by have := numb_lt l 16; show _ ≤ ((numb l 16 : Nat) : Int); omega, by have := numb_lt l 16; show ((numb l 16 : Nat) : Int) ≤ _; omega, Nat.le_trans (hb _ _) hl⟩
  unfold unpack at h
  repeat' (split at h)
  all_goals (first | cases h | skip)
  unfold whole at h
  repeat' (split at h)
  all_goals (first | cases h | skip)
  all_goals exact ⟨key _ _, by omega, by omega⟩
theorem parts_ok (s : Sv) (hok : s.Ok) : s.parts.Ok ∧ s.parts.out.length ≤ s.out.length + 131072 ∧ s.parts.inp = s.inp := by
  unfold Sv.parts
  split
  · exact ⟨⟨hok.bye, hok.held, hok.ids⟩, send_out s _, rfl⟩
  · exact ⟨hok, by omega, rfl⟩
/-- what a message leaves -/
theorem take_ok (s : Sv) (m : WMsg) (hok : s.Ok) (hm : MsgOk m) : (s.take m).1.Ok ∧ (s.take m).1.out.length ≤ s.out.length + 131072 ∧ (s.take m).1.inp = s.inp ∧ (s.take m).2 ≤ 284 := by
  unfold Sv.take
  split
  · split
    · exact ⟨hok, by simp, rfl, by simp⟩
    · exact ⟨⟨hok.bye, hok.held, hok.ids⟩, send_out { s with sums := m.sum, began := true } _, rfl, by have := packE_le ((msgTo m.id 2 m.body).summed m.sum); simp only; omega⟩
  · split
    · split
      · exact ⟨hok, by simp, rfl, by simp⟩
      · split
        · exact ⟨hok, by simp, rfl, by simp⟩
        · refine ⟨⟨hok.bye, by simp; omega, fun x hx => ?_⟩, by simp, rfl, by simp⟩
          rcases List.mem_append.1 hx with h | h
          · exact hok.ids x h
          · rw [List.mem_singleton.1 h]; exact hm.1
    · split
      · have := parts_ok { s with bye := m.id, ending := true } ⟨hm.1, hok.held, hok.ids⟩
        exact ⟨this.1, this.2.1, this.2.2, by simp⟩
      · exact ⟨hok, by simp, rfl, by simp⟩
end Go.Proofs.YtkpickojeghppaaDoor
