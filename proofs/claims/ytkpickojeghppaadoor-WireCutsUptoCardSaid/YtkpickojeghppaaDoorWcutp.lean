/- How a stream is cut has no part, in plain Lean. Conditions: none. -/
import Derived.Test.YtkpickojeghppaaDoorWfd
namespace Go.Proofs.YtkpickojeghppaaDoor
theorem take_more (l q : List UInt8) (h : 4 ≤ l.length) : (l ++ q).take 4 = l.take 4 := List.take_append_of_le_length h
theorem numb_more (l q : List UInt8) (k : Nat) (h : k + 4 ≤ l.length) : numb (l ++ q) k = numb l k := numb_left l q k h
theorem whole_more (l q : List UInt8) (n : Nat) (h : n ≤ l.length) (h24 : 24 ≤ n) : whole (l ++ q) n = whole l n := by
  rw [← whole_take (l ++ q) n (by rw [List.length_append]; omega) h24, List.take_append_of_le_length h, whole_take l n h h24]
/-- what was decided stays decided -/
theorem unpack_more (l q : List UInt8) (h : unpack l ≠ .bad 3) : unpack (l ++ q) = unpack l := by
  unfold unpack at h ⊢
  by_cases h1 : l.take 4 ≠ ([100, 107, 116, 49] : List UInt8).take l.length
  · rw [if_pos h1, if_pos]
    intro e
    apply h1
    have e2 := congrArg (List.take l.length) e
    rw [List.take_take, List.take_take, Nat.min_comm, ← List.take_take, List.take_append_of_le_length (Nat.le_refl _), List.take_length, List.length_append, Nat.min_eq_left (by omega)] at e2
    exact e2
  · rw [if_neg h1] at h ⊢
    by_cases h8 : l.length < 8
    · rw [if_pos h8] at h; exact absurd rfl h
    rw [if_neg h8] at h ⊢
    have e4 : numb (l ++ q) 4 = numb l 4 := numb_more l q 4 (by omega)
    have ht : ¬ (l ++ q).take 4 ≠ ([100, 107, 116, 49] : List UInt8).take (l ++ q).length := by
      rw [take_more l q (by omega)]
      have : l.take 4 = ([100, 107, 116, 49] : List UInt8).take l.length := Decidable.not_not.1 h1
      rw [this, List.length_append, List.take_of_length_le (by simp; omega), List.take_of_length_le (by simp; omega)]
      simp
    rw [if_neg ht, if_neg (by rw [List.length_append]; omega), e4]
    by_cases h5 : 131072 < numb l 4
    · rw [if_pos h5, if_pos h5]
    rw [if_neg h5] at h ⊢
    rw [if_neg h5]
    by_cases h6 : numb l 4 < 24
    · rw [if_pos h6, if_pos h6]
    rw [if_neg h6] at h ⊢
    rw [if_neg h6]
    by_cases h7 : l.length < numb l 4
    · rw [if_pos h7] at h; exact absurd rfl h
    rw [if_neg h7, if_neg (by rw [List.length_append]; omega)]
    exact whole_more l q _ (by omega) (by omega)
/-- the state, but for what came -/
def Sv.sans (s : Sv) (l : List UInt8) : Sv := { s with inp := l }
def Sv.stop (s : Sv) : Bool := s.closed || s.ending
theorem parts_sans (s : Sv) (l : List UInt8) : (s.sans l).parts = s.parts.sans l := by
  unfold Sv.parts
  show (if s.ending && s.held.isEmpty && !s.closed then _ else _) = _
  split <;> rfl
theorem take_sans (s : Sv) (l : List UInt8) (m : WMsg) : (s.sans l).take m = ((s.take m).1.sans l, (s.take m).2) := by
  have hp := parts_sans { s with bye := m.id, ending := true } l
  unfold Sv.take
  show (if s.began = false then _ else _) = _
  split
  · split <;> rfl
  · split
    · show (if m.id ≤ s.last then _ else _) = _
      split
      · rfl
      · show (if 16 ≤ s.held.length then _ else _) = _
        split <;> rfl
    · split
      · exact Prod.ext hp rfl
      · rfl
theorem fail_sans (s : Sv) (l : List UInt8) (e : Nat) : (s.sans l).fail e = (s.fail e).sans l := rfl
theorem take_inp (s : Sv) (m : WMsg) : (s.take m).1.inp = s.inp := by
  have := congrArg (fun x => x.1.inp) (take_sans s s.inp m)
  exact this
/-- the loop of its own: as much as can be read -/
theorem loop_more : ∀ (n : Nat) (s : Sv) (k : Nat), s.inp.length < n → n ≤ k → s.inp.length ≤ 9223372036854770000 → Sv.loop k s = Sv.loop n s
  | 0, _, _, h, _, _ => by omega
  | n + 1, s, k, h, hk, hl => by
    obtain ⟨j, rfl⟩ : ∃ j, k = j + 1 := ⟨k - 1, by omega⟩
    rw [Sv.loop, Sv.loop]
    split
    · rfl
    · cases hu : unpack s.inp with
      | bad e => rfl
      | ok m c =>
        obtain ⟨_, hk24, hcl⟩ := unpack_ok s.inp hl m c hu
        simp only
        split
        · have hi : (({ s with inp := s.inp.drop c } : Sv).take m).1.inp.length = s.inp.length - c := by rw [take_inp]; exact List.length_drop
          exact loop_more n _ j (by omega) (by omega) (by omega)
        · rfl
def Sv.run (s : Sv) : Sv := Sv.loop (s.inp.length + 1) s
theorem run_stop (s : Sv) (h : s.stop = true) : s.run = s := by unfold Sv.run; rw [Sv.loop]; exact if_pos h
theorem run_bad (s : Sv) (e : Nat) (h : s.stop = false) (hu : unpack s.inp = .bad e) : s.run = if e = 3 then s else s.fail e := by
  unfold Sv.run; rw [Sv.loop, if_neg (by have : (s.closed || s.ending) = false := h; rw [this]; decide), hu]
theorem run_ok (s : Sv) (m : WMsg) (c : Nat) (hl : s.inp.length ≤ 9223372036854770000) (h : s.stop = false) (hu : unpack s.inp = .ok m c) :
    s.run = if ((s.sans (s.inp.drop c)).take m).2 = 0 then ((s.sans (s.inp.drop c)).take m).1.run else ((s.sans (s.inp.drop c)).take m).1.fail ((s.sans (s.inp.drop c)).take m).2 := by
  obtain ⟨_, hk24, hcl⟩ := unpack_ok s.inp hl m c hu
  have hi : ((s.sans (s.inp.drop c)).take m).1.inp.length = s.inp.length - c := by rw [take_inp]; exact List.length_drop
  unfold Sv.run
  rw [Sv.loop, if_neg (by have : (s.closed || s.ending) = false := h; rw [this]; decide), hu]
  show (if ((s.sans (s.inp.drop c)).take m).2 = 0 then _ else _) = _
  split
  · exact loop_more (((s.sans (s.inp.drop c)).take m).1.inp.length + 1) ((s.sans (s.inp.drop c)).take m).1 s.inp.length (Nat.lt_succ_self _) (by omega) (by omega)
  · rfl
theorem feed_run (s : Sv) (p : List UInt8) : s.feed p = if s.stop then s else (s.sans (s.inp ++ p)).run := rfl
/-- alike, but for what is not read any more -/
def Sv.Like (s t : Sv) : Prop := s = t ∨ (s.stop = true ∧ t.stop = true ∧ s.sans [] = t.sans [])
theorem like_refl (s : Sv) : Sv.Like s s := .inl rfl
theorem like_sans (s : Sv) (a b : List UInt8) (h : s.stop = true) : Sv.Like (s.sans a) (s.sans b) := .inr ⟨h, h, rfl⟩
theorem fail_stop (s : Sv) (e : Nat) : (s.fail e).stop = true := rfl
/-- more comes behind: what was read is read all the same -/
theorem run_more : ∀ (n : Nat) (s : Sv) (q : List UInt8), s.inp.length < n → s.inp.length + q.length ≤ 9223372036854770000 →
    Sv.Like (s.sans (s.inp ++ q)).run (if s.run.stop then s.run else (s.run.sans (s.run.inp ++ q)).run)
  | 0, _, _, h, _ => by omega
  | n + 1, s, q, hn, hl => by
    cases hs : s.stop with
    | true =>
      rw [run_stop s hs, if_pos hs, run_stop (s.sans (s.inp ++ q)) hs]
      exact .inr ⟨hs, hs, rfl⟩
    | false =>
      cases hu : unpack s.inp with
      | bad e =>
        by_cases h3 : e = 3
        · subst h3
          have hr := run_bad s 3 hs hu
          rw [if_pos rfl] at hr
          rw [hr, if_neg (by rw [hs]; decide)]
          exact like_refl _
        · have hm := unpack_more s.inp q (by rw [hu]; intro h; injection h with h; exact h3 h)
          rw [hu] at hm
          have hr := run_bad s e hs hu
          have hr2 := run_bad (s.sans (s.inp ++ q)) e hs hm
          rw [if_neg h3] at hr hr2
          rw [hr, hr2, if_pos (fail_stop s e), fail_sans]
          exact like_sans (s.fail e) _ s.inp (fail_stop s e)
      | ok m c =>
        obtain ⟨_, hk24, hcl⟩ := unpack_ok s.inp (by omega) m c hu
        have hm := unpack_more s.inp q (by rw [hu]; intro h; cases h)
        rw [hu] at hm
        have hr := run_ok s m c (by omega) hs hu
        have hr2 := run_ok (s.sans (s.inp ++ q)) m c (by show (s.inp ++ q).length ≤ _; rw [List.length_append]; exact hl) hs hm
        have hd : (s.inp ++ q).drop c = s.inp.drop c ++ q := List.drop_append_of_le_length hcl
        have e1 : (s.sans (s.inp ++ q)).sans ((s.sans (s.inp ++ q)).inp.drop c) = (s.sans (s.inp.drop c)).sans (s.inp.drop c ++ q) := by
          show s.sans ((s.inp ++ q).drop c) = _
          rw [hd]; rfl
        rw [e1, take_sans (s.sans (s.inp.drop c))] at hr2
        obtain ⟨t, e, ht⟩ : ∃ t e, (s.sans (s.inp.drop c)).take m = (t, e) := ⟨_, _, rfl⟩
        have hti : t.inp = s.inp.drop c := by have := take_inp (s.sans (s.inp.drop c)) m; rw [ht] at this; exact this
        rw [ht] at hr hr2
        simp only at hr hr2
        by_cases h0 : e = 0
        · rw [if_pos h0] at hr hr2
          rw [hr, hr2]
          have ih := run_more n t q (by rw [hti, List.length_drop]; omega) (by rw [hti, List.length_drop]; omega)
          rw [hti] at ih
          exact ih
        · rw [if_neg h0] at hr hr2
          rw [hr, hr2, if_pos (fail_stop t e), fail_sans]
          exact like_sans (t.fail e) _ t.inp (fail_stop t e)
theorem like_feed {s t : Sv} (h : Sv.Like s t) (p : List UInt8) : Sv.Like (s.feed p) (t.feed p) := by
  rcases h with rfl | ⟨h1, h2, h3⟩
  · exact like_refl _
  · rw [feed_run, feed_run, if_pos h1, if_pos h2]; exact .inr ⟨h1, h2, h3⟩
theorem like_trans {s t u : Sv} (h : Sv.Like s t) (k : Sv.Like t u) : Sv.Like s u := by
  rcases h with rfl | ⟨h1, h2, h3⟩
  · exact k
  · rcases k with rfl | ⟨k1, k2, k3⟩
    · exact .inr ⟨h1, h2, h3⟩
    · exact .inr ⟨h1, k2, h3.trans k3⟩
theorem like_symm {s t : Sv} (h : Sv.Like s t) : Sv.Like t s := by
  rcases h with rfl | ⟨h1, h2, h3⟩
  · exact like_refl _
  · exact .inr ⟨h2, h1, h3.symm⟩
/-- two feeds are one -/
theorem feed_feed (s : Sv) (p q : List UInt8) (hl : s.inp.length + p.length + q.length ≤ 9223372036854770000) : Sv.Like (s.feed (p ++ q)) ((s.feed p).feed q) := by
  rw [feed_run, feed_run s p]
  cases hs : s.stop with
  | true => rw [if_pos rfl, if_pos rfl, feed_run, if_pos hs]; exact like_refl _
  | false =>
    rw [if_neg (by decide), if_neg (by decide), feed_run]
    have := run_more _ (s.sans (s.inp ++ p)) q (Nat.lt_succ_self _) (by show (s.inp ++ p).length + q.length ≤ _; rw [List.length_append]; exact hl)
    have e : (s.sans (s.inp ++ p)).sans ((s.sans (s.inp ++ p)).inp ++ q) = s.sans (s.inp ++ (p ++ q)) := by
      show s.sans ((s.inp ++ p) ++ q) = _
      rw [List.append_assoc]
    rw [e] at this
    exact this
end Go.Proofs.YtkpickojeghppaaDoor
