/- Plain laws: two feeds are one; a beginning tells a beginning. Conditions: what the laws name. -/
import Derived.Test.YtkpickojeghppaaDoorFeed
namespace Go.Proofs.YtkpickojeghppaaDoor
theorem take_more (l q : List UInt8) (h : 4 ≤ l.length) : (l ++ q).take 4 = l.take 4 := List.take_append_of_le_length h
theorem numb_more (l q : List UInt8) (k : Nat) (h : k + 4 ≤ l.length) : numb (l ++ q) k = numb l k := numb_left l q k h
theorem whole_more (l q : List UInt8) (n : Nat) (h : n ≤ l.length) (h24 : 24 ≤ n) : whole (l ++ q) n = whole l n := by
  rw [← whole_take (l ++ q) n (by rw [List.length_append]; omega) h24, List.take_append_of_le_length h, whole_take l n h h24]
/-- what was decided stays decided -/
theorem unpack_more (l q : List UInt8) (h : unpack l ≠ .bad 3) : unpack (l ++ q) = unpack l := by
  unfold unpack at h ⊢
  by_cases h1 : l.take 4 ≠ ([100, 107, 116, 49] : List UInt8).take l.length
  · rw [if_pos h1, if_pos]
    intro e
    apply h1
    have e2 := congrArg (List.take l.length) e
    rw [List.take_take, List.take_take, Nat.min_comm, ← List.take_take, List.take_append_of_le_length (Nat.le_refl _), List.take_length, List.length_append, Nat.min_eq_left (by omega)] at e2
    exact e2
  · rw [if_neg h1] at h ⊢
    by_cases h8 : l.length < 8
    · rw [if_pos h8] at h; exact absurd rfl h
    rw [if_neg h8] at h ⊢
    have e4 : numb (l ++ q) 4 = numb l 4 := numb_more l q 4 (by omega)
    have ht : ¬ (l ++ q).take 4 ≠ ([100, 107, 116, 49] : List UInt8).take (l ++ q).length := by
      rw [take_more l q (by omega)]
      have : l.take 4 = ([100, 107, 116, 49] : List UInt8).take l.length := Decidable.not_not.1 h1
      rw [this, List.length_append, List.take_of_length_le (by simp; omega), List.take_of_length_le (by simp; omega)]
      simp
    rw [if_neg ht, if_neg (by rw [List.length_append]; omega), e4]
    by_cases h5 : 131072 < numb l 4
    · rw [if_pos h5, if_pos h5]
    rw [if_neg h5] at h ⊢
    rw [if_neg h5]
    by_cases h6 : numb l 4 < 24
    · rw [if_pos h6, if_pos h6]
    rw [if_neg h6] at h ⊢
    rw [if_neg h6]
    by_cases h7 : l.length < numb l 4
    · rw [if_pos h7] at h; exact absurd rfl h
    rw [if_neg h7, if_neg (by rw [List.length_append]; omega)]
    exact whole_more l q _ (by omega) (by omega)
/-- the state, but for what came -/
def Sv.sans (s : Sv) (l : List UInt8) : Sv := { s with inp := l }
def Sv.stop (s : Sv) : Bool := s.closed || s.ending
theorem parts_sans (s : Sv) (l : List UInt8) : (s.sans l).parts = s.parts.sans l := by
  unfold Sv.parts
  show (if s.ending && s.held.isEmpty && !s.closed then _ else _) = _
  split <;> rfl
theorem take_sans (s : Sv) (l : List UInt8) (m : WMsg) : (s.sans l).take m = ((s.take m).1.sans l, (s.take m).2) := by
  have hp := parts_sans { s with bye := m.id, ending := true } l
  unfold Sv.take
  show (if s.began = false then _ else _) = _
  split
  · split <;> rfl
  · split
    · show (if m.id ≤ s.last then _ else _) = _
      split
      · rfl
      · show (if 16 ≤ s.held.length then _ else _) = _
        split <;> rfl
    · split
      · exact Prod.ext hp rfl
      · rfl
theorem fail_sans (s : Sv) (l : List UInt8) (e : Nat) : (s.sans l).fail e = (s.fail e).sans l := rfl
theorem take_inp (s : Sv) (m : WMsg) : (s.take m).1.inp = s.inp := by
  have := congrArg (fun x => x.1.inp) (take_sans s s.inp m)
  exact this
/-- the loop of its own: as much as can be read -/
theorem loop_more : ∀ (n : Nat) (s : Sv) (k : Nat), s.inp.length < n → n ≤ k → s.inp.length ≤ 9223372036854770000 → Sv.loop k s = Sv.loop n s
  | 0, _, _, h, _, _ => by omega
  | n + 1, s, k, h, hk, hl => by
    obtain ⟨j, rfl⟩ : ∃ j, k = j + 1 := ⟨k - 1, by omega⟩
    rw [Sv.loop, Sv.loop]
    split
    · rfl
    · cases hu : unpack s.inp with
      | bad e => rfl
      | ok m c =>
        obtain ⟨_, hk24, hcl⟩ := unpack_ok s.inp hl m c hu
        simp only
        split
        · have hi : (({ s with inp := s.inp.drop c } : Sv).take m).1.inp.length = s.inp.length - c := by rw [take_inp]; exact List.length_drop
          exact loop_more n _ j (by omega) (by omega) (by omega)
        · rfl
def Sv.run (s : Sv) : Sv := Sv.loop (s.inp.length + 1) s
theorem run_stop (s : Sv) (h : s.stop = true) : s.run = s := by unfold Sv.run; rw [Sv.loop]; exact if_pos h
theorem run_bad (s : Sv) (e : Nat) (h : s.stop = false) (hu : unpack s.inp = .bad e) : s.run = if e = 3 then s else s.fail e := by
  unfold Sv.run; rw [Sv.loop, if_neg (by have : (s.closed || s.ending) = false := h; rw [this]; decide), hu]
theorem run_ok (s : Sv) (m : WMsg) (c : Nat) (hl : s.inp.length ≤ 9223372036854770000) (h : s.stop = false) (hu : unpack s.inp = .ok m c) :
    s.run = if ((s.sans (s.inp.drop c)).take m).2 = 0 then ((s.sans (s.inp.drop c)).take m).1.run else ((s.sans (s.inp.drop c)).take m).1.fail ((s.sans (s.inp.drop c)).take m).2 := by
  obtain ⟨_, hk24, hcl⟩ := unpack_ok s.inp hl m c hu
  have hi : ((s.sans (s.inp.drop c)).take m).1.inp.length = s.inp.length - c := by rw [take_inp]; exact List.length_drop
  unfold Sv.run
  rw [Sv.loop, if_neg (by have : (s.closed || s.ending) = false := h; rw [this]; decide), hu]
  show (if ((s.sans (s.inp.drop c)).take m).2 = 0 then _ else _) = _
  split
  · exact loop_more (((s.sans (s.inp.drop c)).take m).1.inp.length + 1) ((s.sans (s.inp.drop c)).take m).1 s.inp.length (Nat.lt_succ_self _) (by omega) (by omega)
  · rfl
theorem feed_run (s : Sv) (p : List UInt8) : s.feed p = if s.stop then s else (s.sans (s.inp ++ p)).run := rfl
/-- alike, but for what is not read any more -/
def Sv.Like (s t : Sv) : Prop := s = t ∨ (s.stop = true ∧ t.stop = true ∧ s.sans [] = t.sans [])
theorem like_refl (s : Sv) : Sv.Like s s := .inl rfl
theorem like_sans (s : Sv) (a b : List UInt8) (h : s.stop = true) : Sv.Like (s.sans a) (s.sans b) := .inr ⟨h, h, rfl⟩
theorem fail_stop (s : Sv) (e : Nat) : (s.fail e).stop = true := rfl
/-- more comes behind: what was read is read all the same -/
theorem run_more : ∀ (n : Nat) (s : Sv) (q : List UInt8), s.inp.length < n → s.inp.length + q.length ≤ 9223372036854770000 →
    Sv.Like (s.sans (s.inp ++ q)).run (if s.run.stop then s.run else (s.run.sans (s.run.inp ++ q)).run)
  | 0, _, _, h, _ => by omega
  | n + 1, s, q, hn, hl => by
    cases hs : s.stop with
    | true =>
      rw [run_stop s hs, if_pos hs, run_stop (s.sans (s.inp ++ q)) hs]
      exact .inr ⟨hs, hs, rfl⟩
    | false =>
      cases hu : unpack s.inp with
      | bad e =>
        by_cases h3 : e = 3
        · subst h3
          have hr := run_bad s 3 hs hu
          rw [if_pos rfl] at hr
          rw [hr, if_neg (by rw [hs]; decide)]
          exact like_refl _
        · have hm := unpack_more s.inp q (by rw [hu]; intro h; injection h with h; exact h3 h)
          rw [hu] at hm
          have hr := run_bad s e hs hu
          have hr2 := run_bad (s.sans (s.inp ++ q)) e hs hm
          rw [if_neg h3] at hr hr2
          rw [hr, hr2, if_pos (fail_stop s e), fail_sans]
          exact like_sans (s.fail e) _ s.inp (fail_stop s e)
      | ok m c =>
        obtain ⟨_, hk24, hcl⟩ := unpack_ok s.inp (by omega) m c hu
        have hm := unpack_more s.inp q (by rw [hu]; intro h; cases h)
        rw [hu] at hm
        have hr := run_ok s m c (by omega) hs hu
        have hr2 := run_ok (s.sans (s.inp ++ q)) m c (by show (s.inp ++ q).length ≤ _; rw [List.length_append]; exact hl) hs hm
        have hd : (s.inp ++ q).drop c = s.inp.drop c ++ q := List.drop_append_of_le_length hcl
        have e1 : (s.sans (s.inp ++ q)).sans ((s.sans (s.inp ++ q)).inp.drop c) = (s.sans (s.inp.drop c)).sans (s.inp.drop c ++ q) := by
          show s.sans ((s.inp ++ q).drop c) = _
          rw [hd]; rfl
        rw [e1, take_sans (s.sans (s.inp.drop c))] at hr2
        obtain ⟨t, e, ht⟩ : ∃ t e, (s.sans (s.inp.drop c)).take m = (t, e) := ⟨_, _, rfl⟩
        have hti : t.inp = s.inp.drop c := by have := take_inp (s.sans (s.inp.drop c)) m; rw [ht] at this; exact this
        rw [ht] at hr hr2
        simp only at hr hr2
        by_cases h0 : e = 0
        · rw [if_pos h0] at hr hr2
          rw [hr, hr2]
          have ih := run_more n t q (by rw [hti, List.length_drop]; omega) (by rw [hti, List.length_drop]; omega)
          rw [hti] at ih
          exact ih
        · rw [if_neg h0] at hr hr2
          rw [hr, hr2, if_pos (fail_stop t e), fail_sans]
          exact like_sans (t.fail e) _ t.inp (fail_stop t e)
theorem like_feed {s t : Sv} (h : Sv.Like s t) (p : List UInt8) : Sv.Like (s.feed p) (t.feed p) := by
  rcases h with rfl | ⟨h1, h2, h3⟩
  · exact like_refl _
  · rw [feed_run, feed_run, if_pos h1, if_pos h2]; exact .inr ⟨h1, h2, h3⟩
theorem like_trans {s t u : Sv} (h : Sv.Like s t) (k : Sv.Like t u) : Sv.Like s u := by
  rcases h with rfl | ⟨h1, h2, h3⟩
  · exact k
  · rcases k with rfl | ⟨k1, k2, k3⟩
    · exact .inr ⟨h1, h2, h3⟩
    · exact .inr ⟨h1, k2, h3.trans k3⟩
theorem like_symm {s t : Sv} (h : Sv.Like s t) : Sv.Like t s := by
  rcases h with rfl | ⟨h1, h2, h3⟩
  · exact like_refl _
  · exact .inr ⟨h2, h1, h3.symm⟩
/-- two feeds are one -/
theorem feed_feed (s : Sv) (p q : List UInt8) (hl : s.inp.length + p.length + q.length ≤ 9223372036854770000) : Sv.Like (s.feed (p ++ q)) ((s.feed p).feed q) := by
  rw [feed_run, feed_run s p]
  cases hs : s.stop with
  | true => rw [if_pos rfl, if_pos rfl, feed_run, if_pos hs]; exact like_refl _
  | false =>
    rw [if_neg (by decide), if_neg (by decide), feed_run]
    have := run_more _ (s.sans (s.inp ++ p)) q (Nat.lt_succ_self _) (by show (s.inp ++ p).length + q.length ≤ _; rw [List.length_append]; exact hl)
    have e : (s.sans (s.inp ++ p)).sans ((s.sans (s.inp ++ p)).inp ++ q) = s.sans (s.inp ++ (p ++ q)) := by
      show s.sans ((s.inp ++ p) ++ q) = _
      rw [List.append_assoc]
    rw [e] at this
    exact this
end Go.Proofs.YtkpickojeghppaaDoor
namespace Go.Proofs.YtkpickojeghppaaDoor
/-- s is a beginning of t: what went out, and, where t has not failed, what is held -/
structure Sv.Beg (s t : Sv) : Prop where
  out : s.out <+: t.out
  held : t.why = 0 → s.held <+: t.held ∧ s.why = 0
theorem beg_refl (s : Sv) : Sv.Beg s s := ⟨List.prefix_refl _, fun h => ⟨List.prefix_refl _, h⟩⟩
theorem beg_trans {s t u : Sv} (h : Sv.Beg s t) (k : Sv.Beg t u) : Sv.Beg s u :=
  ⟨h.out.trans k.out, fun e => ⟨(h.held (k.held e).2).1.trans (k.held e).1, (h.held (k.held e).2).2⟩⟩
theorem beg_fail (s : Sv) (e : Nat) (he : e ≠ 0) : Sv.Beg s (s.fail e) := ⟨List.prefix_append _ _, fun h => absurd h he⟩
theorem beg_parts (s : Sv) : Sv.Beg s s.parts := by
  unfold Sv.parts
  split
  · exact ⟨List.prefix_append _ _, fun h => ⟨List.prefix_refl _, h⟩⟩
  · exact beg_refl s
theorem beg_take (s : Sv) (m : WMsg) : Sv.Beg s (s.take m).1 := by
  unfold Sv.take
  split
  · split
    · exact beg_refl s
    · exact ⟨List.prefix_append _ _, fun h => ⟨List.prefix_refl _, h⟩⟩
  · split
    · split
      · exact beg_refl s
      · split
        · exact beg_refl s
        · exact ⟨List.prefix_refl _, fun h => ⟨List.prefix_append _ _, h⟩⟩
    · split
      · have h := beg_parts { s with bye := m.id, ending := true }
        exact ⟨h.out, fun e => h.held e⟩
      · exact beg_refl s
theorem beg_loop : ∀ (n : Nat) (s : Sv), Sv.Beg s (Sv.loop n s)
  | 0, s => beg_refl s
  | n + 1, s => by
    rw [Sv.loop]
    split
    · exact beg_refl s
    · cases hu : unpack s.inp with
      | bad e =>
        simp only
        split
        · exact beg_refl s
        · exact beg_fail s e (by have := (unpack_err _ _ hu).1; omega)
      | ok m c =>
        simp only
        have hb : Sv.Beg s (({ s with inp := s.inp.drop c } : Sv).take m).1 := beg_trans (⟨List.prefix_refl _, fun h => ⟨List.prefix_refl _, h⟩⟩ : Sv.Beg s { s with inp := s.inp.drop c }) (beg_take _ m)
        split
        · exact beg_trans hb (beg_loop n _)
        · rename_i h; exact beg_trans hb (beg_fail _ _ h)
theorem beg_feed (s : Sv) (p : List UInt8) : Sv.Beg s (s.feed p) := by
  unfold Sv.feed
  split
  · exact beg_refl s
  · exact beg_trans (⟨List.prefix_refl _, fun h => ⟨List.prefix_refl _, h⟩⟩ : Sv.Beg s { s with inp := s.inp ++ p }) (beg_loop _ _)
/-- nothing was told -/
def Sv.Fresh (s : Sv) : Prop := ∀ x ∈ s.held, x.2.2 = false
theorem fresh_parts {s : Sv} (h : s.Fresh) : s.parts.Fresh := by
  unfold Sv.parts
  split <;> exact h
theorem fresh_take {s : Sv} (h : s.Fresh) (m : WMsg) : (s.take m).1.Fresh := by
  unfold Sv.take
  split
  · split <;> exact h
  · split
    · split
      · exact h
      · split
        · exact h
        · intro x hx
          rcases List.mem_append.1 hx with hx | hx
          · exact h x hx
          · rw [List.mem_singleton.1 hx]
    · split
      · exact fresh_parts (s := { s with bye := m.id, ending := true }) h
      · exact h
theorem fresh_fail (s : Sv) (e : Nat) : (s.fail e).Fresh := fun x hx => by cases hx
theorem fresh_loop : ∀ (n : Nat) (s : Sv), s.Fresh → (Sv.loop n s).Fresh
  | 0, _, h => h
  | n + 1, s, h => by
    rw [Sv.loop]
    split
    · exact h
    · cases hu : unpack s.inp with
      | bad e =>
        simp only
        split
        · exact h
        · exact fresh_fail s e
      | ok m c =>
        simp only
        have hb : (({ s with inp := s.inp.drop c } : Sv).take m).1.Fresh := fresh_take (s := { s with inp := s.inp.drop c }) h m
        split
        · exact fresh_loop n _ hb
        · exact fresh_fail _ _
theorem fresh_feed {s : Sv} (h : s.Fresh) (p : List UInt8) : (s.feed p).Fresh := by
  unfold Sv.feed
  split
  · exact h
  · exact fresh_loop _ _ h
/-- the pieces of a stream -/
def cuts : List Int → List UInt8 → List (List UInt8)
  | [], rest => [rest]
  | n :: r, rest => if n < 0 ∨ (rest.length : Int) < n then cuts r rest else rest.take n.toNat :: cuts r (rest.drop n.toNat)
theorem cuts_flat : ∀ (at_ : List Int) (rest : List UInt8), (cuts at_ rest).flatten = rest
  | [], rest => by simp [cuts]
  | n :: r, rest => by
    rw [cuts]
    split
    · exact cuts_flat r rest
    · rw [List.flatten_cons, cuts_flat r, List.take_append_drop]
def feeds (s : Sv) (l : List (List UInt8)) : Sv := l.foldl Sv.feed s
theorem loop_inp : ∀ (n : Nat) (s : Sv), (Sv.loop n s).inp.length ≤ s.inp.length
  | 0, _ => Nat.le_refl _
  | n + 1, s => by
    rw [Sv.loop]
    split
    · exact Nat.le_refl _
    · cases hu : unpack s.inp with
      | bad e =>
        simp only
        split
        · exact Nat.le_refl _
        · exact Nat.le_refl _
      | ok m c =>
        simp only
        have hi : (({ s with inp := s.inp.drop c } : Sv).take m).1.inp.length ≤ s.inp.length := by
          rw [take_inp]
          show (s.inp.drop c).length ≤ _
          rw [List.length_drop]; omega
        split
        · exact Nat.le_trans (loop_inp n _) hi
        · exact hi
theorem feed_inp (s : Sv) (p : List UInt8) : (s.feed p).inp.length ≤ s.inp.length + p.length := by
  unfold Sv.feed
  split
  · omega
  · have := loop_inp ((s.inp ++ p).length + 1) { s with inp := s.inp ++ p }
    have e : ({ s with inp := s.inp ++ p } : Sv).inp.length = s.inp.length + p.length := List.length_append
    omega
theorem feeds_like : ∀ (l : List (List UInt8)) (s : Sv), l ≠ [] → s.inp.length + l.flatten.length ≤ 9223372036854770000 → Sv.Like (feeds s l) (s.feed l.flatten)
  | [], _, h, _ => absurd rfl h
  | [p], s, _, _ => by
    rw [List.flatten_cons, List.flatten_nil, List.append_nil]
    exact like_refl _
  | p :: q :: r, s, _, hl => by
    rw [List.flatten_cons, List.length_append] at hl
    have h1 := feeds_like (q :: r) (s.feed p) (by simp) (by have := feed_inp s p; omega)
    have h2 := feed_feed s p (q :: r).flatten (by omega)
    rw [List.flatten_cons]
    exact like_trans h1 (like_symm h2)
theorem cuts_ne : ∀ (at_ : List Int) (rest : List UInt8), cuts at_ rest ≠ []
  | [], _ => by simp [cuts]
  | n :: r, rest => by
    rw [cuts]
    split
    · exact cuts_ne r rest
    · simp
/-- however a stream is cut, the end is alike -/
theorem cuts_like (at_ : List Int) (l : List UInt8) (hl : l.length ≤ 9223372036854770000) : Sv.Like (feeds sv0 (cuts at_ l)) (sv0.feed l) := by
  have h := feeds_like (cuts at_ l) sv0 (cuts_ne at_ l) (by rw [cuts_flat]; show ([] : List UInt8).length + _ ≤ _; simp; exact hl)
  rwa [cuts_flat] at h
theorem like_obs {s t : Sv} (h : Sv.Like s t) : s.out = t.out ∧ s.why = t.why ∧ s.held = t.held := by
  rcases h with rfl | ⟨_, _, (h : s.sans [] = t.sans [])⟩
  · exact ⟨rfl, rfl, rfl⟩
  · have h1 := congrArg Sv.out h
    have h2 := congrArg Sv.why h
    have h3 := congrArg Sv.held h
    exact ⟨h1, h2, h3⟩
/-- what is told of an ask -/
def askText (x : Nat × ByteArray × Bool) : List UInt8 := [UInt8.ofNat x.1, UInt8.ofNat (x.1 / 256)] ++ x.2.1.data.toList ++ [47]
def heldText (s : Sv) : List UInt8 := s.held.flatMap askText
/-- a beginning of a stream tells a beginning -/
theorem begins (l : List UInt8) (n : Nat) (hl : l.length ≤ 9223372036854770000) (hw : (sv0.feed l).why = 0) : heldText (sv0.feed (l.take n)) <+: heldText (sv0.feed l) ∧ (sv0.feed (l.take n)).out <+: (sv0.feed l).out := by
  have h := feed_feed sv0 (l.take n) (l.drop n) (by
    show ([] : List UInt8).length + _ + _ ≤ _
    rw [List.length_take, List.length_drop]; simp; omega)
  rw [List.take_append_drop] at h
  obtain ⟨h1, h2, h3⟩ := like_obs h
  have hb := beg_feed (sv0.feed (l.take n)) (l.drop n)
  rw [h2] at hw
  refine ⟨?_, by rw [h1]; exact hb.out⟩
  unfold heldText
  rw [h3]
  obtain ⟨r, hr⟩ := (hb.held hw).1
  exact ⟨r.flatMap askText, by rw [← List.flatMap_append, hr]⟩
/-- the first k are told -/
def mark : List (Nat × ByteArray × Bool) → Nat → List (Nat × ByteArray × Bool)
  | l, 0 => l
  | [], _ + 1 => []
  | x :: r, k + 1 => (x.1, x.2.1, true) :: mark r k
theorem mark_len : ∀ (l : List (Nat × ByteArray × Bool)) (k : Nat), (mark l k).length = l.length
  | _, 0 => by simp [mark]
  | [], _ + 1 => rfl
  | x :: r, k + 1 => by rw [mark, List.length_cons, mark_len r k, List.length_cons]
theorem mark_at : ∀ (l : List (Nat × ByteArray × Bool)) (k : Nat) (h : k < l.length), (mark l k)[k]'(by rw [mark_len]; exact h) = l[k]
  | _, 0, _ => by simp [mark]
  | [], _ + 1, h => by simp at h
  | x :: r, k + 1, h => by
    have := mark_at r k (by simpa using h)
    simpa [mark] using this
theorem mark_succ : ∀ (l : List (Nat × ByteArray × Bool)) (k : Nat), k < l.length → told (mark l k) k = mark l (k + 1)
  | [], k, h => by simp at h
  | x :: r, 0, _ => by simp [mark, told]
  | x :: r, k + 1, h => by
    have := mark_succ r k (by simpa using h)
    simp only [told, mark, List.modify_succ_cons] at this ⊢
    rw [this]
theorem mark_tell : ∀ (l : List (Nat × ByteArray × Bool)) (k : Nat), (∀ x ∈ l, x.2.2 = false) → tellAt (mark l k) = if k < l.length then some k else none
  | [], 0, _ => rfl
  | [], _ + 1, _ => rfl
  | (i, b, t) :: r, 0, h => by
    have ht : t = false := h (i, b, t) (.head _)
    subst ht
    simp [mark, tellAt]
  | (i, b, t) :: r, k + 1, h => by
    have := mark_tell r k (fun x hx => h x (.tail _ hx))
    simp only [mark, tellAt, this, List.length_cons]
    by_cases hk : k < r.length
    · rw [if_pos hk, if_pos (by omega)]; rfl
    · rw [if_neg hk, if_neg (by omega)]; rfl
/-- room: so many bytes have been fed -/
structure Sv.Room (s : Sv) (f : Nat) : Prop where
  inp : s.inp.length ≤ f
  out : 24 * s.out.length ≤ 131072 * f + 3145728
  both : s.stop = false → 24 * s.out.length + 131072 * s.inp.length ≤ 131072 * f
theorem room_loop (f : Nat) (hf : f ≤ 9223372036854770000) : ∀ (n : Nat) (s : Sv), s.Ok → s.Room f → (Sv.loop n s).Room f
  | 0, _, _, h => h
  | n + 1, s, hok, h => by
    rw [Sv.loop]
    cases hs : (s.closed || s.ending) with
    | true => rw [if_pos rfl]; exact h
    | false =>
      rw [if_neg (by decide)]
      have hb := h.both hs
      have hfail : ∀ (t : Sv) (e : Nat), t.inp.length ≤ f → 24 * t.out.length ≤ 131072 * f → (t.fail e).Room f := fun t e h1 h2 =>
        ⟨h1, by have := send_out t (msgTo 0 6 (digitsB e)); show 24 * (t.send (msgTo 0 6 (digitsB e))).out.length ≤ _; omega, fun h => by cases h⟩
      cases hu : unpack s.inp with
      | bad e =>
        simp only
        split
        · exact h
        · exact hfail s e h.inp (by omega)
      | ok m c =>
        have hi := h.inp
        obtain ⟨hm, hk24, hcl⟩ := unpack_ok s.inp (by omega) m c hu
        obtain ⟨a1, a2, a3, _⟩ := take_ok { s with inp := s.inp.drop c } m ⟨hok.bye, hok.held, hok.ids⟩ hm
        have hl : (({ s with inp := s.inp.drop c } : Sv).take m).1.inp.length = s.inp.length - c := by rw [a3]; exact List.length_drop
        have ho : (({ s with inp := s.inp.drop c } : Sv).take m).1.out.length ≤ s.out.length + 131072 := a2
        simp only
        generalize ({ s with inp := s.inp.drop c } : Sv).take m = r at *
        split
        · exact room_loop f hf n r.1 a1 ⟨by omega, by omega, fun _ => by omega⟩
        · exact hfail r.1 r.2 (by omega) (by omega)
theorem room_feed {s : Sv} {f : Nat} (hok : s.Ok) (h : s.Room f) (p : List UInt8) (hf : f + p.length ≤ 9223372036854770000) : (s.feed p).Room (f + p.length) := by
  unfold Sv.feed
  cases hs : (s.closed || s.ending) with
  | true => rw [if_pos rfl]; exact ⟨by have := h.inp; omega, by have := h.out; omega, fun e => by rw [show s.stop = true from hs] at e; cases e⟩
  | false =>
    rw [if_neg (by decide)]
    have hb := h.both hs
    have e : ({ s with inp := s.inp ++ p } : Sv).inp.length = s.inp.length + p.length := List.length_append
    have e2 : ({ s with inp := s.inp ++ p } : Sv).out = s.out := rfl
    have hi := h.inp
    exact room_loop _ hf _ { s with inp := s.inp ++ p } ⟨hok.bye, hok.held, hok.ids⟩ ⟨by omega, by rw [e2]; omega, fun _ => by rw [e2]; omega⟩
theorem loop_ok : ∀ (n : Nat) (s : Sv), s.Ok → s.inp.length ≤ 9223372036854770000 → (Sv.loop n s).Ok
  | 0, _, h, _ => h
  | n + 1, s, hok, hl => by
    rw [Sv.loop]
    split
    · exact hok
    · cases hu : unpack s.inp with
      | bad e =>
        simp only
        split
        · exact hok
        · exact ⟨hok.bye, Nat.zero_le _, fun x hx => by cases hx⟩
      | ok m c =>
        obtain ⟨hm, hk24, hcl⟩ := unpack_ok s.inp hl m c hu
        obtain ⟨a1, a2, a3, _⟩ := take_ok { s with inp := s.inp.drop c } m ⟨hok.bye, hok.held, hok.ids⟩ hm
        have hl2 : (({ s with inp := s.inp.drop c } : Sv).take m).1.inp.length = s.inp.length - c := by rw [a3]; exact List.length_drop
        simp only
        split
        · exact loop_ok n _ a1 (by omega)
        · exact ⟨a1.bye, Nat.zero_le _, fun x hx => by cases hx⟩
theorem feed_ok {s : Sv} (h : s.Ok) (p : List UInt8) (hl : s.inp.length + p.length ≤ 9223372036854770000) : (s.feed p).Ok := by
  unfold Sv.feed
  split
  · exact h
  · exact loop_ok _ _ ⟨h.bye, h.held, h.ids⟩ (by show (s.inp ++ p).length ≤ _; rw [List.length_append]; exact hl)
/-- no text is longer -/
def Sv.Bod (s : Sv) (B : Nat) : Prop := ∀ x ∈ s.held, x.2.1.size ≤ B
theorem unpack_bod (l : List UInt8) (m : WMsg) (k : Nat) (h : unpack l = .ok m k) : m.body.size ≤ l.length := by
  have hb : ∀ a b, (bodyOf l a b).size ≤ l.length := fun a b => by
    show (((l.take b).drop a).toArray).size ≤ _
    simp; omega
  unfold unpack at h
  repeat' (split at h)
  all_goals (first | cases h | skip)
  unfold whole at h
  repeat' (split at h)
  all_goals (first | cases h | skip)
  all_goals exact hb _ _
theorem bod_take {s : Sv} {B : Nat} (h : s.Bod B) (m : WMsg) (hm : m.body.size ≤ B) : (s.take m).1.Bod B := by
  unfold Sv.take
  split
  · split <;> exact h
  · split
    · split
      · exact h
      · split
        · exact h
        · intro x hx
          rcases List.mem_append.1 hx with hx | hx
          · exact h x hx
          · rw [List.mem_singleton.1 hx]; exact hm
    · split
      · unfold Sv.parts
        split <;> exact h
      · exact h
theorem bod_loop (B : Nat) : ∀ (n : Nat) (s : Sv), s.Bod B → s.inp.length ≤ B → (Sv.loop n s).Bod B
  | 0, _, h, _ => h
  | n + 1, s, h, hl => by
    rw [Sv.loop]
    split
    · exact h
    · cases hu : unpack s.inp with
      | bad e =>
        simp only
        split
        · exact h
        · exact fun x hx => by cases hx
      | ok m c =>
        have hmb := unpack_bod _ _ _ hu
        have hb : (({ s with inp := s.inp.drop c } : Sv).take m).1.Bod B := bod_take (s := { s with inp := s.inp.drop c }) h m (by omega)
        have hi : (({ s with inp := s.inp.drop c } : Sv).take m).1.inp.length ≤ B := by
          rw [take_inp]
          show (s.inp.drop c).length ≤ _
          rw [List.length_drop]; omega
        simp only
        split
        · exact bod_loop B n _ hb hi
        · exact fun x hx => by cases hx
theorem bod_feed {s : Sv} {B : Nat} (h : s.Bod B) (p : List UInt8) (hl : s.inp.length + p.length ≤ B) : (s.feed p).Bod B := by
  unfold Sv.feed
  split
  · exact h
  · exact bod_loop B _ _ h (by show (s.inp ++ p).length ≤ _; rw [List.length_append]; exact hl)
theorem text_size (B : Nat) : ∀ (l : List (Nat × ByteArray × Bool)), (∀ x ∈ l, x.2.1.size ≤ B) → (l.flatMap askText).length ≤ l.length * (B + 3)
  | [], _ => by simp
  | x :: r, h => by
    have h1 := h x (.head _)
    have h2 := text_size B r (fun y hy => h y (.tail _ hy))
    rw [List.flatMap_cons, List.length_append, List.length_cons, Nat.add_mul]
    have : (askText x).length = x.2.1.size + 3 := by
      unfold askText
      simp only [List.length_append, List.length_cons, List.length_nil, Array.length_toList]
      show 0 + 1 + 1 + x.2.1.size + (0 + 1) = _
      omega
    omega
theorem sv0_ok : sv0.Ok := ⟨by decide, by decide, fun x hx => by cases hx⟩
theorem sv0_room : sv0.Room 0 := ⟨by decide, by decide, fun _ => by decide⟩
end Go.Proofs.YtkpickojeghppaaDoor
