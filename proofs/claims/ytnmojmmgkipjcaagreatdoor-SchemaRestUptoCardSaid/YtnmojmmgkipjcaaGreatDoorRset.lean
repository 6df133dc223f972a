/- Several rows under way beside each other, each in a block of its own. Conditions: none. -/
import Derived.Test.YtnmojmmgkipjcaaGreatDoorBasea
import Derived.Test.YtnmojmmgkipjcaaGreatDoorRinv
namespace Go.Proofs.YtnmojmmgkipjcaaGreatDoor
open Go.RowKit
structure RowD where
  E : TypeId
  sz : Nat
  v : Value
  n : Nat
  xs : List Value
structure RSet (w0 : World) (live : Nat → Prop) (d : Nat → RowD) (w : World) : Prop where
  below : Below w0.heap.size w0 w
  row : ∀ k, live k → Row w (d k).E (d k).sz (d k).v (d k).n (d k).xs
  own : ∀ k, live k → ∀ g, (d k).v.ownBlock = some g → w0.heap.size ≤ g
  apart : ∀ j k, live j → live k → j ≠ k → (d j).v.ownBlock = none ∨ (d j).v.ownBlock ≠ (d k).v.ownBlock
theorem RSet.none (w0 : World) (d : Nat → RowD) (w : World) (h : Below w0.heap.size w0 w) : RSet w0 (fun _ => False) d w :=
  ⟨h, fun _ h => h.elim, fun _ h => h.elim, fun _ _ h => h.elim⟩
theorem RSet.weak {w0 w : World} {live live' : Nat → Prop} {d d' : Nat → RowD} (h : RSet w0 live d w) (hl : ∀ k, live' k → live k ∧ d' k = d k) : RSet w0 live' d' w := by
  refine ⟨h.below, fun k hk => ?_, fun k hk => ?_, fun j k hj hk hne => ?_⟩
  · obtain ⟨h1, h2⟩ := hl k hk; rw [h2]; exact h.row k h1
  · obtain ⟨h1, h2⟩ := hl k hk; rw [h2]; exact h.own k h1
  · obtain ⟨h1, h2⟩ := hl k hk; obtain ⟨h3, h4⟩ := hl j hj; rw [h2, h4]; exact h.apart j k h3 h1 hne
/-- one row more, that is new -/
theorem RSet.made {w0 w w' : World} {live live' : Nat → Prop} {d d' : Nat → RowD} (h : RSet w0 live d w) (hb : Below w.heap.size w w') (k0 : Nat) (D : RowD) (hD : Row w' D.E D.sz D.v D.n D.xs) (ho : ∀ g, D.v.ownBlock = some g → w.heap.size ≤ g)
    (hl : ∀ k, live' k → (k ≠ k0 ∧ live k ∧ d' k = d k) ∨ (k = k0 ∧ d' k = D)) : RSet w0 live' d' w' := by
  have h0 := h.below.size
  refine ⟨h.below.trans (hb.mono h0), fun k hk => ?_, fun k hk g hg => ?_, fun j k hj hk hne => ?_⟩
  · rcases hl k hk with ⟨_, h1, h2⟩ | ⟨_, h2⟩ <;> rw [h2]
    · exact (h.row k h1).below hb
    · exact hD
  · rcases hl k hk with ⟨_, h1, h2⟩ | ⟨_, h2⟩ <;> rw [h2] at hg
    · exact h.own k h1 g hg
    · have := ho g hg; omega
  · rcases hl j hj with ⟨_, h1, h2⟩ | ⟨e1, h2⟩ <;> rcases hl k hk with ⟨_, h3, h4⟩ | ⟨e2, h4⟩ <;> rw [h2, h4]
    · exact h.apart j k h1 h3 hne
    · cases e : (d j).v.ownBlock with
      | none => exact .inl rfl
      | some g =>
        refine .inr fun e2 => ?_
        have := (h.row j h1).lt e
        have := ho g e2.symm
        omega
    · cases e : D.v.ownBlock with
      | none => exact .inl rfl
      | some g =>
        refine .inr fun e2 => ?_
        have := (h.row k h3).lt e2.symm
        have := ho g e
        omega
    · omega
/-- a row grows -/
theorem RSet.app {w0 w w' : World} {live live' : Nat → Prop} {d d' : Nat → RowD} (h : RSet w0 live d w) (i : Nat) (hi : live i) (k0 : Nat) (D : RowD) (hu : Upd w w' (d i).v.ownBlock D.v.ownBlock) (hD : Row w' D.E D.sz D.v D.n D.xs)
    (hl : ∀ k, live' k → (k ≠ k0 ∧ k ≠ i ∧ live k ∧ d' k = d k) ∨ (k = k0 ∧ d' k = D)) : RSet w0 live' d' w' := by
  have h0 := h.below.size
  have hor : ∀ g, D.v.ownBlock = some g → (d i).v.ownBlock = some g ∨ w.heap.size ≤ g := fun g hg => by
    rcases hu.own with e | ⟨g', e, hg'⟩
    · exact .inl (e.symm.trans hg)
    · rw [e] at hg; cases hg; exact .inr hg'
  refine ⟨h.below.trans (hu.below h0 (fun g hg => h.own i hi g hg)), fun k hk => ?_, fun k hk g hg => ?_, fun j k hj hk hne => ?_⟩
  · rcases hl k hk with ⟨_, hki, h1, h2⟩ | ⟨_, h2⟩ <;> rw [h2]
    · exact (h.row k h1).kept hu (h.apart k i h1 hi hki)
    · exact hD
  · rcases hl k hk with ⟨_, _, h1, h2⟩ | ⟨_, h2⟩ <;> rw [h2] at hg
    · exact h.own k h1 g hg
    · rcases hor g hg with e | e
      · exact h.own i hi g e
      · omega
  · rcases hl j hj with ⟨_, hji, h1, h2⟩ | ⟨e1, h2⟩ <;> rcases hl k hk with ⟨_, hki, h3, h4⟩ | ⟨e2, h4⟩ <;> rw [h2, h4]
    · exact h.apart j k h1 h3 hne
    · cases e : (d j).v.ownBlock with
      | none => exact .inl rfl
      | some g =>
        refine .inr fun e2 => ?_
        have h5 := (h.row j h1).lt e
        rcases hor g e2.symm with e3 | e3
        · rcases h.apart j i h1 hi hji with e4 | e4
          · rw [e4] at e; cases e
          · exact e4 (e.trans e3.symm)
        · omega
    · cases e : D.v.ownBlock with
      | none => exact .inl rfl
      | some g =>
        refine .inr fun e2 => ?_
        have h5 := (h.row k h3).lt e2.symm
        rcases hor g e with e3 | e3
        · rcases h.apart k i h3 hi hki with e4 | e4
          · rw [e4] at e2; cases e2
          · exact e4 (e2.symm.trans e3.symm)
        · omega
    · omega
/-- a new block as a row -/
theorem row_new (w : World) (E size n : Nat) (xs : List Value) (hl : xs.length = n * size) (hm : n ≤ maxLen) : Row (w.alloc (.cells xs.toArray E)) E size (.slice (some ⟨w.heap.size, 0, none⟩) n n) n xs :=
  ⟨hl, .inr ⟨w.heap.size, n, xs.toArray, rfl, Nat.zero_le _, heap_alloc_new w _, Nat.le_refl _, hm, by simp [hl], by simp [← hl]⟩⟩
theorem Lie.app {w : World} {b : Nat} : ∀ {cs ys : List Value} {off : Nat}, Lie w b off cs → Lie w b (off + cs.length) ys → Lie w b off (cs ++ ys) := by
  intro cs ys off h1 h2 j v hj
  rcases Nat.lt_or_ge j cs.length with h | h
  · rw [List.getElem?_append_left h] at hj
    exact h1 j v hj
  · rw [List.getElem?_append_right h] at hj
    have := h2 (j - cs.length) v hj
    rwa [show off + cs.length + (j - cs.length) = off + j by omega] at this
theorem Rep.one {w : World} {ok : Nat → Prop} {t : JV} {cs : List Value} (h : Rep w ok t cs) : ∀ u ∈ cs, u.oneCell' = true := by
  obtain ⟨an, cn, ai, ci, rfl⟩ := h.form
  intro u hu
  simp only [List.mem_cons, List.not_mem_nil, or_false] at hu
  rcases hu with rfl | rfl | rfl | rfl | rfl <;> rfl
/-- trees behind one another, as cells -/
theorem RepAll.flat {w : World} {ok : Nat → Prop} {b : Nat} : ∀ (l : List JV) (off : Nat), RepAll w ok l b off → ∃ xs : List Value, xs.length = l.length * 5 ∧ Lie w b off xs ∧ Reps w ok l xs ∧ ∀ u ∈ xs, u.oneCell' = true
  | [], off, _ => ⟨[], rfl, fun j v h => (by simp at h), rfl, fun u h => (by cases h)⟩
  | t :: r, off, h => by
    rw [RepAll] at h
    obtain ⟨⟨cs, h1, h2⟩, h3⟩ := h
    obtain ⟨xs, e1, e2, e3, e4⟩ := RepAll.flat r (off + 5) h3
    have h5 := h1.len
    refine ⟨cs ++ xs, by rw [List.length_append, h5, e1, List.length_cons]; omega, h2.app (by rw [h5]; exact e2), ⟨cs, xs, rfl, h1, e3⟩, fun u hu => ?_⟩
    rcases List.mem_append.1 hu with hu | hu
    · exact h1.one u hu
    · exact e4 u hu
theorem ItemsAt.flat {w : World} {ok : Nat → Prop} {a : Option Addr} {l : List JV} (h : ItemsAt w ok a l) : ∃ xs : List Value, xs.length = l.length * 5 ∧ (∀ p, a = some p → ∀ j u, xs[j]? = some u → w.cell? (p.add j) = some u) ∧ Reps w ok l xs ∧ (∀ u ∈ xs, u.oneCell' = true) ∧ (a = none → l.length = 0) := by
  rcases h with rfl | ⟨b, off, rfl, _, h⟩
  · exact ⟨[], rfl, fun p _ j u h => (by simp at h), rfl, fun u h => (by cases h), fun _ => rfl⟩
  · obtain ⟨xs, e1, e2, e3, e4⟩ := RepAll.flat l off h
    refine ⟨xs, e1, fun p hp j u hj => ?_, e3, e4, fun h => by cases h⟩
    cases hp
    rw [add_none]
    exact e2 j u hj
end Go.Proofs.YtnmojmmgkipjcaaGreatDoor
