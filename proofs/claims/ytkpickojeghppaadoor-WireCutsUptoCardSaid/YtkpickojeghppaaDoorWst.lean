/- Structs in memory that own slices: what stays, what a step leaves. Over any program. Conditions: none. -/
import Derived.Test.YtkpickojeghppaaDoorWturn
namespace Go.Proofs.YtkpickojeghppaaDoor
open Go.RowKit
/-- a slice that a struct owns: its element's size, the slice, how many, what it holds (where it is so) -/
structure Part where
  size : Nat
  v : Value
  n : Nat
  xs : List Value
  on : Prop
def apart (a b : Value) : Prop := ∀ g, a.ownBlock = some g → b.ownBlock ≠ some g
theorem apart.symm {a b : Value} (h : apart a b) : apart b a := fun g hb ha => h g ha hb
/-- the struct in block R, with what its slices hold -/
structure StAt (w : World) (R : Nat) (T : TypeId) (cs : Array Value) (ps : List Part) : Prop where
  blk : w.heap[R]? = some (.cells cs T (0, 0))
  slab : ∀ p ∈ ps, p.on → Slab w p.size p.v p.n p.xs
  nR : ∀ p ∈ ps, p.v.ownBlock ≠ some R
  ap : ps.Pairwise (fun p q => apart p.v q.v)
  lt : ∀ p ∈ ps, ∀ g, p.v.ownBlock = some g → g < w.heap.size
/-- its blocks -/
def StF (R : Nat) (ps : List Part) (g : Nat) : Prop := g = R ∨ ∃ p ∈ ps, p.v.ownBlock = some g
section
variable {w : World} {R : Nat} {T : TypeId} {cs : Array Value} {ps : List Part}
theorem StAt.ltR (h : StAt w R T cs ps) : R < w.heap.size := (Array.getElem?_eq_some_iff.1 h.blk).1
theorem StAt.turn (h : StAt w R T cs ps) {S : Nat → Prop} {w' : World} (ht : Turn S w w') (hn : ∀ g, StF R ps g → ¬ S g) : StAt w' R T cs ps :=
  ⟨ht.obj h.blk (hn R (.inl rfl)), fun p hp ho => Slab.turn (h.slab p hp ho) ht (fun g hg => hn g (.inr ⟨p, hp, hg⟩)), h.nR, h.ap, fun p hp g hg => Nat.lt_of_lt_of_le (h.lt p hp g hg) ht.size⟩
theorem StAt.below (h : StAt w R T cs ps) {w' : World} (hb : Below w.heap.size w w') : StAt w' R T cs ps :=
  h.turn (Turn.of_below (S := fun _ => False) hb) (fun _ _ e => e)
/-- only the struct's own block has turned -/
theorem StAt.put (h : StAt w R T cs ps) {w' : World} (ht : Turn (fun g => g = R) w w') {cs' : Array Value} (hb : w'.heap[R]? = some (.cells cs' T (0, 0))) : StAt w' R T cs' ps :=
  ⟨hb, fun p hp ho => Slab.turn (h.slab p hp ho) ht (fun g hg e => h.nR p hp (by rw [← e]; exact hg)), h.nR, h.ap, fun p hp g hg => Nat.lt_of_lt_of_le (h.lt p hp g hg) ht.size⟩
/-- the parts say less, or other than before of what is off -/
theorem StAt.weak (h : StAt w R T cs ps) (ps' : List Part) (hv : ps'.map (·.v) = ps.map (·.v)) (hs : ∀ p ∈ ps', p.on → Slab w p.size p.v p.n p.xs) : StAt w R T cs ps' := by
  have e : ∀ p ∈ ps', ∃ q ∈ ps, q.v = p.v := fun p hp => by
    have : p.v ∈ ps.map (·.v) := by rw [← hv]; exact List.mem_map_of_mem hp
    obtain ⟨q, hq, h⟩ := List.mem_map.1 this
    exact ⟨q, hq, h⟩
  refine ⟨h.blk, hs, fun p hp => ?_, ?_, fun p hp g hg => ?_⟩
  · obtain ⟨q, hq, h1⟩ := e p hp
    rw [← h1]; exact h.nR q hq
  · have h1 : (ps.map (·.v)).Pairwise apart := List.pairwise_map.2 h.ap
    rw [← hv] at h1
    exact List.pairwise_map.1 h1
  · obtain ⟨q, hq, h1⟩ := e p hp
    exact h.lt q hq g (by rw [h1]; exact hg)
theorem stF_map (R : Nat) {ps qs : List Part} (h : qs.map (·.v) = ps.map (·.v)) (g : Nat) : StF R qs g → StF R ps g := fun hg => by
  rcases hg with hg | ⟨p, hp, hg⟩
  · exact .inl hg
  · have : p.v ∈ ps.map (·.v) := by rw [← h]; exact List.mem_map_of_mem hp
    obtain ⟨q, hq, e⟩ := List.mem_map.1 this
    exact .inr ⟨q, hq, by rw [e]; exact hg⟩
/-- one slice is another one, and its block may have turned -/
theorem StAt.repl {as bs : List Part} {p p' : Part} (h : StAt w R T cs (as ++ p :: bs)) {w' : World} (ht : Turn (fun g => g = R ∨ p.v.ownBlock = some g) w w') {cs' : Array Value} (hb : w'.heap[R]? = some (.cells cs' T (0, 0)))
    (hs : p'.on → Slab w' p'.size p'.v p'.n p'.xs) (hl : ∀ g, p'.v.ownBlock = some g → g < w'.heap.size) (hn : ∀ g, p'.v.ownBlock = some g → p.v.ownBlock = some g ∨ w.heap.size ≤ g) :
    StAt w' R T cs' (as ++ p' :: bs) ∧ Turn (StF R (as ++ p :: bs)) w w' ∧ ∀ g, StF R (as ++ p' :: bs) g → StF R (as ++ p :: bs) g ∨ w.heap.size ≤ g := by
  have hR := h.ltR
  have hp : p ∈ as ++ p :: bs := by simp
  have old : ∀ q, q ∈ as ∨ q ∈ bs → q ∈ as ++ p :: bs ∧ apart p.v q.v := fun q hq => by
    have hw := List.pairwise_append.1 h.ap
    rcases hq with hq | hq
    · exact ⟨by simp [hq], (hw.2.2 q hq p (.head _)).symm⟩
    · exact ⟨by simp [hq], (List.pairwise_cons.1 hw.2.1).1 q hq⟩
  have new : ∀ q, q ∈ as ∨ q ∈ bs → apart p'.v q.v := fun q hq g hg => by
    obtain ⟨hm, ha⟩ := old q hq
    rcases hn g hg with e | e
    · exact ha g e
    · intro e2
      have := h.lt q hm g e2
      omega
  refine ⟨⟨hb, fun q hq ho => ?_, fun q hq => ?_, ?_, fun q hq g hg => ?_⟩, ht.weak (fun g hg => hg.elim .inl (fun e => .inr ⟨p, hp, e⟩)), fun g hg => ?_⟩
  · rw [List.mem_append, List.mem_cons] at hq
    have key : q ∈ as ∨ q ∈ bs → Slab w' q.size q.v q.n q.xs := fun hq => by
      obtain ⟨hm, ha⟩ := old q hq
      exact Slab.turn (h.slab q hm ho) ht (fun g hg e => e.elim (fun e => h.nR q hm (by rw [← e]; exact hg)) (fun e => ha g e hg))
    rcases hq with hq | rfl | hq
    · exact key (.inl hq)
    · exact hs ho
    · exact key (.inr hq)
  · rw [List.mem_append, List.mem_cons] at hq
    rcases hq with hq | rfl | hq
    · exact h.nR q (old q (.inl hq)).1
    · intro e
      rcases hn R e with e | e
      · exact h.nR p hp e
      · omega
    · exact h.nR q (old q (.inr hq)).1
  · have hw := List.pairwise_append.1 h.ap
    have hc := List.pairwise_cons.1 hw.2.1
    refine List.pairwise_append.2 ⟨hw.1, List.pairwise_cons.2 ⟨fun q hq => new q (.inr hq), hc.2⟩, fun a ha b hb => ?_⟩
    rcases List.mem_cons.1 hb with rfl | hb
    · exact (new a (.inl ha)).symm
    · exact hw.2.2 a ha b (.tail _ hb)
  · rw [List.mem_append, List.mem_cons] at hq
    rcases hq with hq | rfl | hq
    · exact Nat.lt_of_lt_of_le (h.lt q (old q (.inl hq)).1 g hg) ht.size
    · exact hl g hg
    · exact Nat.lt_of_lt_of_le (h.lt q (old q (.inr hq)).1 g hg) ht.size
  · rcases hg with hg | ⟨q, hq, hg⟩
    · exact .inl (.inl hg)
    · rw [List.mem_append, List.mem_cons] at hq
      rcases hq with hq | rfl | hq
      · exact .inl (.inr ⟨q, (old q (.inl hq)).1, hg⟩)
      · exact (hn g hg).imp (fun e => .inr ⟨p, hp, e⟩) (fun e => e)
      · exact .inl (.inr ⟨q, (old q (.inr hq)).1, hg⟩)
end
/-- a kind of struct: its type, its cells, its slices -/
structure EK (V S : Type) where
  T : TypeId
  cells : Nat → V → S → Array Value
  parts : V → S → List Part
section
variable {V S : Type} (K : EK V S)
def EK.At (w : World) (R : Nat) (v : V) (s : S) : Prop := StAt w R K.T (K.cells R v s) (K.parts v s)
def EK.F (R : Nat) (v : V) (s : S) (g : Nat) : Prop := StF R (K.parts v s) g
/-- a step has ended: what it answers, how the struct stands, what has turned -/
def EK.Post (R : Nat) (v : V) (s : S) (w : World) (s2 : S) (r : Value) (e : Ending) (w' : World) : Prop :=
  ∃ v2, e = .returned r ∧ K.At w' R v2 s2 ∧ Turn (K.F R v s) w w' ∧ ∀ g, K.F R v2 s2 g → K.F R v s g ∨ w.heap.size ≤ g
variable {K}
theorem EK.post_same {w : World} {R : Nat} {v : V} {s : S} (h : K.At w R v s) (r : Value) : K.Post R v s w s r (.returned r) w := ⟨v, rfl, h, Turn.refl _ _, fun _ hg => .inl hg⟩
theorem EK.post_below {w w' : World} {R : Nat} {v : V} {s : S} (h : K.At w R v s) (hb : Below w.heap.size w w') (r : Value) : K.Post R v s w s r (.returned r) w' := ⟨v, rfl, StAt.below h hb, Turn.of_below hb, fun _ hg => .inl hg⟩
theorem EK.seq {R : Nat} {v v1 : V} {s s1 s2 : S} {w w1 w2 : World} {r : Value} {e : Ending} (ht : Turn (K.F R v s) w w1) (hn : ∀ g, K.F R v1 s1 g → K.F R v s g ∨ w.heap.size ≤ g) (hp : K.Post R v1 s1 w1 s2 r e w2) : K.Post R v s w s2 r e w2 := by
  obtain ⟨a, he, h, ht2, hn2⟩ := hp
  exact ⟨a, he, h, ht.trans (ht2.weak hn), fun g hg => (hn2 g hg).elim (hn g) (fun e => .inr (Nat.le_trans ht.size e))⟩
theorem EK.repl {R : Nat} {v v2 : V} {s s2 : S} {w w' : World} (as bs : List Part) (p p' : Part) (e1 : K.parts v s = as ++ p :: bs) (e2 : K.parts v2 s2 = as ++ p' :: bs) (h : K.At w R v s) (ht : Turn (fun g => g = R ∨ p.v.ownBlock = some g) w w') (hb : w'.heap[R]? = some (.cells (K.cells R v2 s2) K.T (0, 0)))
    (hs : p'.on → Slab w' p'.size p'.v p'.n p'.xs) (hl : ∀ g, p'.v.ownBlock = some g → g < w'.heap.size) (hn : ∀ g, p'.v.ownBlock = some g → p.v.ownBlock = some g ∨ w.heap.size ≤ g) :
    K.At w' R v2 s2 ∧ Turn (K.F R v s) w w' ∧ ∀ g, K.F R v2 s2 g → K.F R v s g ∨ w.heap.size ≤ g := by
  unfold EK.At EK.F at *
  rw [e1] at h ⊢
  rw [e2]
  exact StAt.repl h ht hb hs hl hn
theorem EK.put {R : Nat} {v : V} {s s2 : S} {w w' : World} (h : K.At w R v s) (ht : Turn (fun g => g = R) w w') (hb : w'.heap[R]? = some (.cells (K.cells R v s2) K.T (0, 0))) (hv : (K.parts v s2).map (·.v) = (K.parts v s).map (·.v))
    (hs : ∀ p ∈ K.parts v s2, p.on → ∃ q ∈ K.parts v s, q.on ∧ q.size = p.size ∧ q.v = p.v ∧ q.n = p.n ∧ q.xs = p.xs) :
    K.At w' R v s2 ∧ Turn (K.F R v s) w w' ∧ ∀ g, K.F R v s2 g → K.F R v s g ∨ w.heap.size ≤ g := by
  refine ⟨?_, ht.weak (fun g hg => .inl hg), fun g hg => .inl (stF_map R hv g hg)⟩
  have h1 : StAt w' R K.T (K.cells R v s2) (K.parts v s) := StAt.put h ht hb
  refine StAt.weak h1 _ hv (fun p hp ho => ?_)
  obtain ⟨q, hq, hon, a, b, c, d⟩ := hs p hp ho
  rw [← a, ← b, ← c, ← d]
  exact h1.slab q hq hon
end
end Go.Proofs.YtkpickojeghppaaDoor
