/- Writes into some blocks alone: what stays. Conditions: none. -/
import Derived.Test.YtkpickojeghppaaDoorSlab
namespace Go.Proofs.YtkpickojeghppaaDoor
open Go.RowKit
/-- From w to w' only blocks in S have turned, and what is new. -/
structure Turn (S : Nat → Prop) (w w' : World) : Prop where
  os : w'.os = w.os
  tape : w'.tape = w.tape
  output : w'.output = w.output
  size : w.heap.size ≤ w'.heap.size
  block : ∀ k, k < w.heap.size → ¬ S k → w'.heap[k]? = w.heap[k]?
theorem Turn.refl (S : Nat → Prop) (w : World) : Turn S w w := ⟨rfl, rfl, rfl, Nat.le_refl _, fun _ _ _ => rfl⟩
theorem Turn.trans {S : Nat → Prop} {a b c : World} (h : Turn S a b) (k : Turn (fun g => S g ∨ a.heap.size ≤ g) b c) : Turn S a c :=
  ⟨k.os.trans h.os, k.tape.trans h.tape, k.output.trans h.output, Nat.le_trans h.size k.size, fun i hi hn => (k.block i (Nat.lt_of_lt_of_le hi h.size) (fun e => e.elim hn (fun e => by omega))).trans (h.block i hi hn)⟩
theorem Turn.weak {S T : Nat → Prop} {a b : World} (h : Turn S a b) (hs : ∀ g, S g → T g) : Turn T a b :=
  ⟨h.os, h.tape, h.output, h.size, fun i hi hn => h.block i hi (fun e => hn (hs i e))⟩
theorem Turn.of_below {S : Nat → Prop} {a b : World} (h : Below a.heap.size a b) : Turn S a b :=
  ⟨h.os, h.tape, h.output, h.size, fun i hi _ => h.block i hi⟩
theorem Turn.set {S : Nat → Prop} {a b : World} (h : Turn S a b) {g : Nat} (hg : S g ∨ a.heap.size ≤ g) (p : Nat) (u : Value) : Turn S a (b.setCell ⟨g, p, none⟩ u) :=
  ⟨h.os, h.tape, h.output, by simpa using h.size, fun i hi hn => by
    rw [heap_setCell_other b ⟨g, p, none⟩ i u (fun e => by simp only at e; subst e; rcases hg with hg | hg; exact hn hg; omega)]
    exact h.block i hi hn⟩
theorem Turn.upd {S : Nat → Prop} {a b c : World} {r r' : Option Nat} (h : Turn S a b) (k : Upd b c r r') (hr : ∀ g, r = some g → S g ∨ a.heap.size ≤ g) : Turn S a c :=
  h.trans ⟨k.grown.os, k.grown.tape, k.grown.output, k.grown.size, fun i hi hn => k.block hi (fun e => hn (hr i e))⟩
/-- what holds below B still does, where S and what is new lie above -/
theorem Turn.below {S : Nat → Prop} {a b : World} {B : Nat} (h : Turn S a b) (hs : ∀ g, S g → B ≤ g) (hB : B ≤ a.heap.size) : Below B a b :=
  ⟨h.os, h.tape, h.output, h.size, fun i hi => h.block i (Nat.lt_of_lt_of_le hi hB) (fun e => by have := hs i e; omega)⟩
theorem Turn.cell {S : Nat → Prop} {w w' : World} (ht : Turn S w w') {p : Addr} {v : Value} (h : w.cell? p = some v) (hn : ¬ S p.block) : w'.cell? p = some v := by
  rw [World.cell?_of_block (w := w) (ht.block p.block (cell_lt h) hn)]; exact h
theorem Turn.obj {S : Nat → Prop} {w w' : World} (ht : Turn S w w') {k : Nat} {o : Obj} (h : w.heap[k]? = some o) (hn : ¬ S k) : w'.heap[k]? = some o :=
  (ht.block k (Array.getElem?_eq_some_iff.1 h).1 hn).trans h
theorem Slab.turn {S : Nat → Prop} {w w' : World} {size n : Nat} {v : Value} {xs : List Value} (h : Slab w size v n xs) (ht : Turn S w w') (hn : ∀ g, v.ownBlock = some g → ¬ S g) : Slab w' size v n xs :=
  h.same fun g hg => ht.block g (h.lt hg) (hn g hg)
theorem set_same {cs : Array Value} {i : Nat} {v : Value} (h : cs[i]? = some v) : cs.setIfInBounds i v = cs := by
  apply Array.ext_getElem?
  intro j
  rw [Array.getElem?_setIfInBounds]
  split
  · rename_i e
    subst e
    split
    · exact h.symm
    · rename_i hlt
      rw [Array.getElem?_eq_none (by omega)]
  · rfl
end Go.Proofs.YtkpickojeghppaaDoor
