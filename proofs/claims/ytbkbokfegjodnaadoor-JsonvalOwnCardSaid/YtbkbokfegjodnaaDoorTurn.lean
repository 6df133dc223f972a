/- Writes into some blocks alone: what stays; and the five cells of a value whose own two lists are written and grown. Conditions: none. -/
import Derived.Test.YtbkbokfegjodnaaDoorFoot
import Derived.Test.YtbkbokfegjodnaaDoorMemory
namespace Go.Proofs.YtbkbokfegjodnaaDoor
open Go.RowKit
/-- From w to w' only blocks in S have turned, and what is new. -/
structure Turn (S : Nat → Prop) (w w' : World) : Prop where
  os : w'.os = w.os
  tape : w'.tape = w.tape
  output : w'.output = w.output
  size : w.heap.size ≤ w'.heap.size
  block : ∀ k, k < w.heap.size → ¬ S k → w'.heap[k]? = w.heap[k]?
theorem Turn.refl (S : Nat → Prop) (w : World) : Turn S w w := ⟨rfl, rfl, rfl, Nat.le_refl _, fun _ _ _ => rfl⟩
theorem Turn.trans {S : Nat → Prop} {a b c : World} (h : Turn S a b) (k : Turn (fun g => S g ∨ a.heap.size ≤ g) b c) : Turn S a c :=
  ⟨k.os.trans h.os, k.tape.trans h.tape, k.output.trans h.output, Nat.le_trans h.size k.size, fun i hi hn => (k.block i (Nat.lt_of_lt_of_le hi h.size) (fun e => e.elim hn (fun e => by omega))).trans (h.block i hi hn)⟩
theorem Turn.weak {S T : Nat → Prop} {a b : World} (h : Turn S a b) (hs : ∀ g, S g → T g) : Turn T a b :=
  ⟨h.os, h.tape, h.output, h.size, fun i hi hn => h.block i hi (fun e => hn (hs i e))⟩
theorem Turn.of_below {S : Nat → Prop} {a b : World} (h : Below a.heap.size a b) : Turn S a b :=
  ⟨h.os, h.tape, h.output, h.size, fun i hi _ => h.block i hi⟩
theorem Turn.set {S : Nat → Prop} {a b : World} (h : Turn S a b) {g : Nat} (hg : S g ∨ a.heap.size ≤ g) (p : Nat) (u : Value) : Turn S a (b.setCell ⟨g, p, none⟩ u) :=
  ⟨h.os, h.tape, h.output, by simpa using h.size, fun i hi hn => by
    rw [heap_setCell_other b ⟨g, p, none⟩ i u (fun e => by simp only at e; subst e; rcases hg with hg | hg; exact hn hg; omega)]
    exact h.block i hi hn⟩
theorem Turn.upd {S : Nat → Prop} {a b c : World} {r r' : Option Nat} (h : Turn S a b) (k : Upd b c r r') (hr : ∀ g, r = some g → S g ∨ a.heap.size ≤ g) : Turn S a c :=
  h.trans ⟨k.grown.os, k.grown.tape, k.grown.output, k.grown.size, fun i hi hn => k.block hi (fun e => hn (hr i e))⟩
/-- what holds below B still does, where S and what is new lie above -/
theorem Turn.below {S : Nat → Prop} {a b : World} {B : Nat} (h : Turn S a b) (hs : ∀ g, S g → B ≤ g) (hB : B ≤ a.heap.size) : Below B a b :=
  ⟨h.os, h.tape, h.output, h.size, fun i hi => h.block i (Nat.lt_of_lt_of_le hi hB) (fun e => by have := hs i e; omega)⟩
theorem own_ty {w : World} {E E' size size' n n' : Nat} {v v' : Value} {xs xs' : List Value} (h : Row w E size v n xs) (h' : Row w E' size' v' n' xs') (hne : E ≠ E') {g : Nat} (hg : v.ownBlock = some g) (hg' : v'.ownBlock = some g) : False := by
  rcases h.2 with ⟨rfl, _⟩ | ⟨g1, cap, cur, rfl, _, hb, _⟩
  · simp [Value.ownBlock] at hg
  rcases h'.2 with ⟨rfl, _⟩ | ⟨g2, cap2, cur2, rfl, _, hb2, _⟩
  · simp [Value.ownBlock] at hg'
  simp only [Value.ownBlock, Option.some.injEq] at hg hg'
  subst hg; subst hg'
  rw [hb] at hb2
  injection hb2 with hb2
  injection hb2 with _ hb2
  exact hne hb2
theorem Row.cellAt {w : World} {E size n g c : Nat} {xs : List Value} (h : Row w E size (.slice (some ⟨g, 0, none⟩) n c) n xs) (j : Nat) (hj : j < n * size) : ∃ u, w.cell? ⟨g, j, none⟩ = some u := by
  have hl := h.1
  have hj' : j < xs.length := by omega
  have := World.ownsRow.cells h (g := g) rfl j _ (List.getElem?_eq_getElem hj')
  have e : (⟨g, 0, none⟩ : Addr).add j = ⟨g, j, none⟩ := by unfold Addr.add; split <;> simp_all
  rw [e] at this
  exact ⟨_, this⟩
/-- A value's cells in the block X; its own lists, nn names and mm items, each in a row that may be written. -/
structure ShAt (w0 : World) (S : Nat → Prop) (X nn mm : Nat) (nv iv : Value) (w : World) : Prop where
  turn : Turn S w0 w
  hX : w0.heap.size ≤ X
  c3 : w.cell? ⟨X, 3, none⟩ = some nv
  c4 : w.cell? ⟨X, 4, none⟩ = some iv
  f3 : w.frozen? ⟨X, 3, none⟩ = false
  f4 : w.frozen? ⟨X, 4, none⟩ = false
  nrow : ∃ xs, Row w 9 1 nv nn xs
  irow : ∃ xs, Row w 28 5 iv mm xs
  hn : ∀ g, nv.ownBlock = some g → (S g ∨ w0.heap.size ≤ g) ∧ g ≠ X
  hi : ∀ g, iv.ownBlock = some g → (S g ∨ w0.heap.size ≤ g) ∧ g ≠ X
theorem ShAt.drew {w0 w : World} {S : Nat → Prop} {X nn mm : Nat} {nv iv : Value} (h : ShAt w0 S X nn mm nv iv w) (w' : World) (hb : Below w.heap.size w w') : ShAt w0 S X nn mm nv iv w' :=
  ⟨h.turn.trans (Turn.of_below hb), h.hX, cell_below hb h.c3, cell_below hb h.c4, by rw [World.frozen?_of_block (w := w) (hb.block X (cell_lt h.c3))]; exact h.f3, by rw [World.frozen?_of_block (w := w) (hb.block X (cell_lt h.c4))]; exact h.f4,
    h.nrow.elim fun xs hx => ⟨xs, hx.below hb⟩, h.irow.elim fun xs hx => ⟨xs, hx.below hb⟩, h.hn, h.hi⟩
/-- a cell of the items' row is written -/
theorem ShAt.iset {w0 w : World} {S : Nat → Prop} {X nn mm g c : Nat} {nv : Value} (h : ShAt w0 S X nn mm nv (.slice (some ⟨g, 0, none⟩) mm c) w) (p : Nat) (u : Value) :
    ShAt w0 S X nn mm nv (.slice (some ⟨g, 0, none⟩) mm c) (w.setCell ⟨g, p, none⟩ u) := by
  have hg := h.hi g rfl
  have hne : ∀ q, (⟨g, p, none⟩ : Addr) ≠ ⟨X, q, none⟩ := fun q e => by injection e with e; exact hg.2 e
  obtain ⟨xs, hx⟩ := h.nrow
  obtain ⟨ys, hy⟩ := h.irow
  refine ⟨h.turn.set hg.1 p u, h.hX, by rw [setO (hne 3)]; exact h.c3, by rw [setO (hne 4)]; exact h.c4, by rw [setF]; exact h.f3, by rw [setF]; exact h.f4, ⟨xs, ?_⟩, ⟨_, (World.ownsRow.stored hy p u).1⟩, h.hn, h.hi⟩
  exact hx.same (fun b hb => heap_setCell_other w ⟨g, p, none⟩ b u (fun e => own_ty hx hy (by decide) hb (by rw [e]; rfl)))
/-- a cell of the names' row is written -/
theorem ShAt.nset {w0 w : World} {S : Nat → Prop} {X nn mm g c : Nat} {iv : Value} (h : ShAt w0 S X nn mm (.slice (some ⟨g, 0, none⟩) nn c) iv w) (p : Nat) (u : Value) :
    ShAt w0 S X nn mm (.slice (some ⟨g, 0, none⟩) nn c) iv (w.setCell ⟨g, p, none⟩ u) := by
  have hg := h.hn g rfl
  have hne : ∀ q, (⟨g, p, none⟩ : Addr) ≠ ⟨X, q, none⟩ := fun q e => by injection e with e; exact hg.2 e
  obtain ⟨xs, hx⟩ := h.nrow
  obtain ⟨ys, hy⟩ := h.irow
  refine ⟨h.turn.set hg.1 p u, h.hX, by rw [setO (hne 3)]; exact h.c3, by rw [setO (hne 4)]; exact h.c4, by rw [setF]; exact h.f3, by rw [setF]; exact h.f4, ⟨_, (World.ownsRow.stored hx p u).1⟩, ⟨ys, ?_⟩, h.hn, h.hi⟩
  exact hy.same (fun b hb => heap_setCell_other w ⟨g, p, none⟩ b u (fun e => own_ty hx hy (by decide) (by rw [e]; rfl) hb))
/-- behind an append to the items: the box still holds both -/
theorem ShAt.iup {w0 w w1 w' : World} {S : Nat → Prop} {X nn mm : Nat} {nv iv iv' : Value} (h : ShAt w0 S X nn mm nv iv w) (hb : Below w.heap.size w w1) (hu : Upd w1 w' iv.ownBlock iv'.ownBlock) :
    w'.cell? ⟨X, 4, none⟩ = some iv ∧ w'.frozen? ⟨X, 4, none⟩ = false := by
  have hne : iv.ownBlock ≠ some X := fun e => (h.hi X e).2 rfl
  have hX : X < w1.heap.size := Nat.lt_of_lt_of_le (cell_lt h.c4) hb.size
  have e : w'.heap[X]? = w.heap[X]? := (hu.block hX hne).trans (hb.block X (cell_lt h.c4))
  exact ⟨by rw [World.cell?_of_block (w := w) e]; exact h.c4, by rw [World.frozen?_of_block (w := w) e]; exact h.f4⟩
theorem ShAt.nup {w0 w w1 w' : World} {S : Nat → Prop} {X nn mm : Nat} {nv iv nv' : Value} (h : ShAt w0 S X nn mm nv iv w) (hb : Below w.heap.size w w1) (hu : Upd w1 w' nv.ownBlock nv'.ownBlock) :
    w'.cell? ⟨X, 3, none⟩ = some nv ∧ w'.frozen? ⟨X, 3, none⟩ = false := by
  have hne : nv.ownBlock ≠ some X := fun e => (h.hn X e).2 rfl
  have hX : X < w1.heap.size := Nat.lt_of_lt_of_le (cell_lt h.c3) hb.size
  have e : w'.heap[X]? = w.heap[X]? := (hu.block hX hne).trans (hb.block X (cell_lt h.c3))
  exact ⟨by rw [World.cell?_of_block (w := w) e]; exact h.c3, by rw [World.frozen?_of_block (w := w) e]; exact h.f3⟩
/-- the items have grown -/
theorem ShAt.iapp {w0 w w1 w' : World} {S : Nat → Prop} {X nn mm mm' : Nat} {nv iv iv' : Value} {ys : List Value} (h : ShAt w0 S X nn mm nv iv w) (hb : Below w.heap.size w w1) (hu : Upd w1 w' iv.ownBlock iv'.ownBlock)
    (hr : Row w' 28 5 iv' mm' ys) : ShAt w0 S X nn mm' nv iv' (w'.setCell ⟨X, 4, none⟩ iv') := by
  have ⟨k4, g4⟩ := h.iup hb hu
  have hne : iv.ownBlock ≠ some X := fun e => (h.hi X e).2 rfl
  have hXw := cell_lt h.c4
  have hX : X < w1.heap.size := Nat.lt_of_lt_of_le hXw hb.size
  have e : w'.heap[X]? = w.heap[X]? := (hu.block hX hne).trans (hb.block X hXw)
  have k3 : w'.cell? ⟨X, 3, none⟩ = some nv := by rw [World.cell?_of_block (w := w) e]; exact h.c3
  have g3 : w'.frozen? ⟨X, 3, none⟩ = false := by rw [World.frozen?_of_block (w := w) e]; exact h.f3
  obtain ⟨xs, hx⟩ := h.nrow
  obtain ⟨zs, hz⟩ := h.irow
  have hs0 := h.turn.size
  have hs1 := hb.size
  have hoi : ∀ g, iv'.ownBlock = some g → (S g ∨ w0.heap.size ≤ g) ∧ g ≠ X := fun g hg => by
    rcases hu.own with e | ⟨q, e, hq⟩
    · exact h.hi g (by rw [← e]; exact hg)
    · rw [e] at hg; injection hg with hg; subst hg; exact ⟨.inr (by omega), by omega⟩
  have hx' : Row w' 9 1 nv nn xs := hx.same (fun b hbk => by
    have hlt := hx.lt hbk
    exact (hu.block (Nat.lt_of_lt_of_le hlt hb.size) (fun e => own_ty hx hz (by decide) hbk e)).trans (hb.block b hlt))
  refine ⟨((h.turn.trans (Turn.of_below hb)).upd hu (fun g hg => (h.hi g hg).1)).set (.inr h.hX) 4 iv', h.hX, by rw [setO (fun e => by injection e with _ e; cases e)]; exact k3, setS k4, by rw [setF]; exact g3, by rw [setF]; exact g4,
    ⟨xs, hx'.same (fun b hbk => heap_setCell_other w' ⟨X, 4, none⟩ b iv' (fun e => (h.hn b hbk).2 e))⟩, ⟨ys, hr.same (fun b hbk => heap_setCell_other w' ⟨X, 4, none⟩ b iv' (fun e => (hoi b hbk).2 e))⟩, h.hn, hoi⟩
/-- the names have grown -/
theorem ShAt.napp {w0 w w1 w' : World} {S : Nat → Prop} {X nn mm nn' : Nat} {nv iv nv' : Value} {ys : List Value} (h : ShAt w0 S X nn mm nv iv w) (hb : Below w.heap.size w w1) (hu : Upd w1 w' nv.ownBlock nv'.ownBlock)
    (hr : Row w' 9 1 nv' nn' ys) : ShAt w0 S X nn' mm nv' iv (w'.setCell ⟨X, 3, none⟩ nv') := by
  have ⟨k3, g3⟩ := h.nup hb hu
  have hne : nv.ownBlock ≠ some X := fun e => (h.hn X e).2 rfl
  have hXw := cell_lt h.c3
  have hX : X < w1.heap.size := Nat.lt_of_lt_of_le hXw hb.size
  have e : w'.heap[X]? = w.heap[X]? := (hu.block hX hne).trans (hb.block X hXw)
  have k4 : w'.cell? ⟨X, 4, none⟩ = some iv := by rw [World.cell?_of_block (w := w) e]; exact h.c4
  have g4 : w'.frozen? ⟨X, 4, none⟩ = false := by rw [World.frozen?_of_block (w := w) e]; exact h.f4
  obtain ⟨xs, hx⟩ := h.nrow
  obtain ⟨zs, hz⟩ := h.irow
  have hs0 := h.turn.size
  have hs1 := hb.size
  have hoi : ∀ g, nv'.ownBlock = some g → (S g ∨ w0.heap.size ≤ g) ∧ g ≠ X := fun g hg => by
    rcases hu.own with e | ⟨q, e, hq⟩
    · exact h.hn g (by rw [← e]; exact hg)
    · rw [e] at hg; injection hg with hg; subst hg; exact ⟨.inr (by omega), by omega⟩
  have hz' : Row w' 28 5 iv mm zs := hz.same (fun b hbk => by
    have hlt := hz.lt hbk
    exact (hu.block (Nat.lt_of_lt_of_le hlt hb.size) (fun e => own_ty hx hz (by decide) e hbk)).trans (hb.block b hlt))
  refine ⟨((h.turn.trans (Turn.of_below hb)).upd hu (fun g hg => (h.hn g hg).1)).set (.inr h.hX) 3 nv', h.hX, setS k3, by rw [setO (fun e => by injection e with _ e; cases e)]; exact k4, by rw [setF]; exact g3, by rw [setF]; exact g4,
    ⟨ys, hr.same (fun b hbk => heap_setCell_other w' ⟨X, 3, none⟩ b nv' (fun e => (hoi b hbk).2 e))⟩, ⟨zs, hz'.same (fun b hbk => heap_setCell_other w' ⟨X, 3, none⟩ b nv' (fun e => (h.hi b hbk).2 e))⟩, hoi, h.hi⟩
end Go.Proofs.YtbkbokfegjodnaaDoor
