/- An object that is being made out of another's rules, the last first. Conditions: none. -/
import Derived.Test.YtnmojmmgkipjcaaGreatDoorSjp
import Derived.Test.YtnmojmmgkipjcaaGreatDoorReada
namespace Go.Proofs.YtnmojmmgkipjcaaGreatDoor
open Go.RowKit
structure TnAt (w0 : World) (B : Nat) (ns : List ByteArray) (nv : Value) (is : List JV) (iv : Value) (xs : List Value) (wr : World) : Prop where
  blk : wr.heap[B]? = some (.cells #[.int .i64 6, .int .i64 0, .string ⟨#[]⟩, nv, iv] 25 (0, 0))
  ge : w0.heap.size ≤ B
  nrow : Row wr 9 1 nv ns.length (ns.map Value.string)
  nown : ∀ g, nv.ownBlock = some g → w0.heap.size ≤ g ∧ g ≠ B ∧ iv.ownBlock ≠ some g
  irow : Row wr 25 5 iv is.length xs
  iown : ∀ g, iv.ownBlock = some g → w0.heap.size ≤ g ∧ g ≠ B
  reps : Reps wr (fun b => b < w0.heap.size) is xs
theorem TnAt.start (w0 : World) : TnAt w0 w0.heap.size [] (.slice none 0 0) [] (.slice none 0 0) [] (w0.alloc (.cells #[.int .i64 6, .int .i64 0, .string ⟨#[]⟩, .slice none 0 0, .slice none 0 0] 25)) :=
  ⟨heap_alloc_new w0 _, Nat.le_refl _, row_nil _ _ _, fun g h => (by cases h), row_nil _ _ _, fun g h => (by cases h), rfl⟩
theorem TnAt.lt {w0 wr : World} {B : Nat} {ns : List ByteArray} {nv iv : Value} {is : List JV} {xs : List Value} (h : TnAt w0 B ns nv is iv xs wr) : B < wr.heap.size := (Array.getElem?_eq_some_iff.1 h.blk).1
theorem TnAt.below {w0 wr w' : World} {B : Nat} {ns : List ByteArray} {nv iv : Value} {is : List JV} {xs : List Value} (h : TnAt w0 B ns nv is iv xs wr) (hb : Below wr.heap.size wr w') : TnAt w0 B ns nv is iv xs w' :=
  ⟨(hb.block B h.lt).trans h.blk, h.ge, h.nrow.below hb, h.nown, h.irow.below hb, h.iown, Reps.kept (fun b hlt ho => ⟨ho, hb.block b hlt⟩) h.reps⟩
/-- one name more -/
theorem TnAt.name {w0 wr w' : World} {B : Nat} {ns : List ByteArray} {nv nv' iv : Value} {is : List JV} {xs : List Value} {s : ByteArray} (h : TnAt w0 B ns nv is iv xs wr) (h0 : w0.heap.size ≤ wr.heap.size) (hr : Row w' 9 1 nv' (ns.length + 1) (ns.map Value.string ++ [.string s])) (hu : Upd wr w' nv.ownBlock nv'.ownBlock) :
    TnAt w0 B (ns ++ [s]) nv' is iv xs (w'.setCell ⟨B, 3, none⟩ nv') ∧ Below w0.heap.size wr (w'.setCell ⟨B, 3, none⟩ nv') := by
  have hb' : w'.heap[B]? = some (.cells #[.int .i64 6, .int .i64 0, .string ⟨#[]⟩, nv, iv] 25 (0, 0)) := (hu.block h.lt (fun e => (h.nown B e).2.1 rfl)).trans h.blk
  have hs : Upd w' (w'.setCell ⟨B, 3, none⟩ nv') (some B) (some B) := Upd.of_setCell _ _ _
  have hn' : ∀ g, nv'.ownBlock = some g → w0.heap.size ≤ g ∧ g ≠ B ∧ iv.ownBlock ≠ some g := fun g hg => by
    rcases own_or hu g hg with h1 | h1
    · exact h.nown g h1
    · have := h.lt
      exact ⟨by omega, by omega, fun e => by have := h.irow.lt e; omega⟩
  have hbl : Below w0.heap.size wr (w'.setCell ⟨B, 3, none⟩ nv') := (hu.below h0 (fun g e => (h.nown g e).1)).trans (hs.below (Nat.le_trans h0 hu.grown.size) (fun g e => by injection e with e; have := h.ge; omega))
  refine ⟨⟨heap_setCell_same w' B 3 _ _ _ hb', h.ge, ?_, hn', ?_, h.iown, Reps.kept (fun b hlt ho => ⟨ho, hbl.block b ho⟩) h.reps⟩, hbl⟩
  · rw [List.length_append, List.map_append]
    exact hr.kept hs (.inr (fun e => (hn' B e).2.1 rfl))
  · exact (h.irow.kept hu (by cases e : iv.ownBlock with | none => exact .inl rfl | some g => exact .inr (fun e2 => (h.nown g e2.symm).2.2 e))).kept hs (.inr (fun e => (h.iown B e).2 rfl))
/-- one item more -/
theorem TnAt.item {w0 wr w' : World} {B : Nat} {ns : List ByteArray} {nv iv iv' : Value} {is : List JV} {xs cs : List Value} {t : JV} (h : TnAt w0 B ns nv is iv xs wr) (h0 : w0.heap.size ≤ wr.heap.size) (ht : Rep w0 (fun b => b < w0.heap.size) t cs) (hb0 : Below w0.heap.size w0 wr)
    (hr : Row w' 25 5 iv' (is.length + 1) (xs ++ cs)) (hu : Upd wr w' iv.ownBlock iv'.ownBlock) :
    TnAt w0 B ns nv (is ++ [t]) iv' (xs ++ cs) (w'.setCell ⟨B, 4, none⟩ iv') ∧ Below w0.heap.size wr (w'.setCell ⟨B, 4, none⟩ iv') := by
  have hb' : w'.heap[B]? = some (.cells #[.int .i64 6, .int .i64 0, .string ⟨#[]⟩, nv, iv] 25 (0, 0)) := (hu.block h.lt (fun e => (h.iown B e).2 rfl)).trans h.blk
  have hs : Upd w' (w'.setCell ⟨B, 4, none⟩ iv') (some B) (some B) := Upd.of_setCell _ _ _
  have hi' : ∀ g, iv'.ownBlock = some g → w0.heap.size ≤ g ∧ g ≠ B := fun g hg => by
    rcases own_or hu g hg with h1 | h1
    · exact h.iown g h1
    · have := h.lt
      exact ⟨by omega, by omega⟩
  have hbl : Below w0.heap.size wr (w'.setCell ⟨B, 4, none⟩ iv') := (hu.below h0 (fun g e => (h.iown g e).1)).trans (hs.below (Nat.le_trans h0 hu.grown.size) (fun g e => by injection e with e; have := h.ge; omega))
  refine ⟨⟨heap_setCell_same w' B 4 _ _ _ hb', h.ge, ?_, fun g hg => ⟨(h.nown g hg).1, (h.nown g hg).2.1, fun e => ?_⟩, ?_, hi', ?_⟩, hbl⟩
  · exact (h.nrow.kept hu (by cases e : nv.ownBlock with | none => exact .inl rfl | some g => exact .inr (fun e2 => (h.nown g e).2.2 e2.symm))).kept hs (.inr (fun e => (h.nown B e).2.1 rfl))
  · rcases own_or hu g e with h1 | h1
    · exact (h.nown g hg).2.2 h1
    · have := h.nrow.lt hg; omega
  · rw [List.length_append]
    exact hr.kept hs (.inr (fun e => (hi' B e).2 rfl))
  · refine Reps.snoc ?_ (Reps.kept (fun b hlt ho => ⟨ho, hbl.block b ho⟩) h.reps)
    exact Rep.kept (fun b hlt ho => ⟨ho, (hb0.trans hbl).block b hlt⟩) _ _ ht
/-- at the end: the object -/
theorem TnAt.rep {w0 wr : World} {B : Nat} {ns : List ByteArray} {nv iv : Value} {is : List JV} {xs : List Value} (h : TnAt w0 B ns nv is iv xs wr) : Rep wr (fun _ => True) (.mk 6 0 ⟨#[]⟩ ns is) [.int .i64 6, .int .i64 0, .string ⟨#[]⟩, nv, iv] := by
  obtain ⟨a, c, rfl, h1, h2⟩ := Row.strs (ok := fun _ => True) h.nrow (fun _ _ => trivial)
  obtain ⟨b, d, rfl, h3, h4⟩ := Row.items (ok := fun _ => True) h.irow (Reps.kept (fun b hlt ho => ⟨trivial, rfl⟩) h.reps) (fun _ _ => trivial)
  rw [rep_mk]
  exact ⟨by omega, by omega, Nat.zero_le _, a, c, b, d, rfl, h1, h3, h2, h4⟩
end Go.Proofs.YtnmojmmgkipjcaaGreatDoor
