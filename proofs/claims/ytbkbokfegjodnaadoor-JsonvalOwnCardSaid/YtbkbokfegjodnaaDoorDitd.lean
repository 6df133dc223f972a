/- What memory holds while the document's reader reads the items of a list or an object. Conditions: none. -/
import Derived.Test.YtbkbokfegjodnaaDoorDcomma
import Derived.Test.YtbkbokfegjodnaaDoorMemory
namespace Go.Proofs.YtbkbokfegjodnaaDoor
open Go.RowKit
/-- Since the world w: a reader R of bs is at s; the value at V has the names ns in nv, the items is in iv. -/
structure Itd (w : World) (R V : Nat) (kd : Int) (ns : List ByteArray) (is : List JV) (nv iv : Value) (xs : List Value) (wr : World) : Prop where
  hR : R < w.heap.size
  upd : Upd w wr (some R) (some R)
  hV : w.heap.size ≤ V
  blk : wr.heap[V]? = some (.cells #[.int .i64 kd, .int .i64 0, .string ⟨#[]⟩, nv, iv] 28 (0, 0))
  nrow : Row wr 9 1 nv ns.length (ns.map Value.string)
  irow : Row wr 28 5 iv is.length xs
  nf : ∀ g, nv.ownBlock = some g → w.heap.size ≤ g ∧ g ≠ V ∧ iv.ownBlock ≠ some g
  fi : ∀ g, iv.ownBlock = some g → w.heap.size ≤ g ∧ g ≠ V
  reps : Reps wr (fun b => w.heap.size ≤ b ∧ b ≠ V ∧ nv.ownBlock ≠ some b ∧ iv.ownBlock ≠ some b) is xs
section
variable {w : World} {R V : Nat} {kd : Int} {ns : List ByteArray} {is : List JV} {nv iv : Value} {xs : List Value} {wr : World}
theorem Itd.vlt (h : Itd w R V kd ns is nv iv xs wr) : V < wr.heap.size := by
  rcases Nat.lt_or_ge V wr.heap.size with hlt | hge
  · exact hlt
  · have := h.blk; rw [Array.getElem?_eq_none hge] at this; cases this
/-- the reader has gone on -/
theorem Itd.move (h : Itd w R V kd ns is nv iv xs wr) {w' : World} (hu : Upd wr w' (some R) (some R)) : Itd w R V kd ns is nv iv xs w' := by
  have hR := h.hR
  have hk : ∀ b, b < wr.heap.size → w.heap.size ≤ b → w'.heap[b]? = wr.heap[b]? := fun b hb hw => hu.block hb (fun e => by have := Option.some.inj e; omega)
  refine ⟨h.hR, h.upd.trans hu, h.hV, (hk V h.vlt h.hV).trans h.blk, Row.kept h.nrow hu ?_, Row.kept h.irow hu ?_, h.nf, h.fi, h.reps.kept fun b hb ho => ⟨ho, hk b hb ho.1⟩⟩
  · exact .inr fun e => by have := (h.nf R e).1; omega
  · exact .inr fun e => by have := (h.fi R e).1; omega
/-- nothing has turned -/
theorem Itd.below (h : Itd w R V kd ns is nv iv xs wr) {w' : World} (hb : Below wr.heap.size wr w') : Itd w R V kd ns is nv iv xs w' :=
  h.move (Upd.of_below hb _)
/-- what lies at V, behind a row's growth -/
theorem Itd.at (h : Itd w R V kd ns is nv iv xs wr) {w1 w2 : World} {r r' : Option Nat} (hb : Below wr.heap.size wr w1) (hu : Upd w1 w2 r r') (hr : r ≠ some V) : w2.heap[V]? = some (.cells #[.int .i64 kd, .int .i64 0, .string ⟨#[]⟩, nv, iv] 28 (0, 0)) :=
  (hu.block (Nat.lt_of_lt_of_le h.vlt hb.size) hr).trans ((hb.block V h.vlt).trans h.blk)
/-- a name's cell -/
theorem Itd.nameAt (h : Itd w R V kd ns is nv iv xs wr) {j : Nat} (hj : j < ns.length) : ∃ g c, nv = .slice (some ⟨g, 0, none⟩) ns.length c ∧ (ns.length ≤ c ∧ c ≤ maxLen) ∧ wr.cell? ⟨g, j, none⟩ = some (.string ns[j]) := by
  obtain ⟨a, c, hv, h1, h2, h3⟩ := h.nrow.form
  rcases h3 with ⟨_, h3, _⟩ | ⟨g, ha, _, _, hl⟩
  · omega
  · refine ⟨g, c, by rw [hv, ha], ⟨h1, h2⟩, ?_⟩
    have := hl j (.string ns[j]) (by simp [hj])
    rw [Nat.zero_add] at this
    exact this
theorem Itd.nsl (h : Itd w R V kd ns is nv iv xs wr) : ∃ a c, nv = .slice a ns.length c := by
  obtain ⟨a, c, hv, _⟩ := h.nrow.form
  exact ⟨a, c, hv⟩
/-- a name more -/
theorem Itd.name (h : Itd w R V kd ns is nv iv xs wr) {w1 w2 : World} {nv' : Value} {x : ByteArray} (hb : Below wr.heap.size wr w1) (hrow : Row w2 9 1 nv' (ns.length + 1) (ns.map Value.string ++ [.string x])) (hu : Upd w1 w2 nv.ownBlock nv'.ownBlock) :
    Itd w R V kd (ns ++ [x]) is nv' iv xs (w2.setCell ⟨V, 3, none⟩ nv') ∧ (w2.setCell ⟨V, 3, none⟩ nv').heap[R]? = wr.heap[R]? := by
  have hR := h.hR
  have hV := h.hV
  have hvl := h.vlt
  have hsz := hb.size
  have hsz2 := hu.grown.size
  have hgs := h.upd.grown.size
  have hnV : nv.ownBlock ≠ some V := fun e => (h.nf V e).2.1 rfl
  have hat := h.at hb hu hnV
  have hn' : ∀ g, nv'.ownBlock = some g → nv.ownBlock = some g ∨ w1.heap.size ≤ g := fun g hg => by
    rcases hu.own with e | ⟨g', e, hg'⟩
    · left; rw [← e]; exact hg
    · right; rw [e] at hg; rw [← Option.some.inj hg]; exact hg'
  have hb2 : Below w.heap.size wr w2 := (hb.mono hgs).trans (hu.below (by omega) (fun g hg => (h.nf g hg).1))
  have hb3 : Below w.heap.size wr (w2.setCell ⟨V, 3, none⟩ nv') := hb2.setCell hV _
  have hU := h.upd.trans_below hb3
  have hk : ∀ b, b < wr.heap.size → b ≠ V → nv.ownBlock ≠ some b → (w2.setCell ⟨V, 3, none⟩ nv').heap[b]? = wr.heap[b]? := fun b hbl hne hno => by
    rw [heap_setCell_other _ _ _ _ hne]; exact (hu.block (by omega) hno).trans (hb.block b hbl)
  refine ⟨⟨h.hR, hU, h.hV, ?_, ?_, ?_, ?_, h.fi, ?_⟩, hb3.block R hR⟩
  · exact heap_setCell_same w2 V 3 _ _ nv' hat
  · rw [List.length_append, List.map_append]
    refine Row.kept hrow (Upd.of_setCell w2 ⟨V, 3, none⟩ nv') ?_
    cases e : nv'.ownBlock with
    | none => exact .inl rfl
    | some g =>
      right; intro e2
      have hgV : g = V := Option.some.inj e2
      rcases hn' g e with h1 | h1
      · exact (h.nf g h1).2.1 hgV
      · omega
  · have h1 : Row w2 28 5 iv is.length xs := Row.kept (h.irow.below hb) hu (by
      cases e : iv.ownBlock with
      | none => exact .inl rfl
      | some g => right; intro e2; exact (h.nf g e2.symm).2.2 e)
    refine Row.kept h1 (Upd.of_setCell w2 ⟨V, 3, none⟩ nv') ?_
    exact .inr fun e => (h.fi V e).2 rfl
  · intro g hg
    rcases hn' g hg with h1 | h1
    · exact h.nf g h1
    · exact ⟨by omega, by omega, fun e => by have := h.irow.lt e; omega⟩
  · refine h.reps.kept fun b hbl ho => ⟨⟨ho.1, ho.2.1, fun e => ?_, ho.2.2.2⟩, hk b hbl ho.2.1 ho.2.2.1⟩
    rcases hn' b e with h1 | h1
    · exact ho.2.2.1 h1
    · omega
/-- an item more: a tree of memory made since the world w9 -/
theorem Itd.item (h : Itd w R V kd ns is nv iv xs wr) {w9 w1 w2 : World} {iv' : Value} {t : JV} {cs : List Value} (h9 : Itd w R V kd ns is nv iv xs w9) (ht : Rep wr (fun b => w9.heap.size ≤ b) t cs) (hb : Below wr.heap.size wr w1)
    (hrow : Row w2 28 5 iv' (is.length + 1) (xs ++ cs)) (hu : Upd w1 w2 iv.ownBlock iv'.ownBlock) :
    Itd w R V kd ns (is ++ [t]) nv iv' (xs ++ cs) (w2.setCell ⟨V, 4, none⟩ iv') ∧ (w2.setCell ⟨V, 4, none⟩ iv').heap[R]? = wr.heap[R]? := by
  have hR := h.hR
  have hV := h.hV
  have hvl := h.vlt
  have hv9 := h9.vlt
  have hsz := hb.size
  have hsz2 := hu.grown.size
  have hgs := h.upd.grown.size
  have hg9 := h9.upd.grown.size
  have hiV : iv.ownBlock ≠ some V := fun e => (h.fi V e).2 rfl
  have hat := h.at hb hu hiV
  have hi' : ∀ g, iv'.ownBlock = some g → iv.ownBlock = some g ∨ w1.heap.size ≤ g := fun g hg => by
    rcases hu.own with e | ⟨g', e, hg'⟩
    · left; rw [← e]; exact hg
    · right; rw [e] at hg; rw [← Option.some.inj hg]; exact hg'
  have hb2 : Below w.heap.size wr w2 := (hb.mono hgs).trans (hu.below (by omega) (fun g hg => (h.fi g hg).1))
  have hb3 : Below w.heap.size wr (w2.setCell ⟨V, 4, none⟩ iv') := hb2.setCell hV _
  have hU := h.upd.trans_below hb3
  have hk : ∀ b, b < wr.heap.size → b ≠ V → iv.ownBlock ≠ some b → (w2.setCell ⟨V, 4, none⟩ iv').heap[b]? = wr.heap[b]? := fun b hbl hne hno => by
    rw [heap_setCell_other _ _ _ _ hne]; exact (hu.block (by omega) hno).trans (hb.block b hbl)
  have hkeep : ∀ b, b < wr.heap.size → (w.heap.size ≤ b ∧ b ≠ V ∧ nv.ownBlock ≠ some b ∧ iv.ownBlock ≠ some b) → (w.heap.size ≤ b ∧ b ≠ V ∧ nv.ownBlock ≠ some b ∧ iv'.ownBlock ≠ some b) ∧ (w2.setCell ⟨V, 4, none⟩ iv').heap[b]? = wr.heap[b]? := fun b hbl ho => by
    refine ⟨⟨ho.1, ho.2.1, ho.2.2.1, fun e => ?_⟩, hk b hbl ho.2.1 ho.2.2.2⟩
    rcases hi' b e with h1 | h1
    · exact ho.2.2.2 h1
    · omega
  refine ⟨⟨h.hR, hU, h.hV, ?_, ?_, ?_, ?_, ?_, ?_⟩, hb3.block R hR⟩
  · exact heap_setCell_same w2 V 4 _ _ iv' hat
  · have h1 : Row w2 9 1 nv ns.length (ns.map Value.string) := Row.kept (h.nrow.below hb) hu (by
      cases e : nv.ownBlock with
      | none => exact .inl rfl
      | some g => right; intro e2; exact (h.nf g e).2.2 e2.symm)
    refine Row.kept h1 (Upd.of_setCell w2 ⟨V, 4, none⟩ iv') ?_
    exact .inr fun e => (h.nf V e).2.1 rfl
  · rw [List.length_append]
    refine Row.kept hrow (Upd.of_setCell w2 ⟨V, 4, none⟩ iv') ?_
    cases e : iv'.ownBlock with
    | none => exact .inl rfl
    | some g =>
      right; intro e2
      have hgV : g = V := Option.some.inj e2
      rcases hi' g e with h1 | h1
      · exact (h.fi g h1).2 hgV
      · omega
  · intro g hg
    have h1 := h.nf g hg
    refine ⟨h1.1, h1.2.1, fun e => ?_⟩
    rcases hi' g e with h2 | h2
    · exact h1.2.2 h2
    · have := h.nrow.lt hg; omega
  · intro g hg
    rcases hi' g hg with h1 | h1
    · exact h.fi g h1
    · exact ⟨by omega, by omega⟩
  · refine Reps.snoc ?_ (h.reps.kept hkeep)
    refine Rep.kept (fun b hbl hbw => hkeep b hbl ?_) t cs ht
    exact ⟨by omega, by omega, fun e => by have := h9.nrow.lt e; omega, fun e => by have := h9.irow.lt e; omega⟩
/-- the value is whole -/
theorem Itd.done (h : Itd w R V kd ns is nv iv xs wr) (hk : -9223372036854775808 ≤ kd ∧ kd ≤ 9223372036854775807) :
    ∃ an cn ai ci, nv = .slice an ns.length cn ∧ iv = .slice ai is.length ci ∧ Rep wr (fun b => w.heap.size ≤ b ∧ b ≠ V) (.mk kd 0 ⟨#[]⟩ ns is) [.int .i64 kd, .int .i64 0, .string ⟨#[]⟩, .slice an ns.length cn, .slice ai is.length ci] := by
  obtain ⟨ai, ci, hv, hci, hit⟩ := h.irow.items (ok := fun b => w.heap.size ≤ b ∧ b ≠ V) (h.reps.kept fun b _ hb => ⟨⟨hb.1, hb.2.1⟩, rfl⟩) (fun g hg => ⟨(h.fi g hg).1, (h.fi g hg).2⟩)
  obtain ⟨an, cn, hn, hcn, hst⟩ := h.nrow.strs (ok := fun b => w.heap.size ≤ b ∧ b ≠ V) (fun g hg => ⟨(h.nf g hg).1, (h.nf g hg).2.1⟩)
  exact ⟨an, cn, ai, ci, hn, hv, rep_mk.2 ⟨hk, by omega, Nat.zero_le _, an, cn, ai, ci, rfl, hcn, hci, hst, hit⟩⟩
end
end Go.Proofs.YtbkbokfegjodnaaDoor
