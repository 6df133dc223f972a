/- Trees each of whose lists is a row of its own; what memory holds while such are read. Conditions: what the laws name. -/
import Derived.Test.YtbkbokfegjodnaaDoorFoot
import Derived.Test.YtbkbokfegjodnaaDoorMemory
namespace Go.Proofs.YtbkbokfegjodnaaDoor
open Go.RowKit
def RepO (w : World) (ok : Nat → Prop) (t : JV) (cs : List Value) : Prop := ∃ F, RepF w t cs F ∧ F.Nodup ∧ ∀ b ∈ F, ok b
def RepsO (w : World) (ok : Nat → Prop) (is : List JV) (xs : List Value) : Prop := ∃ F, RepsF w is xs F ∧ F.Nodup ∧ ∀ b ∈ F, ok b
theorem RepO.kept {w w' : World} {ok ok' : Nat → Prop} (hk : ∀ b, b < w.heap.size → ok b → ok' b ∧ w'.heap[b]? = w.heap[b]?) (t : JV) (cs : List Value) (h : RepO w ok t cs) : RepO w' ok' t cs := by
  obtain ⟨F, h1, h2, h3⟩ := h
  have hlt := RepF.lt t cs F h1
  exact ⟨F, RepF.kept t cs F h1 (fun b hb => (hk b (hlt b hb) (h3 b hb)).2), h2, fun b hb => (hk b (hlt b hb) (h3 b hb)).1⟩
theorem RepsO.kept {w w' : World} {ok ok' : Nat → Prop} (hk : ∀ b, b < w.heap.size → ok b → ok' b ∧ w'.heap[b]? = w.heap[b]?) {is : List JV} {xs : List Value} (h : RepsO w ok is xs) : RepsO w' ok' is xs := by
  obtain ⟨F, h1, h2, h3⟩ := h
  have hlt := RepsF.lt is xs F h1
  exact ⟨F, RepsF.kept is xs F h1 (fun b hb => (hk b (hlt b hb) (h3 b hb)).2), h2, fun b hb => (hk b (hlt b hb) (h3 b hb)).1⟩
theorem repsO_nil (w : World) (ok : Nat → Prop) : RepsO w ok [] [] := ⟨[], by rw [RepsF]; exact ⟨rfl, rfl⟩, List.nodup_nil, fun b hb => by cases hb⟩
theorem repO_flat (k n : Int) (s : ByteArray) (hk : -9223372036854775808 ≤ k ∧ k ≤ 9223372036854775807) (hn : -9223372036854775808 ≤ n ∧ n ≤ 9223372036854775807) (hs : s.size ≤ maxLen) (w : World) (ok : Nat → Prop) :
    RepO w ok (.mk k n s [] []) [.int .i64 k, .int .i64 n, .string s, .slice none 0 0, .slice none 0 0] :=
  ⟨[], repF_mk.2 ⟨hk, hn, hs, none, 0, none, 0, [], [], rfl, row_nil _ _ _, row_nil _ _ _, by rw [RepsF]; exact ⟨rfl, rfl⟩, rfl⟩, List.nodup_nil, fun b hb => by cases hb⟩
/-- one tree more, whose lists are newer than all others -/
theorem RepsO.snoc {w : World} {ok : Nat → Prop} {t : JV} {cs : List Value} {is : List JV} {xs : List Value} (N : Nat) (ht : RepO w (fun b => N ≤ b ∧ ok b) t cs) (h : RepsO w (fun b => b < N ∧ ok b) is xs) : RepsO w ok (is ++ [t]) (xs ++ cs) := by
  obtain ⟨F, f1, f2, f3⟩ := ht
  obtain ⟨G, g1, g2, g3⟩ := h
  refine ⟨G ++ F, RepsF.snoc f1 g1, List.nodup_append.2 ⟨g2, f2, fun a ha b hb e => ?_⟩, fun b hb => ?_⟩
  · have := (g3 a ha).1
    have := (f3 b hb).1
    omega
  · rcases List.mem_append.1 hb with hb | hb
    · exact (g3 b hb).2
    · exact (f3 b hb).2
/-- the lists are older than what comes -/
theorem RepsO.lt {w : World} {ok : Nat → Prop} {is : List JV} {xs : List Value} (h : RepsO w ok is xs) {N : Nat} (hN : w.heap.size ≤ N) : RepsO w (fun b => b < N ∧ ok b) is xs := by
  obtain ⟨F, h1, h2, h3⟩ := h
  exact ⟨F, h1, h2, fun b hb => ⟨Nat.lt_of_lt_of_le (RepsF.lt is xs F h1 b hb) hN, h3 b hb⟩⟩
/-- a value out of its two lists -/
theorem repO_mk {w : World} {ok : Nat → Prop} {k : Int} {ns : List ByteArray} {is : List JV} {nv iv : Value} {xs : List Value} (hk : -9223372036854775808 ≤ k ∧ k ≤ 9223372036854775807)
    (hn : Row w 9 1 nv ns.length (ns.map Value.string)) (hi : Row w 28 5 iv is.length xs) (hr : RepsO w (fun b => ok b ∧ nv.ownBlock ≠ some b ∧ iv.ownBlock ≠ some b) is xs)
    (hno : ∀ g, nv.ownBlock = some g → ok g ∧ iv.ownBlock ≠ some g) (hio : ∀ g, iv.ownBlock = some g → ok g) :
    ∃ an cn ai ci, nv = .slice an ns.length cn ∧ iv = .slice ai is.length ci ∧ RepO w ok (.mk k 0 ⟨#[]⟩ ns is) [.int .i64 k, .int .i64 0, .string ⟨#[]⟩, .slice an ns.length cn, .slice ai is.length ci] := by
  obtain ⟨an, cn, rfl, _⟩ := hn.form
  obtain ⟨ai, ci, rfl, _⟩ := hi.form
  obtain ⟨F, h1, h2, h3⟩ := hr
  refine ⟨an, cn, ai, ci, rfl, rfl, ownA an ++ (ownA ai ++ F), repF_mk.2 ⟨hk, by omega, Nat.zero_le _, an, cn, ai, ci, xs, F, rfl, hn, hi, h1, rfl⟩, ?_, ?_⟩
  · have ha : ∀ g, g ∈ ownA an → (Value.slice an ns.length cn).ownBlock = some g := fun g hg => by
      cases an with
      | none => simp [ownA] at hg
      | some p => simp only [ownA, List.mem_cons, List.not_mem_nil, or_false] at hg; rw [hg]; rfl
    have hb : ∀ g, g ∈ ownA ai → (Value.slice ai is.length ci).ownBlock = some g := fun g hg => by
      cases ai with
      | none => simp [ownA] at hg
      | some p => simp only [ownA, List.mem_cons, List.not_mem_nil, or_false] at hg; rw [hg]; rfl
    have n1 : (ownA an).Nodup := by cases an <;> simp [ownA]
    have n2 : (ownA ai).Nodup := by cases ai <;> simp [ownA]
    refine List.nodup_append.2 ⟨n1, List.nodup_append.2 ⟨n2, h2, fun a hm b hm2 e => ?_⟩, fun a hm b hm2 e => ?_⟩
    · subst e; exact (h3 a hm2).2.2 (hb a hm)
    · subst e
      rcases List.mem_append.1 hm2 with hm2 | hm2
      · exact (hno a (ha a hm)).2 (hb a hm2)
      · exact (h3 a hm2).2.1 (ha a hm)
  · intro b hm
    rcases List.mem_append.1 hm with hm | hm
    · cases an with
      | none => simp [ownA] at hm
      | some p => simp only [ownA, List.mem_cons, List.not_mem_nil, or_false] at hm; rw [hm]; exact (hno _ rfl).1
    · rcases List.mem_append.1 hm with hm | hm
      · cases ai with
        | none => simp [ownA] at hm
        | some p => simp only [ownA, List.mem_cons, List.not_mem_nil, or_false] at hm; rw [hm]; exact hio _ rfl
      · exact (h3 b hm).1
end Go.Proofs.YtbkbokfegjodnaaDoor
namespace Go.Proofs.YtbkbokfegjodnaaDoor
open Go.RowKit
/-- Since the world w: a reader R of the text tx is at s; the value at V has the names ns in nv, the items is in iv; the map at B has seen sn. -/
structure Itjo (w : World) (R : Nat) (tx : ByteArray) (s0 : St) (V B : Nat) (kd : Int) (sn ns : List ByteArray) (is : List JV) (nv iv : Value) (xs : List Value) (s : St) (wr : World) : Prop where
  h0 : SrAt w R tx s0
  rd : SrAt wr R tx s
  upd : Upd w wr (some R) (some R)
  hV : w.heap.size ≤ V ∧ V ≠ B ∧ w.heap.size ≤ B
  blk : wr.heap[V]? = some (.cells #[.int .i64 kd, .int .i64 0, .string ⟨#[]⟩, nv, iv] 28 (0, 0))
  seen : SeenAt wr B sn
  nrow : Row wr 9 1 nv ns.length (ns.map Value.string)
  irow : Row wr 28 5 iv is.length xs
  nf : ∀ g, nv.ownBlock = some g → w.heap.size ≤ g ∧ g ≠ V ∧ g ≠ B ∧ iv.ownBlock ≠ some g
  fi : ∀ g, iv.ownBlock = some g → w.heap.size ≤ g ∧ g ≠ V ∧ g ≠ B
  reps : RepsO wr (fun b => w.heap.size ≤ b ∧ b ≠ V ∧ b ≠ B ∧ nv.ownBlock ≠ some b ∧ iv.ownBlock ≠ some b) is xs
section
variable {w : World} {R : Nat} {tx : ByteArray} {s0 : St} {V B : Nat} {kd : Int} {sn ns : List ByteArray} {is : List JV} {nv iv : Value} {xs : List Value} {s : St} {wr : World}
theorem Itjo.vlt (h : Itjo w R tx s0 V B kd sn ns is nv iv xs s wr) : V < wr.heap.size := by
  rcases Nat.lt_or_ge V wr.heap.size with hlt | hge
  · exact hlt
  · have := h.blk; rw [Array.getElem?_eq_none hge] at this; cases this
/-- the reader has gone on -/
theorem Itjo.move (h : Itjo w R tx s0 V B kd sn ns is nv iv xs s wr) {w' : World} {s' : St} (hu : Upd wr w' (some R) (some R)) (hr : SrAt w' R tx s') : Itjo w R tx s0 V B kd sn ns is nv iv xs s' w' := by
  have hR := h.h0.lt
  have hk : ∀ b, b < wr.heap.size → w.heap.size ≤ b → w'.heap[b]? = wr.heap[b]? := fun b hb hw => hu.block hb (fun e => by have := Option.some.inj e; omega)
  refine ⟨h.h0, hr, h.upd.trans hu, h.hV, (hk V h.vlt h.hV.1).trans h.blk, h.seen.kept hu (fun e => by have := Option.some.inj e; have := h.hV; omega), Row.kept h.nrow hu ?_, Row.kept h.irow hu ?_, h.nf, h.fi, h.reps.kept fun b hb ho => ⟨ho, hk b hb ho.1⟩⟩
  · exact .inr fun e => by have := (h.nf R e).1; omega
  · exact .inr fun e => by have := (h.fi R e).1; omega
/-- nothing has turned -/
theorem Itjo.below (h : Itjo w R tx s0 V B kd sn ns is nv iv xs s wr) {w' : World} (hb : Below wr.heap.size wr w') : Itjo w R tx s0 V B kd sn ns is nv iv xs s w' :=
  h.move (Upd.of_below hb _) (h.rd.below hb)
/-- the map has seen one more -/
theorem Itjo.mark (h : Itjo w R tx s0 V B kd sn ns is nv iv xs s wr) {w' : World} {sn' : List ByteArray} (hs : SeenAt w' B sn') (hu : Upd wr w' (some B) (some B)) : Itjo w R tx s0 V B kd sn' ns is nv iv xs s w' := by
  have hR := h.h0.lt
  have hV := h.hV
  have hb : Below w.heap.size wr w' := hu.below h.upd.grown.size (fun g hg => by have := Option.some.inj hg; omega)
  have hU := h.upd.trans_below hb
  have hk : ∀ b, b < wr.heap.size → b ≠ B → w'.heap[b]? = wr.heap[b]? := fun b hb hne => hu.block hb (fun e => hne (Option.some.inj e).symm)
  refine ⟨h.h0, h.rd.after (hb.block R hR), hU, h.hV, (hk V h.vlt hV.2.1).trans h.blk, hs, Row.kept h.nrow hu ?_, Row.kept h.irow hu ?_, h.nf, h.fi, h.reps.kept fun b hb ho => ⟨ho, hk b hb ho.2.2.1⟩⟩
  · exact .inr fun e => (h.nf B e).2.2.1 rfl
  · exact .inr fun e => (h.fi B e).2.2 rfl
/-- what lies at V, behind a row's growth -/
theorem Itjo.at (h : Itjo w R tx s0 V B kd sn ns is nv iv xs s wr) {w1 w2 : World} {r r' : Option Nat} (hb : Below wr.heap.size wr w1) (hu : Upd w1 w2 r r') (hr : r ≠ some V) : w2.heap[V]? = some (.cells #[.int .i64 kd, .int .i64 0, .string ⟨#[]⟩, nv, iv] 28 (0, 0)) :=
  (hu.block (Nat.lt_of_lt_of_le h.vlt hb.size) hr).trans ((hb.block V h.vlt).trans h.blk)
/-- a name more -/
theorem Itjo.name (h : Itjo w R tx s0 V B kd sn ns is nv iv xs s wr) {w1 w2 : World} {nv' : Value} {x : ByteArray} (hb : Below wr.heap.size wr w1) (hrow : Row w2 9 1 nv' (ns.length + 1) (ns.map Value.string ++ [.string x])) (hu : Upd w1 w2 nv.ownBlock nv'.ownBlock) :
    Itjo w R tx s0 V B kd sn (ns ++ [x]) is nv' iv xs s (w2.setCell ⟨V, 3, none⟩ nv') := by
  have hR := h.h0.lt
  have hV := h.hV
  have hvl := h.vlt
  have hsz := hb.size
  have hsz2 := hu.grown.size
  have hgs := h.upd.grown.size
  have hnV : nv.ownBlock ≠ some V := fun e => (h.nf V e).2.1 rfl
  have hat := h.at hb hu hnV
  have hn' : ∀ g, nv'.ownBlock = some g → nv.ownBlock = some g ∨ w1.heap.size ≤ g := fun g hg => by
    rcases hu.own with e | ⟨g', e, hg'⟩
    · left; rw [← e]; exact hg
    · right; rw [e] at hg; rw [← Option.some.inj hg]; exact hg'
  have hb2 : Below w.heap.size wr w2 := (hb.mono hgs).trans (hu.below (by omega) (fun g hg => (h.nf g hg).1))
  have hb3 : Below w.heap.size wr (w2.setCell ⟨V, 3, none⟩ nv') := hb2.setCell hV.1 _
  have hU := h.upd.trans_below hb3
  have hk : ∀ b, b < wr.heap.size → b ≠ V → nv.ownBlock ≠ some b → (w2.setCell ⟨V, 3, none⟩ nv').heap[b]? = wr.heap[b]? := fun b hbl hne hno => by
    rw [heap_setCell_other _ _ _ _ hne]; exact (hu.block (by omega) hno).trans (hb.block b hbl)
  have hBlt := h.seen.lt
  refine ⟨h.h0, h.rd.after (hb3.block R hR), hU, h.hV, ?_, ?_, ?_, ?_, ?_, h.fi, ?_⟩
  · exact heap_setCell_same w2 V 3 _ _ nv' hat
  · obtain ⟨m, D, ho, h1⟩ := h.seen
    obtain ⟨es, clock, hBb, rest⟩ := ho
    exact ⟨m, D, ⟨es, clock, (hk B hBlt (fun e => hV.2.1 e.symm) (fun e => (h.nf B e).2.2.1 rfl)).trans hBb, rest⟩, h1⟩
  · rw [List.length_append, List.map_append]
    refine Row.kept hrow (Upd.of_setCell w2 ⟨V, 3, none⟩ nv') ?_
    cases e : nv'.ownBlock with
    | none => exact .inl rfl
    | some g =>
      right; intro e2
      have hgV : g = V := Option.some.inj e2
      rcases hn' g e with h1 | h1
      · exact (h.nf g h1).2.1 hgV
      · omega
  · have h1 : Row w2 28 5 iv is.length xs := Row.kept (h.irow.below hb) hu (by
      cases e : iv.ownBlock with
      | none => exact .inl rfl
      | some g => right; intro e2; exact (h.nf g e2.symm).2.2.2 e)
    refine Row.kept h1 (Upd.of_setCell w2 ⟨V, 3, none⟩ nv') ?_
    exact .inr fun e => (h.fi V e).2.1 rfl
  · intro g hg
    rcases hn' g hg with h1 | h1
    · exact h.nf g h1
    · exact ⟨by omega, by omega, by omega, fun e => by have := h.irow.lt e; omega⟩
  · refine h.reps.kept fun b hbl ho => ⟨⟨ho.1, ho.2.1, ho.2.2.1, fun e => ?_, ho.2.2.2.2⟩, hk b hbl ho.2.1 ho.2.2.2.1⟩
    rcases hn' b e with h1 | h1
    · exact ho.2.2.2.1 h1
    · omega
/-- an item more: a tree of memory made since the world w9 -/
theorem Itjo.item (h : Itjo w R tx s0 V B kd sn ns is nv iv xs s wr) {w9 w1 w2 : World} {iv' : Value} {t : JV} {cs : List Value} {s9 : St} (h9 : Itjo w R tx s0 V B kd sn ns is nv iv xs s9 w9) (hu9 : Upd w9 wr (some R) (some R)) (ht : RepO wr (fun b => w9.heap.size ≤ b) t cs) (hb : Below wr.heap.size wr w1)
    (hrow : Row w2 28 5 iv' (is.length + 1) (xs ++ cs)) (hu : Upd w1 w2 iv.ownBlock iv'.ownBlock) :
    Itjo w R tx s0 V B kd sn ns (is ++ [t]) nv iv' (xs ++ cs) s (w2.setCell ⟨V, 4, none⟩ iv') := by
  have hR := h.h0.lt
  have hV := h.hV
  have hvl := h.vlt
  have hv9 := h9.vlt
  have hB9 := h9.seen.lt
  have hsz := hb.size
  have hsz2 := hu.grown.size
  have hgs := h.upd.grown.size
  have hg9 := h9.upd.grown.size
  have hiV : iv.ownBlock ≠ some V := fun e => (h.fi V e).2.1 rfl
  have hat := h.at hb hu hiV
  have hi' : ∀ g, iv'.ownBlock = some g → iv.ownBlock = some g ∨ w1.heap.size ≤ g := fun g hg => by
    rcases hu.own with e | ⟨g', e, hg'⟩
    · left; rw [← e]; exact hg
    · right; rw [e] at hg; rw [← Option.some.inj hg]; exact hg'
  have hb2 : Below w.heap.size wr w2 := (hb.mono hgs).trans (hu.below (by omega) (fun g hg => (h.fi g hg).1))
  have hb3 : Below w.heap.size wr (w2.setCell ⟨V, 4, none⟩ iv') := hb2.setCell hV.1 _
  have hU := h.upd.trans_below hb3
  have hk : ∀ b, b < wr.heap.size → b ≠ V → iv.ownBlock ≠ some b → (w2.setCell ⟨V, 4, none⟩ iv').heap[b]? = wr.heap[b]? := fun b hbl hne hno => by
    rw [heap_setCell_other _ _ _ _ hne]; exact (hu.block (by omega) hno).trans (hb.block b hbl)
  have hBlt := h.seen.lt
  have hkeep : ∀ b, b < wr.heap.size → (w.heap.size ≤ b ∧ b ≠ V ∧ b ≠ B ∧ nv.ownBlock ≠ some b ∧ iv.ownBlock ≠ some b) → (w.heap.size ≤ b ∧ b ≠ V ∧ b ≠ B ∧ nv.ownBlock ≠ some b ∧ iv'.ownBlock ≠ some b) ∧ (w2.setCell ⟨V, 4, none⟩ iv').heap[b]? = wr.heap[b]? := fun b hbl ho => by
    refine ⟨⟨ho.1, ho.2.1, ho.2.2.1, ho.2.2.2.1, fun e => ?_⟩, hk b hbl ho.2.1 ho.2.2.2.2⟩
    rcases hi' b e with h1 | h1
    · exact ho.2.2.2.2 h1
    · omega
  refine ⟨h.h0, h.rd.after (hb3.block R hR), hU, h.hV, ?_, ?_, ?_, ?_, ?_, ?_, ?_⟩
  · exact heap_setCell_same w2 V 4 _ _ iv' hat
  · obtain ⟨m, D, ho, h1⟩ := h.seen
    obtain ⟨es, clock, hBb, rest⟩ := ho
    exact ⟨m, D, ⟨es, clock, (hk B hBlt (fun e => hV.2.1 e.symm) (fun e => (h.fi B e).2.2 rfl)).trans hBb, rest⟩, h1⟩
  · have h1 : Row w2 9 1 nv ns.length (ns.map Value.string) := Row.kept (h.nrow.below hb) hu (by
      cases e : nv.ownBlock with
      | none => exact .inl rfl
      | some g => right; intro e2; exact (h.nf g e).2.2.2 e2.symm)
    refine Row.kept h1 (Upd.of_setCell w2 ⟨V, 4, none⟩ iv') ?_
    exact .inr fun e => (h.nf V e).2.1 rfl
  · rw [List.length_append]
    refine Row.kept hrow (Upd.of_setCell w2 ⟨V, 4, none⟩ iv') ?_
    cases e : iv'.ownBlock with
    | none => exact .inl rfl
    | some g =>
      right; intro e2
      have hgV : g = V := Option.some.inj e2
      rcases hi' g e with h1 | h1
      · exact (h.fi g h1).2.1 hgV
      · omega
  · intro g hg
    have h1 := h.nf g hg
    refine ⟨h1.1, h1.2.1, h1.2.2.1, fun e => ?_⟩
    rcases hi' g e with h2 | h2
    · exact h1.2.2.2 h2
    · have := h.nrow.lt hg; omega
  · intro g hg
    rcases hi' g hg with h1 | h1
    · exact h.fi g h1
    · exact ⟨by omega, by omega, by omega⟩
  · refine RepsO.snoc w9.heap.size (RepO.kept (fun b hbl hbw => ?_) t cs ht) ((h9.reps.lt (Nat.le_refl _)).kept fun b hbl ho => ?_)
    · have := hkeep b hbl ⟨by omega, by omega, by omega, fun e => by have := h9.nrow.lt e; omega, fun e => by have := h9.irow.lt e; omega⟩
      exact ⟨⟨hbw, this.1⟩, this.2⟩
    · have hbr : b ≠ R := by have := ho.2.1; have := h.h0.lt; omega
      have h2 := hu9.block (k := b) hbl (fun e => hbr (Option.some.inj e).symm)
      have := hkeep b (Nat.lt_of_lt_of_le hbl hu9.grown.size) ho.2
      exact ⟨⟨ho.1, this.1⟩, this.2.trans h2⟩
/-- the value is whole -/
theorem Itjo.done (h : Itjo w R tx s0 V B kd sn ns is nv iv xs s wr) (hk : -9223372036854775808 ≤ kd ∧ kd ≤ 9223372036854775807) :
    ∃ an cn ai ci, nv = .slice an ns.length cn ∧ iv = .slice ai is.length ci ∧ RepO wr (fun b => w.heap.size ≤ b ∧ b ≠ V) (.mk kd 0 ⟨#[]⟩ ns is) [.int .i64 kd, .int .i64 0, .string ⟨#[]⟩, .slice an ns.length cn, .slice ai is.length ci] := repO_mk hk h.nrow h.irow (h.reps.kept fun _ _ hb => ⟨⟨⟨hb.1, hb.2.1⟩, hb.2.2.2.1, hb.2.2.2.2⟩, rfl⟩) (fun g hg => ⟨⟨(h.nf g hg).1, (h.nf g hg).2.1⟩, (h.nf g hg).2.2.2⟩) (fun g hg => ⟨(h.fi g hg).1, (h.fi g hg).2.1⟩)
end
end Go.Proofs.YtbkbokfegjodnaaDoor
namespace Go.Proofs.YtbkbokfegjodnaaDoor
open Go.RowKit
/-- Since the world w: a reader R of the text tx is at s; the value at V has the names ns in nv, the items is in iv. -/
structure Itko (w : World) (R : Nat) (tx : ByteArray) (s0 : St) (V : Nat) (kd : Int) (ns : List ByteArray) (is : List JV) (nv iv : Value) (xs : List Value) (s : St) (wr : World) : Prop where
  h0 : SrAt w R tx s0
  rd : SrAt wr R tx s
  upd : Upd w wr (some R) (some R)
  hV : w.heap.size ≤ V
  blk : wr.heap[V]? = some (.cells #[.int .i64 kd, .int .i64 0, .string ⟨#[]⟩, nv, iv] 28 (0, 0))
  nrow : Row wr 9 1 nv ns.length (ns.map Value.string)
  irow : Row wr 28 5 iv is.length xs
  nf : ∀ g, nv.ownBlock = some g → w.heap.size ≤ g ∧ g ≠ V ∧ iv.ownBlock ≠ some g
  fi : ∀ g, iv.ownBlock = some g → w.heap.size ≤ g ∧ g ≠ V
  reps : RepsO wr (fun b => w.heap.size ≤ b ∧ b ≠ V ∧ nv.ownBlock ≠ some b ∧ iv.ownBlock ≠ some b) is xs
section
variable {w : World} {R : Nat} {tx : ByteArray} {s0 : St} {V : Nat} {kd : Int} {ns : List ByteArray} {is : List JV} {nv iv : Value} {xs : List Value} {s : St} {wr : World}
theorem Itko.vlt (h : Itko w R tx s0 V kd ns is nv iv xs s wr) : V < wr.heap.size := by
  rcases Nat.lt_or_ge V wr.heap.size with hlt | hge
  · exact hlt
  · have := h.blk; rw [Array.getElem?_eq_none hge] at this; cases this
/-- the reader has gone on -/
theorem Itko.move (h : Itko w R tx s0 V kd ns is nv iv xs s wr) {w' : World} {s' : St} (hu : Upd wr w' (some R) (some R)) (hr : SrAt w' R tx s') : Itko w R tx s0 V kd ns is nv iv xs s' w' := by
  have hR := h.h0.lt
  have hk : ∀ b, b < wr.heap.size → w.heap.size ≤ b → w'.heap[b]? = wr.heap[b]? := fun b hb hw => hu.block hb (fun e => by have := Option.some.inj e; omega)
  refine ⟨h.h0, hr, h.upd.trans hu, h.hV, (hk V h.vlt h.hV).trans h.blk, Row.kept h.nrow hu ?_, Row.kept h.irow hu ?_, h.nf, h.fi, h.reps.kept fun b hb ho => ⟨ho, hk b hb ho.1⟩⟩
  · exact .inr fun e => by have := (h.nf R e).1; omega
  · exact .inr fun e => by have := (h.fi R e).1; omega
/-- nothing has turned -/
theorem Itko.below (h : Itko w R tx s0 V kd ns is nv iv xs s wr) {w' : World} (hb : Below wr.heap.size wr w') : Itko w R tx s0 V kd ns is nv iv xs s w' :=
  h.move (Upd.of_below hb _) (h.rd.below hb)
/-- what lies at V, behind a row's growth -/
theorem Itko.at (h : Itko w R tx s0 V kd ns is nv iv xs s wr) {w1 w2 : World} {r r' : Option Nat} (hb : Below wr.heap.size wr w1) (hu : Upd w1 w2 r r') (hr : r ≠ some V) : w2.heap[V]? = some (.cells #[.int .i64 kd, .int .i64 0, .string ⟨#[]⟩, nv, iv] 28 (0, 0)) :=
  (hu.block (Nat.lt_of_lt_of_le h.vlt hb.size) hr).trans ((hb.block V h.vlt).trans h.blk)
/-- a name's cell -/
theorem Itko.nameAt (h : Itko w R tx s0 V kd ns is nv iv xs s wr) {j : Nat} (hj : j < ns.length) : ∃ g c, nv = .slice (some ⟨g, 0, none⟩) ns.length c ∧ (ns.length ≤ c ∧ c ≤ maxLen) ∧ wr.cell? ⟨g, j, none⟩ = some (.string ns[j]) := by
  obtain ⟨a, c, hv, h1, h2, h3⟩ := h.nrow.form
  rcases h3 with ⟨_, h3, _⟩ | ⟨g, ha, _, _, hl⟩
  · omega
  · refine ⟨g, c, by rw [hv, ha], ⟨h1, h2⟩, ?_⟩
    have := hl j (.string ns[j]) (by simp [hj])
    rw [Nat.zero_add] at this
    exact this
theorem Itko.nsl (h : Itko w R tx s0 V kd ns is nv iv xs s wr) : ∃ a c, nv = .slice a ns.length c := by
  obtain ⟨a, c, hv, _⟩ := h.nrow.form
  exact ⟨a, c, hv⟩
/-- a name more -/
theorem Itko.name (h : Itko w R tx s0 V kd ns is nv iv xs s wr) {w1 w2 : World} {nv' : Value} {x : ByteArray} (hb : Below wr.heap.size wr w1) (hrow : Row w2 9 1 nv' (ns.length + 1) (ns.map Value.string ++ [.string x])) (hu : Upd w1 w2 nv.ownBlock nv'.ownBlock) :
    Itko w R tx s0 V kd (ns ++ [x]) is nv' iv xs s (w2.setCell ⟨V, 3, none⟩ nv') := by
  have hR := h.h0.lt
  have hV := h.hV
  have hvl := h.vlt
  have hsz := hb.size
  have hsz2 := hu.grown.size
  have hgs := h.upd.grown.size
  have hnV : nv.ownBlock ≠ some V := fun e => (h.nf V e).2.1 rfl
  have hat := h.at hb hu hnV
  have hn' : ∀ g, nv'.ownBlock = some g → nv.ownBlock = some g ∨ w1.heap.size ≤ g := fun g hg => by
    rcases hu.own with e | ⟨g', e, hg'⟩
    · left; rw [← e]; exact hg
    · right; rw [e] at hg; rw [← Option.some.inj hg]; exact hg'
  have hb2 : Below w.heap.size wr w2 := (hb.mono hgs).trans (hu.below (by omega) (fun g hg => (h.nf g hg).1))
  have hb3 : Below w.heap.size wr (w2.setCell ⟨V, 3, none⟩ nv') := hb2.setCell hV _
  have hU := h.upd.trans_below hb3
  have hk : ∀ b, b < wr.heap.size → b ≠ V → nv.ownBlock ≠ some b → (w2.setCell ⟨V, 3, none⟩ nv').heap[b]? = wr.heap[b]? := fun b hbl hne hno => by
    rw [heap_setCell_other _ _ _ _ hne]; exact (hu.block (by omega) hno).trans (hb.block b hbl)
  refine ⟨h.h0, h.rd.after (hb3.block R hR), hU, h.hV, ?_, ?_, ?_, ?_, h.fi, ?_⟩
  · exact heap_setCell_same w2 V 3 _ _ nv' hat
  · rw [List.length_append, List.map_append]
    refine Row.kept hrow (Upd.of_setCell w2 ⟨V, 3, none⟩ nv') ?_
    cases e : nv'.ownBlock with
    | none => exact .inl rfl
    | some g =>
      right; intro e2
      have hgV : g = V := Option.some.inj e2
      rcases hn' g e with h1 | h1
      · exact (h.nf g h1).2.1 hgV
      · omega
  · have h1 : Row w2 28 5 iv is.length xs := Row.kept (h.irow.below hb) hu (by
      cases e : iv.ownBlock with
      | none => exact .inl rfl
      | some g => right; intro e2; exact (h.nf g e2.symm).2.2 e)
    refine Row.kept h1 (Upd.of_setCell w2 ⟨V, 3, none⟩ nv') ?_
    exact .inr fun e => (h.fi V e).2 rfl
  · intro g hg
    rcases hn' g hg with h1 | h1
    · exact h.nf g h1
    · exact ⟨by omega, by omega, fun e => by have := h.irow.lt e; omega⟩
  · refine h.reps.kept fun b hbl ho => ⟨⟨ho.1, ho.2.1, fun e => ?_, ho.2.2.2⟩, hk b hbl ho.2.1 ho.2.2.1⟩
    rcases hn' b e with h1 | h1
    · exact ho.2.2.1 h1
    · omega
/-- an item more: a tree of memory made since the world w9 -/
theorem Itko.item (h : Itko w R tx s0 V kd ns is nv iv xs s wr) {w9 w1 w2 : World} {iv' : Value} {t : JV} {cs : List Value} {s9 : St} (h9 : Itko w R tx s0 V kd ns is nv iv xs s9 w9) (hu9 : Upd w9 wr (some R) (some R)) (ht : RepO wr (fun b => w9.heap.size ≤ b) t cs) (hb : Below wr.heap.size wr w1)
    (hrow : Row w2 28 5 iv' (is.length + 1) (xs ++ cs)) (hu : Upd w1 w2 iv.ownBlock iv'.ownBlock) :
    Itko w R tx s0 V kd ns (is ++ [t]) nv iv' (xs ++ cs) s (w2.setCell ⟨V, 4, none⟩ iv') := by
  have hR := h.h0.lt
  have hV := h.hV
  have hvl := h.vlt
  have hv9 := h9.vlt
  have hsz := hb.size
  have hsz2 := hu.grown.size
  have hgs := h.upd.grown.size
  have hg9 := h9.upd.grown.size
  have hiV : iv.ownBlock ≠ some V := fun e => (h.fi V e).2 rfl
  have hat := h.at hb hu hiV
  have hi' : ∀ g, iv'.ownBlock = some g → iv.ownBlock = some g ∨ w1.heap.size ≤ g := fun g hg => by
    rcases hu.own with e | ⟨g', e, hg'⟩
    · left; rw [← e]; exact hg
    · right; rw [e] at hg; rw [← Option.some.inj hg]; exact hg'
  have hb2 : Below w.heap.size wr w2 := (hb.mono hgs).trans (hu.below (by omega) (fun g hg => (h.fi g hg).1))
  have hb3 : Below w.heap.size wr (w2.setCell ⟨V, 4, none⟩ iv') := hb2.setCell hV _
  have hU := h.upd.trans_below hb3
  have hk : ∀ b, b < wr.heap.size → b ≠ V → iv.ownBlock ≠ some b → (w2.setCell ⟨V, 4, none⟩ iv').heap[b]? = wr.heap[b]? := fun b hbl hne hno => by
    rw [heap_setCell_other _ _ _ _ hne]; exact (hu.block (by omega) hno).trans (hb.block b hbl)
  have hkeep : ∀ b, b < wr.heap.size → (w.heap.size ≤ b ∧ b ≠ V ∧ nv.ownBlock ≠ some b ∧ iv.ownBlock ≠ some b) → (w.heap.size ≤ b ∧ b ≠ V ∧ nv.ownBlock ≠ some b ∧ iv'.ownBlock ≠ some b) ∧ (w2.setCell ⟨V, 4, none⟩ iv').heap[b]? = wr.heap[b]? := fun b hbl ho => by
    refine ⟨⟨ho.1, ho.2.1, ho.2.2.1, fun e => ?_⟩, hk b hbl ho.2.1 ho.2.2.2⟩
    rcases hi' b e with h1 | h1
    · exact ho.2.2.2 h1
    · omega
  refine ⟨h.h0, h.rd.after (hb3.block R hR), hU, h.hV, ?_, ?_, ?_, ?_, ?_, ?_⟩
  · exact heap_setCell_same w2 V 4 _ _ iv' hat
  · have h1 : Row w2 9 1 nv ns.length (ns.map Value.string) := Row.kept (h.nrow.below hb) hu (by
      cases e : nv.ownBlock with
      | none => exact .inl rfl
      | some g => right; intro e2; exact (h.nf g e).2.2 e2.symm)
    refine Row.kept h1 (Upd.of_setCell w2 ⟨V, 4, none⟩ iv') ?_
    exact .inr fun e => (h.nf V e).2.1 rfl
  · rw [List.length_append]
    refine Row.kept hrow (Upd.of_setCell w2 ⟨V, 4, none⟩ iv') ?_
    cases e : iv'.ownBlock with
    | none => exact .inl rfl
    | some g =>
      right; intro e2
      have hgV : g = V := Option.some.inj e2
      rcases hi' g e with h1 | h1
      · exact (h.fi g h1).2 hgV
      · omega
  · intro g hg
    have h1 := h.nf g hg
    refine ⟨h1.1, h1.2.1, fun e => ?_⟩
    rcases hi' g e with h2 | h2
    · exact h1.2.2 h2
    · have := h.nrow.lt hg; omega
  · intro g hg
    rcases hi' g hg with h1 | h1
    · exact h.fi g h1
    · exact ⟨by omega, by omega⟩
  · refine RepsO.snoc w9.heap.size (RepO.kept (fun b hbl hbw => ?_) t cs ht) ((h9.reps.lt (Nat.le_refl _)).kept fun b hbl ho => ?_)
    · have := hkeep b hbl ⟨by omega, by omega, fun e => by have := h9.nrow.lt e; omega, fun e => by have := h9.irow.lt e; omega⟩
      exact ⟨⟨hbw, this.1⟩, this.2⟩
    · have hbr : b ≠ R := by have := ho.2.1; have := h.h0.lt; omega
      have h2 := hu9.block (k := b) hbl (fun e => hbr (Option.some.inj e).symm)
      have := hkeep b (Nat.lt_of_lt_of_le hbl hu9.grown.size) ho.2
      exact ⟨⟨ho.1, this.1⟩, this.2.trans h2⟩
/-- the value is whole -/
theorem Itko.done (h : Itko w R tx s0 V kd ns is nv iv xs s wr) (hk : -9223372036854775808 ≤ kd ∧ kd ≤ 9223372036854775807) :
    ∃ an cn ai ci, nv = .slice an ns.length cn ∧ iv = .slice ai is.length ci ∧ RepO wr (fun b => w.heap.size ≤ b ∧ b ≠ V) (.mk kd 0 ⟨#[]⟩ ns is) [.int .i64 kd, .int .i64 0, .string ⟨#[]⟩, .slice an ns.length cn, .slice ai is.length ci] := repO_mk hk h.nrow h.irow (h.reps.kept fun _ _ hb => ⟨⟨⟨hb.1, hb.2.1⟩, hb.2.2.1, hb.2.2.2⟩, rfl⟩) (fun g hg => ⟨⟨(h.nf g hg).1, (h.nf g hg).2.1⟩, (h.nf g hg).2.2⟩) (fun g hg => ⟨(h.fi g hg).1, (h.fi g hg).2⟩)
end
end Go.Proofs.YtbkbokfegjodnaaDoor
