/- The walks of the reader's items, value and of FromBytes. Conditions: the tables of package utf8 lie as their texts lay them; there are less than 2 to the 40 bytes. -/
import Derived.Test.YtjmhoccikbgigaaDoorCopyl
import Derived.Test.YtjmhoccikbgigaaDoorRdl
import Derived.Test.YtjmhoccikbgigaaDoorSeen
import Derived.Test.YtjmhoccikbgigaaDoorRdtext
import Derived.Deep.RegionLaw
import Derived.Test.YtjmhoccikbgigaaDoorParse
namespace Go.Proofs.YtjmhoccikbgigaaDoor
open Go.RowKit
/-- Since the world w: a reader R of bs is at s; the value at V has the names ns in nv, the items is in iv; the map at B has seen sn. -/
structure Its (w : World) (R : Nat) (A : Option Addr) (cap : Nat) (bs : List UInt8) (s0 : St) (V B : Nat) (kd : Int) (sn ns : List ByteArray) (is : List JV) (nv iv : Value) (xs : List Value) (s : St) (wr : World) : Prop where
  h0 : RdAt w R A cap bs s0
  rd : RdAt wr R A cap bs s
  upd : Upd w wr (some R) (some R)
  hV : w.heap.size ≤ V ∧ V ≠ B ∧ w.heap.size ≤ B
  blk : wr.heap[V]? = some (.cells #[.int .i64 kd, .int .i64 0, .string ⟨#[]⟩, nv, iv] 28 (0, 0))
  seen : SeenAt wr B sn
  nrow : Row wr 9 1 nv ns.length (ns.map Value.string)
  irow : Row wr 28 5 iv is.length xs
  nf : ∀ g, nv.ownBlock = some g → w.heap.size ≤ g ∧ g ≠ V ∧ g ≠ B ∧ iv.ownBlock ≠ some g
  fi : ∀ g, iv.ownBlock = some g → w.heap.size ≤ g ∧ g ≠ V ∧ g ≠ B
  reps : Reps wr (fun b => w.heap.size ≤ b ∧ b ≠ V ∧ b ≠ B ∧ nv.ownBlock ≠ some b ∧ iv.ownBlock ≠ some b) is xs
section
variable {w : World} {R : Nat} {A : Option Addr} {cap : Nat} {bs : List UInt8} {s0 : St} {V B : Nat} {kd : Int} {sn ns : List ByteArray} {is : List JV} {nv iv : Value} {xs : List Value} {s : St} {wr : World}
theorem Its.vlt (h : Its w R A cap bs s0 V B kd sn ns is nv iv xs s wr) : V < wr.heap.size := by
  rcases Nat.lt_or_ge V wr.heap.size with hlt | hge
  · exact hlt
  · have := h.blk; rw [Array.getElem?_eq_none hge] at this; cases this
/-- the reader has gone on -/
theorem Its.move (h : Its w R A cap bs s0 V B kd sn ns is nv iv xs s wr) {w' : World} {s' : St} (hu : Upd wr w' (some R) (some R)) (hr : RdAt w' R A cap bs s') : Its w R A cap bs s0 V B kd sn ns is nv iv xs s' w' := by
  have hR := h.h0.lt
  have hk : ∀ b, b < wr.heap.size → w.heap.size ≤ b → w'.heap[b]? = wr.heap[b]? := fun b hb hw => hu.block hb (fun e => by have := Option.some.inj e; omega)
  refine ⟨h.h0, hr, h.upd.trans hu, h.hV, (hk V h.vlt h.hV.1).trans h.blk, h.seen.kept hu (fun e => by have := Option.some.inj e; have := h.hV; omega), Row.kept h.nrow hu ?_, Row.kept h.irow hu ?_, h.nf, h.fi, h.reps.kept fun b hb ho => ⟨ho, hk b hb ho.1⟩⟩
  · exact .inr fun e => by have := (h.nf R e).1; omega
  · exact .inr fun e => by have := (h.fi R e).1; omega
/-- nothing has turned -/
theorem Its.below (h : Its w R A cap bs s0 V B kd sn ns is nv iv xs s wr) {w' : World} (hb : Below wr.heap.size wr w') : Its w R A cap bs s0 V B kd sn ns is nv iv xs s w' :=
  h.move (Upd.of_below hb _) (h.rd.below hb)
/-- the map has seen one more -/
theorem Its.mark (h : Its w R A cap bs s0 V B kd sn ns is nv iv xs s wr) {w' : World} {sn' : List ByteArray} (hs : SeenAt w' B sn') (hu : Upd wr w' (some B) (some B)) : Its w R A cap bs s0 V B kd sn' ns is nv iv xs s w' := by
  have hR := h.h0.lt
  have hV := h.hV
  have hb : Below w.heap.size wr w' := hu.below h.upd.grown.size (fun g hg => by have := Option.some.inj hg; omega)
  have hU := h.upd.trans_below hb
  have hk : ∀ b, b < wr.heap.size → b ≠ B → w'.heap[b]? = wr.heap[b]? := fun b hb hne => hu.block hb (fun e => hne (Option.some.inj e).symm)
  refine ⟨h.h0, h.h0.after hU h.rd (hb.block R hR), hU, h.hV, (hk V h.vlt hV.2.1).trans h.blk, hs, Row.kept h.nrow hu ?_, Row.kept h.irow hu ?_, h.nf, h.fi, h.reps.kept fun b hb ho => ⟨ho, hk b hb ho.2.2.1⟩⟩
  · exact .inr fun e => (h.nf B e).2.2.1 rfl
  · exact .inr fun e => (h.fi B e).2.2 rfl
/-- what lies at V, behind a row's growth -/
theorem Its.at (h : Its w R A cap bs s0 V B kd sn ns is nv iv xs s wr) {w1 w2 : World} {r r' : Option Nat} (hb : Below wr.heap.size wr w1) (hu : Upd w1 w2 r r') (hr : r ≠ some V) : w2.heap[V]? = some (.cells #[.int .i64 kd, .int .i64 0, .string ⟨#[]⟩, nv, iv] 28 (0, 0)) :=
  (hu.block (Nat.lt_of_lt_of_le h.vlt hb.size) hr).trans ((hb.block V h.vlt).trans h.blk)
/-- a name more -/
theorem Its.name (h : Its w R A cap bs s0 V B kd sn ns is nv iv xs s wr) {w1 w2 : World} {nv' : Value} {x : ByteArray} (hb : Below wr.heap.size wr w1) (hrow : Row w2 9 1 nv' (ns.length + 1) (ns.map Value.string ++ [.string x])) (hu : Upd w1 w2 nv.ownBlock nv'.ownBlock) :
    Its w R A cap bs s0 V B kd sn (ns ++ [x]) is nv' iv xs s (w2.setCell ⟨V, 3, none⟩ nv') := by
  have hR := h.h0.lt
  have hV := h.hV
  have hvl := h.vlt
  have hsz := hb.size
  have hsz2 := hu.grown.size
  have hgs := h.upd.grown.size
  have hnV : nv.ownBlock ≠ some V := fun e => (h.nf V e).2.1 rfl
  have hat := h.at hb hu hnV
  have hn' : ∀ g, nv'.ownBlock = some g → nv.ownBlock = some g ∨ w1.heap.size ≤ g := fun g hg => by
    rcases hu.own with e | ⟨g', e, hg'⟩
    · left; rw [← e]; exact hg
    · right; rw [e] at hg; rw [← Option.some.inj hg]; exact hg'
  have hb2 : Below w.heap.size wr w2 := (hb.mono hgs).trans (hu.below (by omega) (fun g hg => (h.nf g hg).1))
  have hb3 : Below w.heap.size wr (w2.setCell ⟨V, 3, none⟩ nv') := hb2.setCell hV.1 _
  have hU := h.upd.trans_below hb3
  have hk : ∀ b, b < wr.heap.size → b ≠ V → nv.ownBlock ≠ some b → (w2.setCell ⟨V, 3, none⟩ nv').heap[b]? = wr.heap[b]? := fun b hbl hne hno => by
    rw [heap_setCell_other _ _ _ _ hne]; exact (hu.block (by omega) hno).trans (hb.block b hbl)
  have hBlt := h.seen.lt
  refine ⟨h.h0, h.h0.after hU h.rd (hb3.block R hR), hU, h.hV, ?_, ?_, ?_, ?_, ?_, h.fi, ?_⟩
  · exact heap_setCell_same w2 V 3 _ _ nv' hat
  · obtain ⟨m, D, ho, h1⟩ := h.seen
    obtain ⟨es, clock, hBb, rest⟩ := ho
    exact ⟨m, D, ⟨es, clock, (hk B hBlt (fun e => hV.2.1 e.symm) (fun e => (h.nf B e).2.2.1 rfl)).trans hBb, rest⟩, h1⟩
  · rw [List.length_append, List.map_append]
    refine Row.kept hrow (Upd.of_setCell w2 ⟨V, 3, none⟩ nv') ?_
    cases e : nv'.ownBlock with
    | none => exact .inl rfl
    | some g =>
      right; intro e2
      have hgV : g = V := Option.some.inj e2
      rcases hn' g e with h1 | h1
      · exact (h.nf g h1).2.1 hgV
      · omega
  · have h1 : Row w2 28 5 iv is.length xs := Row.kept (h.irow.below hb) hu (by
      cases e : iv.ownBlock with
      | none => exact .inl rfl
      | some g => right; intro e2; exact (h.nf g e2.symm).2.2.2 e)
    refine Row.kept h1 (Upd.of_setCell w2 ⟨V, 3, none⟩ nv') ?_
    exact .inr fun e => (h.fi V e).2.1 rfl
  · intro g hg
    rcases hn' g hg with h1 | h1
    · exact h.nf g h1
    · exact ⟨by omega, by omega, by omega, fun e => by have := h.irow.lt e; omega⟩
  · refine h.reps.kept fun b hbl ho => ⟨⟨ho.1, ho.2.1, ho.2.2.1, fun e => ?_, ho.2.2.2.2⟩, hk b hbl ho.2.1 ho.2.2.2.1⟩
    rcases hn' b e with h1 | h1
    · exact ho.2.2.2.1 h1
    · omega
/-- an item more: a tree of memory made since the world w9 -/
theorem Its.item (h : Its w R A cap bs s0 V B kd sn ns is nv iv xs s wr) {w9 w1 w2 : World} {iv' : Value} {t : JV} {cs : List Value} {s9 : St} (h9 : Its w R A cap bs s0 V B kd sn ns is nv iv xs s9 w9) (ht : Rep wr (fun b => w9.heap.size ≤ b) t cs) (hb : Below wr.heap.size wr w1)
    (hrow : Row w2 28 5 iv' (is.length + 1) (xs ++ cs)) (hu : Upd w1 w2 iv.ownBlock iv'.ownBlock) :
    Its w R A cap bs s0 V B kd sn ns (is ++ [t]) nv iv' (xs ++ cs) s (w2.setCell ⟨V, 4, none⟩ iv') := by
  have hR := h.h0.lt
  have hV := h.hV
  have hvl := h.vlt
  have hv9 := h9.vlt
  have hB9 := h9.seen.lt
  have hsz := hb.size
  have hsz2 := hu.grown.size
  have hgs := h.upd.grown.size
  have hg9 := h9.upd.grown.size
  have hiV : iv.ownBlock ≠ some V := fun e => (h.fi V e).2.1 rfl
  have hat := h.at hb hu hiV
  have hi' : ∀ g, iv'.ownBlock = some g → iv.ownBlock = some g ∨ w1.heap.size ≤ g := fun g hg => by
    rcases hu.own with e | ⟨g', e, hg'⟩
    · left; rw [← e]; exact hg
    · right; rw [e] at hg; rw [← Option.some.inj hg]; exact hg'
  have hb2 : Below w.heap.size wr w2 := (hb.mono hgs).trans (hu.below (by omega) (fun g hg => (h.fi g hg).1))
  have hb3 : Below w.heap.size wr (w2.setCell ⟨V, 4, none⟩ iv') := hb2.setCell hV.1 _
  have hU := h.upd.trans_below hb3
  have hk : ∀ b, b < wr.heap.size → b ≠ V → iv.ownBlock ≠ some b → (w2.setCell ⟨V, 4, none⟩ iv').heap[b]? = wr.heap[b]? := fun b hbl hne hno => by
    rw [heap_setCell_other _ _ _ _ hne]; exact (hu.block (by omega) hno).trans (hb.block b hbl)
  have hBlt := h.seen.lt
  have hkeep : ∀ b, b < wr.heap.size → (w.heap.size ≤ b ∧ b ≠ V ∧ b ≠ B ∧ nv.ownBlock ≠ some b ∧ iv.ownBlock ≠ some b) → (w.heap.size ≤ b ∧ b ≠ V ∧ b ≠ B ∧ nv.ownBlock ≠ some b ∧ iv'.ownBlock ≠ some b) ∧ (w2.setCell ⟨V, 4, none⟩ iv').heap[b]? = wr.heap[b]? := fun b hbl ho => by
    refine ⟨⟨ho.1, ho.2.1, ho.2.2.1, ho.2.2.2.1, fun e => ?_⟩, hk b hbl ho.2.1 ho.2.2.2.2⟩
    rcases hi' b e with h1 | h1
    · exact ho.2.2.2.2 h1
    · omega
  refine ⟨h.h0, h.h0.after hU h.rd (hb3.block R hR), hU, h.hV, ?_, ?_, ?_, ?_, ?_, ?_, ?_⟩
  · exact heap_setCell_same w2 V 4 _ _ iv' hat
  · obtain ⟨m, D, ho, h1⟩ := h.seen
    obtain ⟨es, clock, hBb, rest⟩ := ho
    exact ⟨m, D, ⟨es, clock, (hk B hBlt (fun e => hV.2.1 e.symm) (fun e => (h.fi B e).2.2 rfl)).trans hBb, rest⟩, h1⟩
  · have h1 : Row w2 9 1 nv ns.length (ns.map Value.string) := Row.kept (h.nrow.below hb) hu (by
      cases e : nv.ownBlock with
      | none => exact .inl rfl
      | some g => right; intro e2; exact (h.nf g e).2.2.2 e2.symm)
    refine Row.kept h1 (Upd.of_setCell w2 ⟨V, 4, none⟩ iv') ?_
    exact .inr fun e => (h.nf V e).2.1 rfl
  · rw [List.length_append]
    refine Row.kept hrow (Upd.of_setCell w2 ⟨V, 4, none⟩ iv') ?_
    cases e : iv'.ownBlock with
    | none => exact .inl rfl
    | some g =>
      right; intro e2
      have hgV : g = V := Option.some.inj e2
      rcases hi' g e with h1 | h1
      · exact (h.fi g h1).2.1 hgV
      · omega
  · intro g hg
    have h1 := h.nf g hg
    refine ⟨h1.1, h1.2.1, h1.2.2.1, fun e => ?_⟩
    rcases hi' g e with h2 | h2
    · exact h1.2.2.2 h2
    · have := h.nrow.lt hg; omega
  · intro g hg
    rcases hi' g hg with h1 | h1
    · exact h.fi g h1
    · exact ⟨by omega, by omega, by omega⟩
  · refine Reps.snoc ?_ (h.reps.kept hkeep)
    refine Rep.kept (fun b hbl hbw => hkeep b hbl ?_) t cs ht
    exact ⟨by omega, by omega, by omega, fun e => by have := h9.nrow.lt e; omega, fun e => by have := h9.irow.lt e; omega⟩
/-- the value is whole -/
theorem Its.done (h : Its w R A cap bs s0 V B kd sn ns is nv iv xs s wr) (hk : -9223372036854775808 ≤ kd ∧ kd ≤ 9223372036854775807) :
    ∃ an cn ai ci, nv = .slice an ns.length cn ∧ iv = .slice ai is.length ci ∧ Rep wr (fun b => w.heap.size ≤ b ∧ b ≠ V) (.mk kd 0 ⟨#[]⟩ ns is) [.int .i64 kd, .int .i64 0, .string ⟨#[]⟩, .slice an ns.length cn, .slice ai is.length ci] := by
  obtain ⟨ai, ci, hv, hci, hit⟩ := h.irow.items (ok := fun b => w.heap.size ≤ b ∧ b ≠ V) (h.reps.kept fun b _ hb => ⟨⟨hb.1, hb.2.1⟩, rfl⟩) (fun g hg => ⟨(h.fi g hg).1, (h.fi g hg).2.1⟩)
  obtain ⟨an, cn, hn, hcn, hst⟩ := h.nrow.strs (ok := fun b => w.heap.size ≤ b ∧ b ≠ V) (fun g hg => ⟨(h.nf g hg).1, (h.nf g hg).2.1⟩)
  exact ⟨an, cn, ai, ci, hn, hv, rep_mk.2 ⟨hk, by omega, Nat.zero_le _, an, cn, ai, ci, rfl, hcn, hci, hst, hit⟩⟩
end
end Go.Proofs.YtjmhoccikbgigaaDoor
namespace Go.Proofs.YtjmhoccikbgigaaDoor
open Go.RowKit
/-- what reading a value answers -/
def ValPost (R : Nat) (A : Option Addr) (cap : Nat) (bs : List UInt8) (p : Nat) (w : World) (res : Res JV) (r : Ending) (w' : World) : Prop :=
  ∃ (t : JV) (an : Option Addr) (cn : Nat) (ai : Option Addr) (ci : Nat) (s' : St), r = .returned (.agg #[.int .i64 t.kind, .int .i64 t.int, .string t.text, .slice an t.names.length cn, .slice ai t.items.length ci]) ∧
    Rep w' (fun b => w.heap.size ≤ b) t [.int .i64 t.kind, .int .i64 t.int, .string t.text, .slice an t.names.length cn, .slice ai t.items.length ci] ∧ RdAt w' R A cap bs s' ∧ Upd w w' (some R) (some R) ∧ RdRes bs p res (fun a => t = a) s'
def ValSaid (bs : List UInt8) (k : Nat) : Prop := ∀ (R : Nat) (A : Option Addr) (cap p : Nat) (w : World), 2 ≤ R → RdAt w R A cap bs ⟨p, 0, 0⟩ → Lib.Utf8Tabs 0 1 w → ∀ (d : Int), d = 64 - k →
    Calls Tryd.prog 46 #[.pointer (some ⟨R, 0, none⟩), .int .i64 d] w (ValPost R A cap bs p w (pValue bs.length k (bs.drop p)))
theorem drop_at {bs : List UInt8} {p : Nat} (h : p ≤ bs.length) : bs.length - (bs.drop p).length = p := by rw [List.length_drop]; omega
theorem Mst_zero {bs : List UInt8} {q : Nat} : Mst bs ⟨q, 0, 0⟩ = bs.length - q + 1 := if_pos rfl
theorem Mst_bad {bs : List UInt8} {s : St} (h : s.err ≠ 0) : Mst bs s = 0 := if_neg h
/-- how far the items have come -/
def ItsAt (bs : List UInt8) (k : Nat) (o : Bool) (p : Nat) (res : Res JV) (sn ns : List ByteArray) (is : List JV) (s : St) : Prop :=
  ns.length + p ≤ s.pos + 1 ∧ is.length + p ≤ s.pos + 1 ∧ p ≤ s.pos ∧
    ((s = ⟨s.pos, 0, 0⟩ ∧ (o = true → sn = ns) ∧ ns.length + p ≤ s.pos ∧ is.length + p ≤ s.pos ∧ ∃ f, (bs.drop s.pos).length < f ∧ res = pItems bs.length (pValue bs.length k) o f (bs.drop s.pos) ns is) ∨ (s.err ≠ 0 ∧ res = .bad s.err s.place))
theorem itsAt_val {bs : List UInt8} {k : Nat} {o : Bool} {p : Nat} {res : Res JV} {sn ns : List ByteArray} {is : List JV} {q q' f : Nat} {t : JV} {s4 : St} (hsn : o = true → sn = ns) (hn : ns.length + p ≤ q') (hi : is.length + p + 1 ≤ q') (hqq : q < q') (hq' : q' ≤ bs.length) (hf : bs.length - q ≤ f)
    (hr : RdRes bs q' (pValue bs.length k (bs.drop q')) (fun a => t = a) s4) (hres : res = match pValue bs.length k (bs.drop q') with | .bad e pl => .bad e pl | .ok v r => pItems bs.length (pValue bs.length k) o f r ns (is ++ [v])) :
    ItsAt bs k o p res sn ns (is ++ [t]) s4 ∧ Mst bs s4 < Mst bs ⟨q, 0, 0⟩ := by
  rw [Mst_zero]
  cases hv : pValue bs.length k (bs.drop q') with
  | bad e pl =>
    rw [hv] at hr hres
    obtain ⟨h1, h2, h3, h4⟩ := hr
    have he : s4.err ≠ 0 := by rw [h1]; exact h3
    refine ⟨⟨by omega, by simp; omega, by omega, .inr ⟨he, by rw [hres, h1, h2]⟩⟩, by rw [Mst_bad he]; omega⟩
  | ok a r =>
    rw [hv] at hr hres
    obtain ⟨rfl, rfl, h3, h4⟩ := hr
    refine ⟨⟨by show _ ≤ bs.length - r.length + 1; omega, by show _ ≤ bs.length - r.length + 1; simp; omega, by show p ≤ bs.length - r.length; omega, .inl ⟨rfl, hsn, by show _ ≤ bs.length - r.length; omega, by show _ ≤ bs.length - r.length; simp; omega, f, ?_, ?_⟩⟩, by rw [Mst_zero]; omega⟩
    · show (bs.drop (bs.length - r.length)).length < f
      rw [← h4]; omega
    · show res = pItems _ _ _ _ (bs.drop (bs.length - r.length)) _ _
      rw [← h4]; exact hres
theorem itsAt_dup {bs : List UInt8} {k : Nat} {p : Nat} {res : Res JV} {sn ns : List ByteArray} {is : List JV} {q f : Nat} {x : ByteArray} {s2 : St} (hsn : sn = ns) (hn : ns.length + p ≤ q) (hi : is.length + p ≤ q) (hq : q < bs.length) (hB : hasB sn x = true)
    (hr : RdRes bs (q + 1) (pText bs.length (q + 1) (bs.drop (q + 1)) []) (fun l => x = ⟨l.toArray⟩) s2)
    (hres : res = match pText bs.length (q + 1) (bs.drop (q + 1)) [] with | .bad e pl => .bad e pl | .ok s r => if hasB ns ⟨s.toArray⟩ = true then .bad 16 (q + 1) else (match pValue bs.length k r with | .bad e pl => .bad e pl | .ok v r' => pItems bs.length (pValue bs.length k) true f r' (ns ++ [⟨s.toArray⟩]) (is ++ [v]))) :
    ItsAt bs k true p res (sn ++ [x]) (ns ++ [x]) is (s2.fail 16 (q + 1)) ∧ Mst bs (s2.fail 16 (q + 1)) < Mst bs ⟨q, 0, 0⟩ := by
  rw [Mst_zero]
  cases hv : pText bs.length (q + 1) (bs.drop (q + 1)) [] with
  | bad e pl =>
    rw [hv] at hr hres
    obtain ⟨h1, h2, h3, h4⟩ := hr
    have he : s2.err ≠ 0 := by rw [h1]; exact h3
    have hfl : s2.fail 16 (q + 1) = s2 := if_neg he
    rw [hfl]
    refine ⟨⟨by simp; omega, by omega, by omega, .inr ⟨he, by rw [hres, h1, h2]⟩⟩, by rw [Mst_bad he]; omega⟩
  | ok a r =>
    rw [hv] at hr hres
    obtain ⟨h1, rfl, h3, h4⟩ := hr
    have hfl : (⟨bs.length - r.length, 0, 0⟩ : St).fail 16 (q + 1) = ⟨bs.length - r.length, 16, q + 1⟩ := if_pos rfl
    rw [hfl]
    have hb2 : hasB ns ⟨a.toArray⟩ = true := by rw [← hsn, ← h1]; exact hB
    simp only [if_pos hb2] at hres
    refine ⟨⟨by show _ ≤ bs.length - r.length + 1; simp; omega, by show _ ≤ bs.length - r.length + 1; omega, by show p ≤ bs.length - r.length; omega, .inr ⟨by show (16 : Nat) ≠ 0; decide, hres⟩⟩, by rw [Mst_bad (show (16 : Nat) ≠ 0 by decide)]; omega⟩
theorem itsAt_tbad {bs : List UInt8} {k : Nat} {p : Nat} {res : Res JV} {sn ns : List ByteArray} {is : List JV} {q f : Nat} {x : ByteArray} {s2 : St} (hn : ns.length + p ≤ q) (hi : is.length + p ≤ q) (he : s2.err ≠ 0)
    (hr : RdRes bs (q + 1) (pText bs.length (q + 1) (bs.drop (q + 1)) []) (fun l => x = ⟨l.toArray⟩) s2)
    (hres : res = match pText bs.length (q + 1) (bs.drop (q + 1)) [] with | .bad e pl => .bad e pl | .ok s r => if hasB ns ⟨s.toArray⟩ = true then .bad 16 (q + 1) else (match pValue bs.length k r with | .bad e pl => .bad e pl | .ok v r' => pItems bs.length (pValue bs.length k) true f r' (ns ++ [⟨s.toArray⟩]) (is ++ [v]))) :
    ItsAt bs k true p res (sn ++ [x]) (ns ++ [x]) is s2 ∧ Mst bs s2 < Mst bs ⟨q, 0, 0⟩ := by
  rw [Mst_zero]
  cases hv : pText bs.length (q + 1) (bs.drop (q + 1)) [] with
  | bad e pl =>
    rw [hv] at hr hres
    obtain ⟨h1, h2, h3, h4⟩ := hr
    refine ⟨⟨by simp; omega, by omega, by omega, .inr ⟨he, by rw [hres, h1, h2]⟩⟩, by rw [Mst_bad he]; omega⟩
  | ok a r =>
    rw [hv] at hr
    obtain ⟨h1, rfl, h3, h4⟩ := hr
    exact absurd rfl he
theorem text_good {bs : List UInt8} {k : Nat} {res : Res JV} {sn ns : List ByteArray} {is : List JV} {q f : Nat} {x : ByteArray} {s2 : St} (hsn : sn = ns) (he : s2.err = 0) (hB : hasB sn x = false)
    (hr : RdRes bs (q + 1) (pText bs.length (q + 1) (bs.drop (q + 1)) []) (fun l => x = ⟨l.toArray⟩) s2)
    (hres : res = match pText bs.length (q + 1) (bs.drop (q + 1)) [] with | .bad e pl => .bad e pl | .ok s r => if hasB ns ⟨s.toArray⟩ = true then .bad 16 (q + 1) else (match pValue bs.length k r with | .bad e pl => .bad e pl | .ok v r' => pItems bs.length (pValue bs.length k) true f r' (ns ++ [⟨s.toArray⟩]) (is ++ [v]))) :
    ∃ q', s2 = ⟨q', 0, 0⟩ ∧ q + 1 < q' ∧ q' ≤ bs.length ∧ res = match pValue bs.length k (bs.drop q') with | .bad e pl => .bad e pl | .ok v r => pItems bs.length (pValue bs.length k) true f r (ns ++ [x]) (is ++ [v]) := by
  cases hv : pText bs.length (q + 1) (bs.drop (q + 1)) [] with
  | bad e pl =>
    rw [hv] at hr
    obtain ⟨h1, h2, h3, h4⟩ := hr
    exact absurd (h1.symm.trans he) h3
  | ok a r =>
    rw [hv] at hr hres
    obtain ⟨h1, rfl, h3, h4⟩ := hr
    have hb2 : ¬ hasB ns ⟨a.toArray⟩ = true := by rw [← hsn, ← h1, hB]; decide
    simp only [if_neg hb2] at hres
    refine ⟨bs.length - r.length, rfl, by omega, by omega, ?_⟩
    rw [← h4, h1]; exact hres
set_option maxRecDepth 20000 in
set_option maxHeartbeats 8000000 in
theorem rdItems5_c (bs : List UInt8) (hbs : bs.length < 1099511627776) (k : Nat) (hk : k < 64) (ih : ValSaid bs k) (R : Nat) (A : Option Addr) (cap p : Nat) (w : World) (hR : 2 ≤ R) (h : RdAt w R A cap bs ⟨p, 0, 0⟩) (hT : Lib.Utf8Tabs 0 1 w) (d : Int) (hd : d = 63 - k) :
    Calls Tryd.prog 69 #[.pointer (some ⟨R, 0, none⟩), .bool false, .int .i64 d] w (ValPost R A cap bs p w (pItems bs.length (pValue bs.length k) false ((bs.drop p).length + 1) (bs.drop p) [] [])) := by
  subst hd
  have hb1 : Below w.heap.size w (w.alloc (.cells #[.int .i64 0, .int .i64 0, .string ⟨#[]⟩, .slice none 0 0, .slice none 0 0] 28)) := (Below.refl _ _).alloc (Nat.le_refl _) _
  have HT := Lib.hid (utf8_below hT hb1)
  have hrd := h.below hb1
  have HH := Lib.hid h
  have HB1 := Lib.hid hb1
  have HIH := Lib.hid ih
  have hz0 := heap_alloc_new w (.cells #[.int .i64 0, .int .i64 0, .string ⟨#[]⟩, .slice none 0 0, .slice none 0 0] 28)
  have hR1 : R < (w.alloc (.cells #[.int .i64 0, .int .i64 0, .string ⟨#[]⟩, .slice none 0 0, .slice none 0 0] 28)).heap.size := hrd.lt
  have HZ0 := Lib.hid hz0
  have hpp := h.pos
  simp only at hpp
  have hrs : ∃ res, pItems bs.length (pValue bs.length k) false ((bs.drop p).length + 1) (bs.drop p) [] [] = res := ⟨_, rfl⟩
  obtain ⟨res, hres⟩ := hrs
  rw [hres]
  have HRES := Lib.hid hres
  clear hres
  clear hT h hb1 ih hz0
  generalize hw1 : (w.alloc (.cells #[.int .i64 0, .int .i64 0, .string ⟨#[]⟩, .slice none 0 0, .slice none 0 0] 28)) = w1 at *
  have hs1 : w1.heap.size = w.heap.size + 1 := by rw [← hw1]; simp
  have HS1 := Lib.hid hs1
  have hbV : Below w1.heap.size w1 (w1.alloc (.cells #[.int .i64 5, .int .i64 0, .string ⟨#[]⟩, .slice none 0 0, .slice none 0 0] 28)) := (Below.refl _ _).alloc (Nat.le_refl _) _
  have hzV := heap_alloc_new w1 (.cells #[.int .i64 5, .int .i64 0, .string ⟨#[]⟩, .slice none 0 0, .slice none 0 0] 28)
  obtain ⟨⟨v0, v1, v2, v3, v4⟩, g0, g1, g2, g3, g4⟩ := cellsOf5 hzV
  have START := Lib.hid (show Its w1 R A cap bs ⟨p, 0, 0⟩ w1.heap.size (w1.heap.size + 1) 5 [] [] [] (.slice none 0 0) (.slice none 0 0) [] ⟨p, 0, 0⟩ ((w1.alloc (.cells #[.int .i64 5, .int .i64 0, .string ⟨#[]⟩, .slice none 0 0, .slice none 0 0] 28)).alloc (.map #[] 0)) from by
    have hbS : Below w1.heap.size w1 (w1.alloc (.cells #[.int .i64 5, .int .i64 0, .string ⟨#[]⟩, .slice none 0 0, .slice none 0 0] 28)) := (Below.refl _ _).alloc (Nat.le_refl _) _
    have hzS : (w1.alloc (.cells #[.int .i64 5, .int .i64 0, .string ⟨#[]⟩, .slice none 0 0, .slice none 0 0] 28)).heap[w1.heap.size]? = some (.cells #[.int .i64 5, .int .i64 0, .string ⟨#[]⟩, .slice none 0 0, .slice none 0 0] 28 (0, 0)) := heap_alloc_new w1 _
    have hsS : (w1.alloc (.cells #[.int .i64 5, .int .i64 0, .string ⟨#[]⟩, .slice none 0 0, .slice none 0 0] 28)).heap.size = w1.heap.size + 1 := by simp
    have hbM : Below (w1.alloc (.cells #[.int .i64 5, .int .i64 0, .string ⟨#[]⟩, .slice none 0 0, .slice none 0 0] 28)).heap.size (w1.alloc (.cells #[.int .i64 5, .int .i64 0, .string ⟨#[]⟩, .slice none 0 0, .slice none 0 0] 28)) ((w1.alloc (.cells #[.int .i64 5, .int .i64 0, .string ⟨#[]⟩, .slice none 0 0, .slice none 0 0] 28)).alloc (.map #[] 0)) := (Below.refl _ _).alloc (Nat.le_refl _) _
    have hbA := hbS.trans (hbM.mono hbS.size)
    have hsn := seen_new (w1.alloc (.cells #[.int .i64 5, .int .i64 0, .string ⟨#[]⟩, .slice none 0 0, .slice none 0 0] 28))
    rw [hsS] at hsn
    exact ⟨hrd, hrd.below hbA, Upd.of_below hbA _, ⟨Nat.le_refl _, by omega, by omega⟩, (hbM.block _ (by omega)).trans hzS, hsn, row_nil _ _ _, row_nil _ _ _, fun g hg => (by cases hg), fun g hg => (by cases hg), rfl⟩)
  have hmm := @run_makeMap Tryd.prog
  clear hrd hbV hzV
  subst hw1
  go_enter Tryd.func69, Tryd.ntmps69
  go_wp2
  simp only [World.size_alloc] at START HS1
  go_loopg [9] (bs.length + 2) (fun gk _ wr => ∃ (s : St) (sn ns : List ByteArray) (is : List JV) (nv iv : Value) (xs : List Value), Hid (Its (w.alloc (.cells #[.int .i64 0, .int .i64 0, .string ⟨#[]⟩, .slice none 0 0, .slice none 0 0] 28)) R A cap bs ⟨p, 0, 0⟩ (w.heap.size + 1) (w.heap.size + 1 + 1) 5 sn ns is nv iv xs s wr) ∧ Mst bs s < gk ∧ Hid (ItsAt bs k false p res sn ns is s))
  case atStart => exact ⟨⟨p, 0, 0⟩, [], [], [], _, _, [], START, by rw [Mst_zero]; omega, Lib.hid ⟨by simp, by simp, Nat.le_refl _, .inl ⟨rfl, fun _ => rfl, by simp, by simp, _, Nat.lt_succ_self _, HRES.out.symm⟩⟩⟩
  case round =>
    clear START hmm
    obtain ⟨s, sn, ns, is, nv, iv, xs, HI, hM, HA⟩ := hrel
    obtain ⟨ha1, ha2, ha3, hcase⟩ := HA.out
    have hps := HI.out.rd.pos
    have hRw : R ≠ w.heap.size := by have := HH.out.lt; omega
    clear HA
    rcases hcase with ⟨hs, hsn, hn1, hi1, f, hf, hq⟩ | ⟨he, hq⟩
    · obtain ⟨q, rfl⟩ : ∃ q, s = ⟨q, 0, 0⟩ := ⟨s.pos, hs⟩
      simp only at ha1 ha2 ha3 hps hn1 hi1 hf hq
      rw [Mst_zero] at hM
      have hmo := more_c R A cap bs q wr HI.out.rd
      have k2 : wr.cell? ⟨R, 2, none⟩ = some (.int .i64 0) := HI.out.rd.c2
      have HF := Lib.hid hf
      have HQ := Lib.hid hq
      have HSN := Lib.hid hsn
      clear hs hf hq hsn
      go_wp2_with fail
      refine hmo.mono ?_; rintro e w1 ⟨b, s1, rfl, hr1, hu1, hmp⟩
      have HI1 := Lib.hid (HI.out.move hu1 hr1)
      clear hmo hr1 hu1 k2 HI
      by_cases hlt : q < bs.length
      · rw [dif_pos hlt] at hmp
        obtain ⟨f, rfl⟩ : ∃ f', f = f' + 1 := ⟨f - 1, by have := HF.out; omega⟩
        have hf2 : bs.length - q ≤ f := by have := HF.out; rw [List.length_drop] at this; omega
        have HQ1 := Lib.hid (HQ.out.trans (by rw [drop_cons2 hlt, pItems]))
        clear HQ HF
        generalize bs[q] = c at *
        by_cases h2 : c = 2
        · rw [if_pos h2] at hmp
          obtain ⟨rfl, rfl⟩ := hmp
          have HQ2 := Lib.hid (HQ1.out.trans ((if_pos h2).trans (if_neg (by decide))))
          clear HQ1 h2
          have hdr := Lib.hid (Below.drew (Below.refl w1.heap.size w1))
          have HId := Lib.hid (HI1.out.below hdr.out)
          have HTB := Lib.hid (tabs_upd HT.out HId.out.upd hR)
          have hcall := fun (d' : Int) (hd' : d' = 64 - k) => HIH.out R A cap (q + 1) w1.drew hR HId.out.rd HTB.out d' hd'
          obtain ⟨⟨b0, b1, b2, b3, b4⟩, g0, g1, g2, g3, g4⟩ := cellsOf5 HI1.out.blk
          have l2 : w1.cell? ⟨R, 2, none⟩ = some (.int .i64 0) := HI1.out.rd.c2
          have hiV : iv.ownBlock ≠ some (w.heap.size + 1) := fun e => (HI1.out.fi _ e).2.1 rfl
          have hVR : R ≠ w.heap.size + 1 := by have := HH.out.lt; omega
          have hwd : wrap64 (63 - (k : Int) + 1) = 63 - (k : Int) + 1 := by unfold wrap64; omega
          go_wp2_with fail
          go_region_law (first
              | (refine step_app valTy (by rfl) _ _ (by rfl) iv is.length xs (by rfl) (HIv.out.irow.below ((Below.refl _ _).alloc (Nat.le_refl _) _)) (some ⟨wv.heap.size, 0, none⟩) 1 1 [.int .i64 t.kind, .int .i64 t.int, .string t.text, .slice tan t.names.length tcn, .slice tai t.items.length tci] (by rfl) (by rfl) (by simp) (fun a ha => by cases ha; exact World.news_of_block (heap_alloc_new wv _)) (by simp [Value.oneCell']) (by unfold maxLen; omega) (by omega) ?_;
                 intro iv' w3 hrow hu3; have hat := HIv.out.at ((Below.refl _ _).alloc (Nat.le_refl _) _) hu3 hiV; obtain ⟨⟨_, _, _, _, e43⟩, _, _, _, _, f43⟩ := cellsOf5 hat; clear hat;
                 have HI3 := Lib.hid (HIv.out.item HId.out hrepv ((Below.refl _ _).alloc (Nat.le_refl _) _) hrow hu3); obtain ⟨g9, c9, hv9, _⟩ := hrow.form; subst hv9; clear hrow hu3 hrepv)
              | (go_simp; go_at_call 46; refine (hcall _ (by simp [IntKind.wrap, IntKind.signed, IntKind.bits]; omega)).mono ?_; rintro e wv ⟨t, tan, tcn, tai, tci, s4, rfl, hrepv, hr4, hu4, hres⟩; have HIv := Lib.hid (HId.out.move hu4 hr4); have HRES4 := Lib.hid hres; have e41 := (cellsOf5 HIv.out.blk).1.2.2.2.2; have e42 := cell_below ((Below.refl wv.heap.size wv).alloc (Nat.le_refl _) (.cells #[.int .i64 t.kind, .int .i64 t.int, .string t.text, .slice tan t.names.length tcn, .slice tai t.items.length tci] 28)) e41; clear hr4 hu4 hres))
          all_goals clear e41 e42 e43 f43 b0 b1 b2 b3 b4 g0 g1 g2 g3 g4 l2 hcall
          all_goals go_wp2
          all_goals go_roundg (gk - 1)
          all_goals first | omega | (obtain ⟨r1, r2⟩ := itsAt_val (o := false) (q := q) (fun h => by cases h) (by omega) (by omega) (by omega) (by omega) hf2 HRES4.out HQ2.out; rw [Mst_zero] at r2; exact ⟨s4, sn, ns, is ++ [t], nv, _, _, HI3, by omega, Lib.hid r1⟩)
        · rw [if_neg h2] at hmp
          by_cases h1 : c = 1
          · rw [if_pos h1] at hmp
            obtain ⟨rfl, rfl⟩ := hmp
            have HQ2 := Lib.hid (HQ1.out.trans ((if_neg h2).trans (if_pos h1)))
            clear HQ1 h1 h2
            have hz := (HI1.out.upd.block (k := w.heap.size) (by simp) (fun e => hRw (Option.some.inj e))).trans HZ0.out
            obtain ⟨⟨z0, z1, z2, z3, z4⟩, y0, y1, y2, y3, y4⟩ := cellsOf5 hz
            obtain ⟨⟨c0, c1, c2, c3, c4⟩, _⟩ := cellsOf5 HI1.out.blk
            obtain ⟨an, cn, ai, ci, rfl, rfl, hrep⟩ := HI1.out.done (by omega)
            have HREP := Lib.hid hrep
            have HZ := Lib.hid hz
            clear hz hrep
            go_wp2
            (try simp only [Exit.inBlock, Exit.then])
            refine bodyPost_ret (results_cell_row rfl _ _ w.heap.size 28 _ (0, 0) _ (by rfl) (set5 HZ.out) Tryd.underlying28 rfl (by kernel_rfl)) rfl ?_
            have hU := ((Upd.of_below HB1.out (some R)).trans HI1.out.upd).trans_below (below_set5 (c0 := .int .i64 5) (c1 := .int .i64 0) (c2 := .string ⟨#[]⟩) (c3 := .slice an ns.length cn) (c4 := .slice ai is.length ci) (Below.refl w.heap.size w1) (Nat.le_refl _))
            exact ⟨.mk 5 0 ⟨#[]⟩ ns is, an, cn, ai, ci, ⟨q + 1, 0, 0⟩, rfl, Rep.kept (fun b hlt hb => ⟨by have := hb.1; simp only [World.size_alloc] at this; omega, other_set5 (by have := hb.1; simp only [World.size_alloc] at this; omega)⟩) _ _ HREP.out, HH.out.after hU HI1.out.rd (other_set5 hRw), hU, by rw [HQ2.out]; exact ⟨rfl, by rw [drop_at (by omega)], by rw [List.length_drop]; omega, by rw [drop_at (by omega)]⟩⟩
          · rw [if_neg h1] at hmp
            obtain ⟨rfl, rfl⟩ := hmp
            have HQ2 := Lib.hid (HQ1.out.trans ((if_neg h2).trans (if_neg h1)))
            have HPL := Lib.hid (show bs.length - (bs.drop (q + 1)).length - 1 = q by rw [List.length_drop]; omega)
            clear HQ1 h1 h2
            have hz := (HI1.out.upd.block (k := w.heap.size) (by simp) (fun e => hRw (Option.some.inj e))).trans HZ0.out
            obtain ⟨⟨z0, z1, z2, z3, z4⟩, y0, y1, y2, y3, y4⟩ := cellsOf5 hz
            obtain ⟨⟨c0, c1, c2, c3, c4⟩, _⟩ := cellsOf5 HI1.out.blk
            obtain ⟨an, cn, ai, ci, rfl, rfl, hrep⟩ := HI1.out.done (by omega)
            have HREP := Lib.hid hrep
            have HZ := Lib.hid hz
            clear hz hrep
            go_wp2
            (try simp only [Exit.inBlock, Exit.then])
            refine bodyPost_ret (results_cell_row rfl _ _ w.heap.size 28 _ (0, 0) _ (by rfl) (set5 HZ.out) Tryd.underlying28 rfl (by kernel_rfl)) rfl ?_
            have hU := ((Upd.of_below HB1.out (some R)).trans HI1.out.upd).trans_below (below_set5 (c0 := .int .i64 5) (c1 := .int .i64 0) (c2 := .string ⟨#[]⟩) (c3 := .slice an ns.length cn) (c4 := .slice ai is.length ci) (Below.refl w.heap.size w1) (Nat.le_refl _))
            exact ⟨.mk 5 0 ⟨#[]⟩ ns is, an, cn, ai, ci, ⟨q + 1, 30, q⟩, rfl, Rep.kept (fun b hlt hb => ⟨by have := hb.1; simp only [World.size_alloc] at this; omega, other_set5 (by have := hb.1; simp only [World.size_alloc] at this; omega)⟩) _ _ HREP.out, HH.out.after hU HI1.out.rd (other_set5 hRw), hU, by rw [HQ2.out, HPL.out]; exact ⟨rfl, rfl, by decide, by show p ≤ q + 1; omega⟩⟩
      · rw [dif_neg hlt] at hmp
        obtain ⟨rfl, rfl⟩ := hmp
        obtain ⟨f, rfl⟩ : ∃ f', f = f' + 1 := ⟨f - 1, by have := HF.out; omega⟩
        have HQ2 := Lib.hid (HQ.out.trans (by rw [List.drop_of_length_le (by omega), pItems]))
        clear HQ HF
        have hz := (HI1.out.upd.block (k := w.heap.size) (by simp) (fun e => hRw (Option.some.inj e))).trans HZ0.out
        obtain ⟨⟨z0, z1, z2, z3, z4⟩, y0, y1, y2, y3, y4⟩ := cellsOf5 hz
        obtain ⟨⟨c0, c1, c2, c3, c4⟩, _⟩ := cellsOf5 HI1.out.blk
        obtain ⟨an, cn, ai, ci, rfl, rfl, hrep⟩ := HI1.out.done (by omega)
        have HREP := Lib.hid hrep
        have HZ := Lib.hid hz
        clear hz hrep
        go_wp2
        (try simp only [Exit.inBlock, Exit.then])
        refine bodyPost_ret (results_cell_row rfl _ _ w.heap.size 28 _ (0, 0) _ (by rfl) (set5 HZ.out) Tryd.underlying28 rfl (by kernel_rfl)) rfl ?_
        have hU := ((Upd.of_below HB1.out (some R)).trans HI1.out.upd).trans_below (below_set5 (c0 := .int .i64 5) (c1 := .int .i64 0) (c2 := .string ⟨#[]⟩) (c3 := .slice an ns.length cn) (c4 := .slice ai is.length ci) (Below.refl w.heap.size w1) (Nat.le_refl _))
        exact ⟨.mk 5 0 ⟨#[]⟩ ns is, an, cn, ai, ci, ⟨q, 3, bs.length⟩, rfl, Rep.kept (fun b hlt hb => ⟨by have := hb.1; simp only [World.size_alloc] at this; omega, other_set5 (by have := hb.1; simp only [World.size_alloc] at this; omega)⟩) _ _ HREP.out, HH.out.after hU HI1.out.rd (other_set5 hRw), hU, by rw [HQ2.out]; exact ⟨rfl, rfl, by decide, by show p ≤ q; omega⟩⟩
    · have k2 : wr.cell? ⟨R, 2, none⟩ = some (.int .i64 (s.err : Int)) := HI.out.rd.c2
      have heb : ((s.err : Int) == 0) = false := by simp [he]
      have HE := Lib.hid (And.intro he hq)
      clear he hq
      have hz := (HI.out.upd.block (k := w.heap.size) (by simp) (fun e => hRw (Option.some.inj e))).trans HZ0.out
      obtain ⟨⟨z0, z1, z2, z3, z4⟩, y0, y1, y2, y3, y4⟩ := cellsOf5 hz
      obtain ⟨⟨c0, c1, c2, c3, c4⟩, _⟩ := cellsOf5 HI.out.blk
      obtain ⟨an, cn, ai, ci, rfl, rfl, hrep⟩ := HI.out.done (by omega)
      have HREP := Lib.hid hrep
      have HZ := Lib.hid hz
      clear hz hrep
      go_wp2
      (try simp only [Exit.inBlock, Exit.then])
      refine bodyPost_ret (results_cell_row rfl _ _ w.heap.size 28 _ (0, 0) _ (by rfl) (set5 HZ.out) Tryd.underlying28 rfl (by kernel_rfl)) rfl ?_
      have hU := ((Upd.of_below HB1.out (some R)).trans HI.out.upd).trans_below (below_set5 (c0 := .int .i64 5) (c1 := .int .i64 0) (c2 := .string ⟨#[]⟩) (c3 := .slice an ns.length cn) (c4 := .slice ai is.length ci) (Below.refl w.heap.size wr) (Nat.le_refl _))
      exact ⟨.mk 5 0 ⟨#[]⟩ ns is, an, cn, ai, ci, s, rfl, Rep.kept (fun b hlt hb => ⟨by have := hb.1; simp only [World.size_alloc] at this; omega, other_set5 (by have := hb.1; simp only [World.size_alloc] at this; omega)⟩) _ _ HREP.out, HH.out.after hU HI.out.rd (other_set5 hRw), hU, by rw [HE.out.2]; exact ⟨rfl, rfl, HE.out.1, ha3⟩⟩
set_option maxRecDepth 20000 in
set_option maxHeartbeats 8000000 in
theorem rdItems6_c (bs : List UInt8) (hbs : bs.length < 1099511627776) (k : Nat) (hk : k < 64) (ih : ValSaid bs k) (R : Nat) (A : Option Addr) (cap p : Nat) (w : World) (hR : 2 ≤ R) (h : RdAt w R A cap bs ⟨p, 0, 0⟩) (hT : Lib.Utf8Tabs 0 1 w) (d : Int) (hd : d = 63 - k) :
    Calls Tryd.prog 69 #[.pointer (some ⟨R, 0, none⟩), .bool true, .int .i64 d] w (ValPost R A cap bs p w (pItems bs.length (pValue bs.length k) true ((bs.drop p).length + 1) (bs.drop p) [] [])) := by
  subst hd
  have hb1 : Below w.heap.size w (w.alloc (.cells #[.int .i64 0, .int .i64 0, .string ⟨#[]⟩, .slice none 0 0, .slice none 0 0] 28)) := (Below.refl _ _).alloc (Nat.le_refl _) _
  have HT := Lib.hid (utf8_below hT hb1)
  have hrd := h.below hb1
  have HH := Lib.hid h
  have HB1 := Lib.hid hb1
  have HIH := Lib.hid ih
  have hz0 := heap_alloc_new w (.cells #[.int .i64 0, .int .i64 0, .string ⟨#[]⟩, .slice none 0 0, .slice none 0 0] 28)
  have hR1 : R < (w.alloc (.cells #[.int .i64 0, .int .i64 0, .string ⟨#[]⟩, .slice none 0 0, .slice none 0 0] 28)).heap.size := hrd.lt
  have HZ0 := Lib.hid hz0
  have hpp := h.pos
  simp only at hpp
  have hrs : ∃ res, pItems bs.length (pValue bs.length k) true ((bs.drop p).length + 1) (bs.drop p) [] [] = res := ⟨_, rfl⟩
  obtain ⟨res, hres⟩ := hrs
  rw [hres]
  have HRES := Lib.hid hres
  clear hres
  clear hT h hb1 ih hz0
  generalize hw1 : (w.alloc (.cells #[.int .i64 0, .int .i64 0, .string ⟨#[]⟩, .slice none 0 0, .slice none 0 0] 28)) = w1 at *
  have hs1 : w1.heap.size = w.heap.size + 1 := by rw [← hw1]; simp
  have HS1 := Lib.hid hs1
  have hbV : Below w1.heap.size w1 (w1.alloc (.cells #[.int .i64 5, .int .i64 0, .string ⟨#[]⟩, .slice none 0 0, .slice none 0 0] 28)) := (Below.refl _ _).alloc (Nat.le_refl _) _
  have hzV := heap_alloc_new w1 (.cells #[.int .i64 5, .int .i64 0, .string ⟨#[]⟩, .slice none 0 0, .slice none 0 0] 28)
  obtain ⟨⟨v0, v1, v2, v3, v4⟩, g0, g1, g2, g3, g4⟩ := cellsOf5 hzV
  have START := Lib.hid (show Its w1 R A cap bs ⟨p, 0, 0⟩ w1.heap.size (w1.heap.size + 1) 6 [] [] [] (.slice none 0 0) (.slice none 0 0) [] ⟨p, 0, 0⟩ ((w1.alloc (.cells #[.int .i64 6, .int .i64 0, .string ⟨#[]⟩, .slice none 0 0, .slice none 0 0] 28)).alloc (.map #[] 0)) from by
    have hbS : Below w1.heap.size w1 (w1.alloc (.cells #[.int .i64 6, .int .i64 0, .string ⟨#[]⟩, .slice none 0 0, .slice none 0 0] 28)) := (Below.refl _ _).alloc (Nat.le_refl _) _
    have hzS : (w1.alloc (.cells #[.int .i64 6, .int .i64 0, .string ⟨#[]⟩, .slice none 0 0, .slice none 0 0] 28)).heap[w1.heap.size]? = some (.cells #[.int .i64 6, .int .i64 0, .string ⟨#[]⟩, .slice none 0 0, .slice none 0 0] 28 (0, 0)) := heap_alloc_new w1 _
    have hsS : (w1.alloc (.cells #[.int .i64 6, .int .i64 0, .string ⟨#[]⟩, .slice none 0 0, .slice none 0 0] 28)).heap.size = w1.heap.size + 1 := by simp
    have hbM : Below (w1.alloc (.cells #[.int .i64 6, .int .i64 0, .string ⟨#[]⟩, .slice none 0 0, .slice none 0 0] 28)).heap.size (w1.alloc (.cells #[.int .i64 6, .int .i64 0, .string ⟨#[]⟩, .slice none 0 0, .slice none 0 0] 28)) ((w1.alloc (.cells #[.int .i64 6, .int .i64 0, .string ⟨#[]⟩, .slice none 0 0, .slice none 0 0] 28)).alloc (.map #[] 0)) := (Below.refl _ _).alloc (Nat.le_refl _) _
    have hbA := hbS.trans (hbM.mono hbS.size)
    have hsn := seen_new (w1.alloc (.cells #[.int .i64 6, .int .i64 0, .string ⟨#[]⟩, .slice none 0 0, .slice none 0 0] 28))
    rw [hsS] at hsn
    exact ⟨hrd, hrd.below hbA, Upd.of_below hbA _, ⟨Nat.le_refl _, by omega, by omega⟩, (hbM.block _ (by omega)).trans hzS, hsn, row_nil _ _ _, row_nil _ _ _, fun g hg => (by cases hg), fun g hg => (by cases hg), rfl⟩)
  have hmm := @run_makeMap Tryd.prog
  clear hrd hbV hzV
  subst hw1
  go_enter Tryd.func69, Tryd.ntmps69
  go_wp2
  simp only [World.size_alloc] at START HS1
  go_loopg [9] (bs.length + 2) (fun gk _ wr => ∃ (s : St) (sn ns : List ByteArray) (is : List JV) (nv iv : Value) (xs : List Value), Hid (Its (w.alloc (.cells #[.int .i64 0, .int .i64 0, .string ⟨#[]⟩, .slice none 0 0, .slice none 0 0] 28)) R A cap bs ⟨p, 0, 0⟩ (w.heap.size + 1) (w.heap.size + 1 + 1) 6 sn ns is nv iv xs s wr) ∧ Mst bs s < gk ∧ Hid (ItsAt bs k true p res sn ns is s))
  case atStart => exact ⟨⟨p, 0, 0⟩, [], [], [], _, _, [], START, by rw [Mst_zero]; omega, Lib.hid ⟨by simp, by simp, Nat.le_refl _, .inl ⟨rfl, fun _ => rfl, by simp, by simp, _, Nat.lt_succ_self _, HRES.out.symm⟩⟩⟩
  case round =>
    clear START hmm
    obtain ⟨s, sn, ns, is, nv, iv, xs, HI, hM, HA⟩ := hrel
    obtain ⟨ha1, ha2, ha3, hcase⟩ := HA.out
    have hps := HI.out.rd.pos
    have hRw : R ≠ w.heap.size := by have := HH.out.lt; omega
    clear HA
    rcases hcase with ⟨hs, hsn, hn1, hi1, f, hf, hq⟩ | ⟨he, hq⟩
    · obtain ⟨q, rfl⟩ : ∃ q, s = ⟨q, 0, 0⟩ := ⟨s.pos, hs⟩
      simp only at ha1 ha2 ha3 hps hn1 hi1 hf hq
      rw [Mst_zero] at hM
      have hmo := more_c R A cap bs q wr HI.out.rd
      have k2 : wr.cell? ⟨R, 2, none⟩ = some (.int .i64 0) := HI.out.rd.c2
      have HF := Lib.hid hf
      have HQ := Lib.hid hq
      have HSN := Lib.hid hsn
      clear hs hf hq hsn
      go_wp2_with fail
      refine hmo.mono ?_; rintro e w1 ⟨b, s1, rfl, hr1, hu1, hmp⟩
      have HI1 := Lib.hid (HI.out.move hu1 hr1)
      clear hmo hr1 hu1 k2 HI
      by_cases hlt : q < bs.length
      · rw [dif_pos hlt] at hmp
        obtain ⟨f, rfl⟩ : ∃ f', f = f' + 1 := ⟨f - 1, by have := HF.out; omega⟩
        have hf2 : bs.length - q ≤ f := by have := HF.out; rw [List.length_drop] at this; omega
        have HQ1 := Lib.hid (HQ.out.trans (by rw [drop_cons2 hlt, pItems]))
        clear HQ HF
        generalize bs[q] = c at *
        by_cases h2 : c = 2
        · rw [if_pos h2] at hmp
          obtain ⟨rfl, rfl⟩ := hmp
          have HQ2 := Lib.hid (HQ1.out.trans ((if_pos h2).trans (if_pos rfl)))
          clear HQ1 h2
          have htx := rdText_c R hR A cap bs (by omega) (q + 1) w1 HI1.out.rd (tabs_upd HT.out HI1.out.upd hR)
          have m1 : w1.cell? ⟨R, 1, none⟩ = some (.int .i64 ((q + 1 : Nat) : Int)) := HI1.out.rd.c1
          go_wp2_with fail
          refine htx.mono ?_; rintro e w2 ⟨x, s2, rfl, hxs, hr2, hu2, hrs⟩
          have HI2 := Lib.hid (HI1.out.move hu2 hr2)
          have HRS := Lib.hid hrs
          have hxl : x.size ≤ maxLen := by unfold maxLen; omega
          have HSE := Lib.hid (HSN.out (by trivial))
          have hsl : sn.length = ns.length := by rw [HSE.out]
          obtain ⟨c2, hlook, hc0, hc1, hc2⟩ := HI2.out.seen.look x hxl
          have HPL := Lib.hid (show bs.length - (bs.drop (q + 1)).length = q + 1 from drop_at (by omega))
          have HQ3 := HQ2.out
          rw [HPL.out] at HQ3
          have HQ4 := Lib.hid HQ3
          clear htx hr2 hu2 hrs m1 HQ2 HQ3 HSN
          by_cases hcp : 0 < c2
          · have HBB := Lib.hid (show hasB sn x = true by rw [← hc2]; simpa using hcp)
            have hfl := fails_c R A cap bs s2 16 (q + 1) w2 HI2.out.rd
            go_wp2_with fail
            refine hfl.mono ?_; rintro e w3 ⟨rfl, hr3, hu3⟩
            have HI3 := Lib.hid (HI2.out.move hu3 hr3)
            clear hlook hc0 hc1 hc2 hcp hfl hr3 hu3
            obtain ⟨c2, hlook, hc0, hc1, hc2⟩ := HI3.out.seen.look x hxl
            have hse : (s2.fail 16 (q + 1)).err ≠ 0 := by
              unfold St.fail
              split
              · show (16 : Nat) ≠ 0; decide
              · assumption
            have heb : (((s2.fail 16 (q + 1)).err : Int) == 0) = false := by simp [hse]
            have hdu := Lib.hid (itsAt_dup (k := k) (p := p) (sn := sn) HSE.out (by omega) (by omega) hlt HBB.out HRS.out HQ4.out)
            clear hse hc2
            generalize s2.fail 16 (q + 1) = s3 at *
            have hnV : nv.ownBlock ≠ some (w.heap.size + 1) := fun e => (HI3.out.nf _ e).2.1 rfl
            go_wp2_with (first
              | (at_mapUpdate; refine wpList_seen rfl _ _ _ rfl rfl HI3.out.seen x c2 rfl hxl _ rfl (by first | rfl | (unfold wrap64; omega)) hlook (by omega) ?_; intro wm hsm hum; have HIm := Lib.hid (HI3.out.mark hsm hum); obtain ⟨⟨_, _, _, d3, _⟩, _, _, _, t3, _⟩ := cellsOf5 HIm.out.blk; have hbs := (Below.refl wm.heap.size wm).alloc (Nat.le_refl _) (.cells #[.string x] 9); have d3a := cell_below hbs d3; clear hsm hum hlook)
              | (at_builtin; refine wpList_app strTy rfl _ _ rfl nv ns.length _ rfl (HIm.out.nrow.below hbs) ⟨wm.heap.size, 0, none⟩ 1 1 [.string x] rfl rfl (World.news_of_block (heap_alloc_new wm (.cells #[.string x] 9))) (by simp [Value.oneCell']) (by unfold maxLen; omega) (by omega) ?_; intro nv' wn hrow hu; have hat := HIm.out.at hbs hu hnV; obtain ⟨⟨_, _, _, d3b, _⟩, _, _, _, t3b, _⟩ := cellsOf5 hat; have HIn := Lib.hid (HIm.out.name hbs hrow hu); obtain ⟨g7, c7, hv7, _⟩ := hrow.form; subst hv7; have kn := HIn.out.rd.c2; clear hat hrow hu hbs))
            clear d3 t3 d3a d3b t3b hc0 hc1 hnV
            go_roundg (gk - 1)
            case measure => omega
            case rel =>
              obtain ⟨r1, r2⟩ := hdu.out
              rw [Mst_zero] at r2
              exact ⟨s3, sn ++ [x], ns ++ [x], is, _, iv, xs, HIn, by omega, Lib.hid r1⟩
          · have HBB := Lib.hid (show hasB sn x = false by rw [← hc2]; simpa using hcp)
            clear hc2
            by_cases he : s2.err = 0
            · obtain ⟨q', rfl, hq1, hq2, hq3⟩ := text_good (k := k) (sn := sn) HSE.out he HBB.out HRS.out HQ4.out
              have HQ5 := Lib.hid hq3
              have HSX := Lib.hid (show sn ++ [x] = ns ++ [x] by rw [HSE.out])
              have HQQ := Lib.hid (show (ns ++ [x]).length + p ≤ q' ∧ is.length + p + 1 ≤ q' ∧ q < q' ∧ q' ≤ bs.length from ⟨by simp; omega, by omega, by omega, hq2⟩)
              clear hq3 he HQ4 HRS
              have hnV : nv.ownBlock ≠ some (w.heap.size + 1) := fun e => (HI2.out.nf _ e).2.1 rfl
              go_wp2_with (first
                | (at_mapUpdate; refine wpList_seen rfl _ _ _ rfl rfl HI2.out.seen x c2 rfl hxl _ rfl (by first | rfl | (unfold wrap64; omega)) hlook (by omega) ?_; intro wm hsm hum; have HIm := Lib.hid (HI2.out.mark hsm hum); obtain ⟨⟨_, _, _, d3, _⟩, _, _, _, t3, _⟩ := cellsOf5 HIm.out.blk; have hbs := (Below.refl wm.heap.size wm).alloc (Nat.le_refl _) (.cells #[.string x] 9); have d3a := cell_below hbs d3; clear hsm hum hlook)
                | (at_builtin; refine wpList_app strTy rfl _ _ rfl nv ns.length _ rfl (HIm.out.nrow.below hbs) ⟨wm.heap.size, 0, none⟩ 1 1 [.string x] rfl rfl (World.news_of_block (heap_alloc_new wm (.cells #[.string x] 9))) (by simp [Value.oneCell']) (by unfold maxLen; omega) (by omega) ?_; intro nv' wn hrow hu; have hat := HIm.out.at hbs hu hnV; obtain ⟨⟨_, _, _, d3b, _⟩, _, _, _, t3b, _⟩ := cellsOf5 hat; have HIn := Lib.hid (HIm.out.name hbs hrow hu); obtain ⟨g7, c7, hv7, _⟩ := hrow.form; subst hv7; have kn := HIn.out.rd.c2; clear hat hrow hu hbs))
              clear d3 t3 d3a d3b t3b hc0 hc1 hnV
              generalize World.setCell wn _ _ = WN at *
              have hdr := Lib.hid (Below.drew (Below.refl WN.heap.size WN))
              have HId := Lib.hid (HIn.out.below hdr.out)
              have HTB := Lib.hid (tabs_upd HT.out HId.out.upd hR)
              have hcall := fun (d' : Int) (hd' : d' = 64 - k) => HIH.out R A cap q' WN.drew hR HId.out.rd HTB.out d' hd'
              obtain ⟨⟨b0, b1, b2, b3, b4⟩, g0, g1, g2, g3, g4⟩ := cellsOf5 HIn.out.blk
              have l2 : WN.cell? ⟨R, 2, none⟩ = some (.int .i64 0) := HIn.out.rd.c2
              have hiV : iv.ownBlock ≠ some (w.heap.size + 1) := fun e => (HIn.out.fi _ e).2.1 rfl
              have hVR : R ≠ w.heap.size + 1 := by have := HH.out.lt; omega
              have hwd : wrap64 (63 - (k : Int) + 1) = 63 - (k : Int) + 1 := by unfold wrap64; omega
              go_region_law (first
                  | (refine step_app valTy (by rfl) _ _ (by rfl) iv is.length xs (by rfl) (HIv.out.irow.below ((Below.refl _ _).alloc (Nat.le_refl _) _)) (some ⟨wv.heap.size, 0, none⟩) 1 1 [.int .i64 t.kind, .int .i64 t.int, .string t.text, .slice tan t.names.length tcn, .slice tai t.items.length tci] (by rfl) (by rfl) (by simp) (fun a ha => by cases ha; exact World.news_of_block (heap_alloc_new wv _)) (by simp [Value.oneCell']) (by unfold maxLen; omega) (by omega) ?_;
                     intro iv' w3 hrow hu3; have hat := HIv.out.at ((Below.refl _ _).alloc (Nat.le_refl _) _) hu3 hiV; obtain ⟨⟨_, _, _, _, e43⟩, _, _, _, _, f43⟩ := cellsOf5 hat; clear hat;
                     have HI3 := Lib.hid (HIv.out.item HId.out hrepv ((Below.refl _ _).alloc (Nat.le_refl _) _) hrow hu3); obtain ⟨g9, c9, hv9, _⟩ := hrow.form; subst hv9; clear hrow hu3 hrepv)
                  | (go_simp; go_at_call 46; refine (hcall _ (by simp [IntKind.wrap, IntKind.signed, IntKind.bits]; omega)).mono ?_; rintro e wv ⟨t, tan, tcn, tai, tci, s4, rfl, hrepv, hr4, hu4, hres⟩; have HIv := Lib.hid (HId.out.move hu4 hr4); have HRES4 := Lib.hid hres; have e41 := (cellsOf5 HIv.out.blk).1.2.2.2.2; have e42 := cell_below ((Below.refl wv.heap.size wv).alloc (Nat.le_refl _) (.cells #[.int .i64 t.kind, .int .i64 t.int, .string t.text, .slice tan t.names.length tcn, .slice tai t.items.length tci] 28)) e41; clear hr4 hu4 hres))
              all_goals clear e41 e42 e43 f43 b0 b1 b2 b3 b4 g0 g1 g2 g3 g4 l2 hcall
              all_goals go_wp2
              all_goals go_roundg (gk - 1)
              all_goals first | omega | (obtain ⟨r1, r2⟩ := itsAt_val (o := true) (ns := ns ++ [x]) (q := q) (fun _ => HSX.out) HQQ.out.1 HQQ.out.2.1 HQQ.out.2.2.1 HQQ.out.2.2.2 hf2 HRES4.out HQ5.out; rw [Mst_zero] at r2; exact ⟨s4, (sn ++ [x]), (ns ++ [x]), is ++ [t], _, _, _, HI3, by omega, Lib.hid r1⟩)
            · have heb : ((s2.err : Int) == 0) = false := by simp [he]
              have htb := Lib.hid (itsAt_tbad (k := k) (p := p) (sn := sn) (ns := ns) (is := is) (by omega) (by omega) he HRS.out HQ4.out)
              clear he
              have hnV : nv.ownBlock ≠ some (w.heap.size + 1) := fun e => (HI2.out.nf _ e).2.1 rfl
              go_wp2_with (first
                | (at_mapUpdate; refine wpList_seen rfl _ _ _ rfl rfl HI2.out.seen x c2 rfl hxl _ rfl (by first | rfl | (unfold wrap64; omega)) hlook (by omega) ?_; intro wm hsm hum; have HIm := Lib.hid (HI2.out.mark hsm hum); obtain ⟨⟨_, _, _, d3, _⟩, _, _, _, t3, _⟩ := cellsOf5 HIm.out.blk; have hbs := (Below.refl wm.heap.size wm).alloc (Nat.le_refl _) (.cells #[.string x] 9); have d3a := cell_below hbs d3; clear hsm hum hlook)
                | (at_builtin; refine wpList_app strTy rfl _ _ rfl nv ns.length _ rfl (HIm.out.nrow.below hbs) ⟨wm.heap.size, 0, none⟩ 1 1 [.string x] rfl rfl (World.news_of_block (heap_alloc_new wm (.cells #[.string x] 9))) (by simp [Value.oneCell']) (by unfold maxLen; omega) (by omega) ?_; intro nv' wn hrow hu; have hat := HIm.out.at hbs hu hnV; obtain ⟨⟨_, _, _, d3b, _⟩, _, _, _, t3b, _⟩ := cellsOf5 hat; have HIn := Lib.hid (HIm.out.name hbs hrow hu); obtain ⟨g7, c7, hv7, _⟩ := hrow.form; subst hv7; have kn := HIn.out.rd.c2; clear hat hrow hu hbs))
              clear d3 t3 d3a d3b t3b hc0 hc1 hnV
              go_roundg (gk - 1)
              case measure => omega
              case rel =>
                obtain ⟨r1, r2⟩ := htb.out
                rw [Mst_zero] at r2
                exact ⟨s2, sn ++ [x], ns ++ [x], is, _, iv, xs, HIn, by omega, Lib.hid r1⟩
        · rw [if_neg h2] at hmp
          by_cases h1 : c = 1
          · rw [if_pos h1] at hmp
            obtain ⟨rfl, rfl⟩ := hmp
            have HQ2 := Lib.hid (HQ1.out.trans ((if_neg h2).trans (if_pos h1)))
            clear HQ1 h1 h2
            have hz := (HI1.out.upd.block (k := w.heap.size) (by simp) (fun e => hRw (Option.some.inj e))).trans HZ0.out
            obtain ⟨⟨z0, z1, z2, z3, z4⟩, y0, y1, y2, y3, y4⟩ := cellsOf5 hz
            obtain ⟨⟨c0, c1, c2, c3, c4⟩, _⟩ := cellsOf5 HI1.out.blk
            obtain ⟨an, cn, ai, ci, rfl, rfl, hrep⟩ := HI1.out.done (by omega)
            have HREP := Lib.hid hrep
            have HZ := Lib.hid hz
            clear hz hrep
            go_wp2
            (try simp only [Exit.inBlock, Exit.then])
            refine bodyPost_ret (results_cell_row rfl _ _ w.heap.size 28 _ (0, 0) _ (by rfl) (set5 HZ.out) Tryd.underlying28 rfl (by kernel_rfl)) rfl ?_
            have hU := ((Upd.of_below HB1.out (some R)).trans HI1.out.upd).trans_below (below_set5 (c0 := .int .i64 6) (c1 := .int .i64 0) (c2 := .string ⟨#[]⟩) (c3 := .slice an ns.length cn) (c4 := .slice ai is.length ci) (Below.refl w.heap.size w1) (Nat.le_refl _))
            exact ⟨.mk 6 0 ⟨#[]⟩ ns is, an, cn, ai, ci, ⟨q + 1, 0, 0⟩, rfl, Rep.kept (fun b hlt hb => ⟨by have := hb.1; simp only [World.size_alloc] at this; omega, other_set5 (by have := hb.1; simp only [World.size_alloc] at this; omega)⟩) _ _ HREP.out, HH.out.after hU HI1.out.rd (other_set5 hRw), hU, by rw [HQ2.out]; exact ⟨rfl, by rw [drop_at (by omega)], by rw [List.length_drop]; omega, by rw [drop_at (by omega)]⟩⟩
          · rw [if_neg h1] at hmp
            obtain ⟨rfl, rfl⟩ := hmp
            have HQ2 := Lib.hid (HQ1.out.trans ((if_neg h2).trans (if_neg h1)))
            have HPL := Lib.hid (show bs.length - (bs.drop (q + 1)).length - 1 = q by rw [List.length_drop]; omega)
            clear HQ1 h1 h2
            have hz := (HI1.out.upd.block (k := w.heap.size) (by simp) (fun e => hRw (Option.some.inj e))).trans HZ0.out
            obtain ⟨⟨z0, z1, z2, z3, z4⟩, y0, y1, y2, y3, y4⟩ := cellsOf5 hz
            obtain ⟨⟨c0, c1, c2, c3, c4⟩, _⟩ := cellsOf5 HI1.out.blk
            obtain ⟨an, cn, ai, ci, rfl, rfl, hrep⟩ := HI1.out.done (by omega)
            have HREP := Lib.hid hrep
            have HZ := Lib.hid hz
            clear hz hrep
            go_wp2
            (try simp only [Exit.inBlock, Exit.then])
            refine bodyPost_ret (results_cell_row rfl _ _ w.heap.size 28 _ (0, 0) _ (by rfl) (set5 HZ.out) Tryd.underlying28 rfl (by kernel_rfl)) rfl ?_
            have hU := ((Upd.of_below HB1.out (some R)).trans HI1.out.upd).trans_below (below_set5 (c0 := .int .i64 6) (c1 := .int .i64 0) (c2 := .string ⟨#[]⟩) (c3 := .slice an ns.length cn) (c4 := .slice ai is.length ci) (Below.refl w.heap.size w1) (Nat.le_refl _))
            exact ⟨.mk 6 0 ⟨#[]⟩ ns is, an, cn, ai, ci, ⟨q + 1, 30, q⟩, rfl, Rep.kept (fun b hlt hb => ⟨by have := hb.1; simp only [World.size_alloc] at this; omega, other_set5 (by have := hb.1; simp only [World.size_alloc] at this; omega)⟩) _ _ HREP.out, HH.out.after hU HI1.out.rd (other_set5 hRw), hU, by rw [HQ2.out, HPL.out]; exact ⟨rfl, rfl, by decide, by show p ≤ q + 1; omega⟩⟩
      · rw [dif_neg hlt] at hmp
        obtain ⟨rfl, rfl⟩ := hmp
        obtain ⟨f, rfl⟩ : ∃ f', f = f' + 1 := ⟨f - 1, by have := HF.out; omega⟩
        have HQ2 := Lib.hid (HQ.out.trans (by rw [List.drop_of_length_le (by omega), pItems]))
        clear HQ HF
        have hz := (HI1.out.upd.block (k := w.heap.size) (by simp) (fun e => hRw (Option.some.inj e))).trans HZ0.out
        obtain ⟨⟨z0, z1, z2, z3, z4⟩, y0, y1, y2, y3, y4⟩ := cellsOf5 hz
        obtain ⟨⟨c0, c1, c2, c3, c4⟩, _⟩ := cellsOf5 HI1.out.blk
        obtain ⟨an, cn, ai, ci, rfl, rfl, hrep⟩ := HI1.out.done (by omega)
        have HREP := Lib.hid hrep
        have HZ := Lib.hid hz
        clear hz hrep
        go_wp2
        (try simp only [Exit.inBlock, Exit.then])
        refine bodyPost_ret (results_cell_row rfl _ _ w.heap.size 28 _ (0, 0) _ (by rfl) (set5 HZ.out) Tryd.underlying28 rfl (by kernel_rfl)) rfl ?_
        have hU := ((Upd.of_below HB1.out (some R)).trans HI1.out.upd).trans_below (below_set5 (c0 := .int .i64 6) (c1 := .int .i64 0) (c2 := .string ⟨#[]⟩) (c3 := .slice an ns.length cn) (c4 := .slice ai is.length ci) (Below.refl w.heap.size w1) (Nat.le_refl _))
        exact ⟨.mk 6 0 ⟨#[]⟩ ns is, an, cn, ai, ci, ⟨q, 3, bs.length⟩, rfl, Rep.kept (fun b hlt hb => ⟨by have := hb.1; simp only [World.size_alloc] at this; omega, other_set5 (by have := hb.1; simp only [World.size_alloc] at this; omega)⟩) _ _ HREP.out, HH.out.after hU HI1.out.rd (other_set5 hRw), hU, by rw [HQ2.out]; exact ⟨rfl, rfl, by decide, by show p ≤ q; omega⟩⟩
    · have k2 : wr.cell? ⟨R, 2, none⟩ = some (.int .i64 (s.err : Int)) := HI.out.rd.c2
      have heb : ((s.err : Int) == 0) = false := by simp [he]
      have HE := Lib.hid (And.intro he hq)
      clear he hq
      have hz := (HI.out.upd.block (k := w.heap.size) (by simp) (fun e => hRw (Option.some.inj e))).trans HZ0.out
      obtain ⟨⟨z0, z1, z2, z3, z4⟩, y0, y1, y2, y3, y4⟩ := cellsOf5 hz
      obtain ⟨⟨c0, c1, c2, c3, c4⟩, _⟩ := cellsOf5 HI.out.blk
      obtain ⟨an, cn, ai, ci, rfl, rfl, hrep⟩ := HI.out.done (by omega)
      have HREP := Lib.hid hrep
      have HZ := Lib.hid hz
      clear hz hrep
      go_wp2
      (try simp only [Exit.inBlock, Exit.then])
      refine bodyPost_ret (results_cell_row rfl _ _ w.heap.size 28 _ (0, 0) _ (by rfl) (set5 HZ.out) Tryd.underlying28 rfl (by kernel_rfl)) rfl ?_
      have hU := ((Upd.of_below HB1.out (some R)).trans HI.out.upd).trans_below (below_set5 (c0 := .int .i64 6) (c1 := .int .i64 0) (c2 := .string ⟨#[]⟩) (c3 := .slice an ns.length cn) (c4 := .slice ai is.length ci) (Below.refl w.heap.size wr) (Nat.le_refl _))
      exact ⟨.mk 6 0 ⟨#[]⟩ ns is, an, cn, ai, ci, s, rfl, Rep.kept (fun b hlt hb => ⟨by have := hb.1; simp only [World.size_alloc] at this; omega, other_set5 (by have := hb.1; simp only [World.size_alloc] at this; omega)⟩) _ _ HREP.out, HH.out.after hU HI.out.rd (other_set5 hRw), hU, by rw [HE.out.2]; exact ⟨rfl, rfl, HE.out.1, ha3⟩⟩
end Go.Proofs.YtjmhoccikbgigaaDoor
namespace Go.Proofs.YtjmhoccikbgigaaDoor
open Go.RowKit
theorem numF_small {N0 : Nat} (c : UInt8) (h : N0 < 72057594037927936) : numF N0 c = N0 * 256 + c.toNat := by
  unfold numF
  rw [Nat.mod_eq_of_lt h]
theorem pow7 {i : Nat} (h : i ≤ 7) : 256 ^ i ≤ 72057594037927936 := Nat.le_trans (Nat.pow_le_pow_right (by decide) h) (by decide +kernel)
theorem fold_numF (l : List UInt8) : ∀ (i N0 : Nat), N0 < 256 ^ i → i + l.length ≤ 8 → l.foldl numF N0 = l.foldl (fun n c => n * 256 + c.toNat) N0 := by
  induction l with
  | nil => intro i N0 _ _; rw [List.foldl_nil, List.foldl_nil]
  | cons c l ih =>
    intro i N0 h hl
    rw [List.length_cons] at hl
    have hc := c.toNat_lt
    have hlt : N0 < 72057594037927936 := Nat.lt_of_lt_of_le h (pow7 (by omega))
    rw [List.foldl_cons, List.foldl_cons, numF_small c hlt]
    clear hlt
    refine ih (i + 1) _ ?_ (by omega)
    rw [Nat.pow_succ]
    generalize 256 ^ i = B at *
    omega
theorem numP_ok (bs : List UInt8) : ∀ (j N0 p : Nat), p + j ≤ bs.length → numP bs j (N0, ⟨p, 0, 0⟩) = (((bs.drop p).take j).foldl numF N0, ⟨p + j, 0, 0⟩)
  | 0, _, _, _ => by simp [numP]
  | j + 1, N0, p, h => by
    have hlt : p < bs.length := by omega
    rw [numP]
    simp only [next_in hlt]
    rw [numP_ok bs j _ (p + 1) (by omega), drop_cons2 hlt, List.take_succ_cons, List.foldl_cons, show p + 1 + j = p + (j + 1) by omega]
theorem numP_stuck (bs : List UInt8) : ∀ (j N0 : Nat), (numP bs j (N0, ⟨bs.length, 3, bs.length⟩)).2 = ⟨bs.length, 3, bs.length⟩
  | 0, _ => rfl
  | j + 1, N0 => by
    have e : nextP bs ⟨bs.length, 3, bs.length⟩ = (0, ⟨bs.length, 3, bs.length⟩) := by
      unfold nextP
      rw [dif_neg (Nat.lt_irrefl _)]
      rfl
    rw [numP]
    simp only [e]
    exact numP_stuck bs j _
theorem numP_bad (bs : List UInt8) : ∀ (j N0 p : Nat), p ≤ bs.length → bs.length < p + j → (numP bs j (N0, ⟨p, 0, 0⟩)).2 = ⟨bs.length, 3, bs.length⟩
  | 0, _, p, h1, h2 => by omega
  | j + 1, N0, p, h1, h2 => by
    rw [numP]
    by_cases hlt : p < bs.length
    · simp only [next_in hlt]
      exact numP_bad bs j _ (p + 1) (by omega) (by omega)
    · obtain rfl : p = bs.length := by omega
      simp only [next_out hlt]
      exact numP_stuck bs j _
/-- the number that was read, or the fault -/
theorem num_res (bs : List UInt8) (p : Nat) (hp : p ≤ bs.length) (p0 : Nat) (h0 : p0 ≤ p) :
    RdRes bs p0 (match pNum bs.length (bs.drop p) with | .ok n q => Res.ok (JV.mk 3 n ⟨#[]⟩ [] []) q | .bad e pl => .bad e pl) (fun a => JV.mk 3 (((numP bs 8 (0, ⟨p, 0, 0⟩)).1 : Int) - 9223372036854775808) ⟨#[]⟩ [] [] = a) (numP bs 8 (0, ⟨p, 0, 0⟩)).2 := by
  unfold pNum
  by_cases h8 : 8 ≤ (bs.drop p).length
  · have hl := h8
    rw [List.length_drop] at hl
    rw [if_pos h8, numP_ok bs 8 0 p (by omega), fold_numF _ 0 0 (by decide) (by rw [List.length_take]; omega)]
    have e : bs.length - ((bs.drop p).drop 8).length = p + 8 := by rw [List.drop_drop, List.length_drop]; omega
    exact ⟨rfl, by rw [e], by rw [List.drop_drop, List.length_drop]; omega, by rw [e, List.drop_drop]⟩
  · have hl := h8
    rw [List.length_drop] at hl
    rw [if_neg h8, numP_bad bs 8 0 p hp (by omega)]
    exact ⟨rfl, rfl, by decide, by show p0 ≤ bs.length; omega⟩
end Go.Proofs.YtjmhoccikbgigaaDoor
namespace Go.Proofs.YtjmhoccikbgigaaDoor
open Go.RowKit
set_option maxHeartbeats 1000000 in
theorem flagT_c  (w : World) : Calls Tryd.prog 65 #[.bool true] w fun r w' => r = .returned (.agg #[.int .i64 2, .int .i64 0, .string ⟨#[]⟩, .slice none 0 0, .slice none 0 0]) ∧ Below w.heap.size w w' := by
  have hh := heap_alloc_new w (.cells #[.int .i64 0, .int .i64 0, .string ⟨#[]⟩, .slice none 0 0, .slice none 0 0] 28)
  have hb := (Below.refl w.heap.size w).alloc (Nat.le_refl _) (.cells #[.int .i64 0, .int .i64 0, .string ⟨#[]⟩, .slice none 0 0, .slice none 0 0] 28)
  have HH := Lib.hid hh
  have HB := Lib.hid hb
  clear hh hb
  go_enter Tryd.func65, Tryd.ntmps65
  go_wp2
  (try simp only [Exit.inBlock, Exit.then])
  have hh := heap_alloc_new w (.cells #[.int .i64 2, .int .i64 0, .string ⟨#[]⟩, .slice none 0 0, .slice none 0 0] 28)
  refine bodyPost_ret (results_cell_row rfl _ _ w.heap.size 28 _ (0, 0) _ (by rfl) hh Tryd.underlying28 rfl (by kernel_rfl)) rfl ?_
  exact ⟨rfl, (Below.refl _ _).alloc (Nat.le_refl _) _⟩
set_option maxHeartbeats 1000000 in
theorem flagF_c  (w : World) : Calls Tryd.prog 65 #[.bool false] w fun r w' => r = .returned (.agg #[.int .i64 1, .int .i64 0, .string ⟨#[]⟩, .slice none 0 0, .slice none 0 0]) ∧ Below w.heap.size w w' := by
  have hh := heap_alloc_new w (.cells #[.int .i64 0, .int .i64 0, .string ⟨#[]⟩, .slice none 0 0, .slice none 0 0] 28)
  have hb := (Below.refl w.heap.size w).alloc (Nat.le_refl _) (.cells #[.int .i64 0, .int .i64 0, .string ⟨#[]⟩, .slice none 0 0, .slice none 0 0] 28)
  have HH := Lib.hid hh
  have HB := Lib.hid hb
  clear hh hb
  go_enter Tryd.func65, Tryd.ntmps65
  go_wp2
  (try simp only [Exit.inBlock, Exit.then])
  have hh := heap_alloc_new w (.cells #[.int .i64 1, .int .i64 0, .string ⟨#[]⟩, .slice none 0 0, .slice none 0 0] 28)
  refine bodyPost_ret (results_cell_row rfl _ _ w.heap.size 28 _ (0, 0) _ (by rfl) hh Tryd.underlying28 rfl (by kernel_rfl)) rfl ?_
  exact ⟨rfl, (Below.refl _ _).alloc (Nat.le_refl _) _⟩
set_option maxHeartbeats 1000000 in
theorem rdWord_c (x : ByteArray) (w : World) : Calls Tryd.prog 67 #[.string x] w fun r w' => r = .returned (.agg #[.int .i64 4, .int .i64 0, .string x, .slice none 0 0, .slice none 0 0]) ∧ Below w.heap.size w w' := by
  have hh := heap_alloc_new w (.cells #[.int .i64 0, .int .i64 0, .string ⟨#[]⟩, .slice none 0 0, .slice none 0 0] 28)
  have hb := (Below.refl w.heap.size w).alloc (Nat.le_refl _) (.cells #[.int .i64 0, .int .i64 0, .string ⟨#[]⟩, .slice none 0 0, .slice none 0 0] 28)
  have HH := Lib.hid hh
  have HB := Lib.hid hb
  clear hh hb
  go_enter Tryd.func67, Tryd.ntmps67
  go_wp2
  (try simp only [Exit.inBlock, Exit.then])
  have hh := heap_alloc_new w (.cells #[.int .i64 4, .int .i64 0, .string x, .slice none 0 0, .slice none 0 0] 28)
  refine bodyPost_ret (results_cell_row rfl _ _ w.heap.size 28 _ (0, 0) _ (by rfl) hh Tryd.underlying28 rfl (by kernel_rfl)) rfl ?_
  exact ⟨rfl, (Below.refl _ _).alloc (Nat.le_refl _) _⟩
theorem head_res {bs : List UInt8} {p : Nat} {c : UInt8} {r : List UInt8} (deep : Bool → List UInt8 → Res JV) (h : bs.drop p = c :: r) : pHead bs.length deep (bs.drop p) =
    if c = 5 then .ok (nullV 0) r
    else if c = 80 then .ok (nullV 1) r
    else if c = 81 then .ok (nullV 2) r
    else if c = 16 then (match pNum bs.length r with | .ok n q => .ok (.mk 3 n ⟨#[]⟩ [] []) q | .bad e p => .bad e p)
    else if c = 32 then (match pText bs.length (bs.length - r.length) r [] with | .ok s q => .ok (.mk 4 0 ⟨s.toArray⟩ [] []) q | .bad e p => .bad e p)
    else if c = 48 then deep true r
    else if c = 64 then deep false r
    else .bad 30 (bs.length - r.length - 1) := by rw [h, pHead]; rfl
theorem rep_flat (k n : Int) (s : ByteArray) (hk : -9223372036854775808 ≤ k ∧ k ≤ 9223372036854775807) (hn : -9223372036854775808 ≤ n ∧ n ≤ 9223372036854775807) (hs : s.size ≤ maxLen) (w : World) (ok : Nat → Prop) :
    Rep w ok (.mk k n s [] []) [.int .i64 k, .int .i64 n, .string s, .slice none 0 0, .slice none 0 0] :=
  rep_mk.2 ⟨hk, hn, hs, none, 0, none, 0, rfl, ⟨Nat.le_refl _, Nat.zero_le _⟩, ⟨Nat.le_refl _, Nat.zero_le _⟩, .inl rfl, .inl rfl⟩
theorem numP_lt (bs : List UInt8) : ∀ (j N0 : Nat) (s : St), N0 < 18446744073709551616 → (numP bs j (N0, s)).1 < 18446744073709551616
  | 0, _, _, h => h
  | j + 1, N0, s, _ => by rw [numP]; exact numP_lt bs j _ _ (numF_lt _ _)
theorem text_res {bs : List UInt8} {p : Nat} {res : Res (List UInt8)} {x : ByteArray} {s : St} (hp : p + 1 ≤ bs.length) (h : RdRes bs (p + 1) res (fun l => x = ⟨l.toArray⟩) s) :
    RdRes bs p (match res with | .ok l q => Res.ok (JV.mk 4 0 ⟨l.toArray⟩ [] []) q | .bad e pl => .bad e pl) (fun a => JV.mk 4 0 x [] [] = a) s := by
  cases res with
  | ok l q =>
    obtain ⟨h1, h2, h3, h4⟩ := h
    exact ⟨by rw [h1], h2, by omega, h4⟩
  | bad e pl =>
    obtain ⟨h1, h2, h3, h4⟩ := h
    exact ⟨h1, h2, h3, by omega⟩
theorem res_later {bs : List UInt8} {p : Nat} {res : Res JV} {good : JV → Prop} {s : St} (hp : p + 1 ≤ bs.length) (h : RdRes bs (p + 1) res good s) : RdRes bs p res good s := by
  cases res with
  | ok l q =>
    obtain ⟨h1, h2, h3, h4⟩ := h
    exact ⟨h1, h2, by omega, h4⟩
  | bad e pl =>
    obtain ⟨h1, h2, h3, h4⟩ := h
    exact ⟨h1, h2, h3, by omega⟩
/-- what follows at a list or an object, k deeper at most -/
def deepP (N : Nat) (k : Nat) (o : Bool) (r : List UInt8) : Res JV := match k with | 0 => .bad 17 (N - r.length - 1) | k + 1 => pItems N (pValue N k) o (r.length + 1) r [] []
theorem pValue_head (N k : Nat) : pValue N k = pHead N (deepP N k) := by
  cases k with
  | zero => rfl
  | succ k => rfl
set_option maxRecDepth 20000 in
set_option maxHeartbeats 8000000 in
theorem rdValue_step (bs : List UInt8) (hbs : bs.length < 1099511627776) (k : Nat) (hk : k ≤ 64) (ih : ∀ k', k = k' + 1 → ValSaid bs k') : ValSaid bs k := by
  intro R A cap p w hR h hT d hd
  subst hd
  have hb1 : Below w.heap.size w (w.alloc (.cells #[.int .i64 0, .int .i64 0, .string ⟨#[]⟩, .slice none 0 0, .slice none 0 0] 28)) := (Below.refl _ _).alloc (Nat.le_refl _) _
  have HT := Lib.hid (utf8_below hT hb1)
  have hrd := h.below hb1
  have HH := Lib.hid h
  have HB1 := Lib.hid hb1
  have HIH := Lib.hid ih
  have HZ0 := Lib.hid (heap_alloc_new w (.cells #[.int .i64 0, .int .i64 0, .string ⟨#[]⟩, .slice none 0 0, .slice none 0 0] 28))
  have hpp := h.pos
  have hRw : R ≠ w.heap.size := by have := h.lt; omega
  have hnx := next_c R A cap bs ⟨p, 0, 0⟩ (w.alloc (.cells #[.int .i64 0, .int .i64 0, .string ⟨#[]⟩, .slice none 0 0, .slice none 0 0] 28)) hrd
  have h1 := hrd.c1
  simp only at hpp h1
  have hrs : ∃ res, pValue bs.length k (bs.drop p) = res := ⟨_, rfl⟩
  obtain ⟨res, hres⟩ := hrs
  rw [hres]
  have HRES := Lib.hid (hres.symm.trans (by rw [pValue_head]))
  clear hT h hb1 ih hrd hres
  by_cases hlt : p < bs.length
  · rw [next_in hlt] at hnx
    have HQ := Lib.hid (HRES.out.trans (head_res (deepP bs.length k) (drop_cons2 hlt)))
    generalize bs[p] = c at *
    go_enter Tryd.func46, Tryd.ntmps46
    go_wp2_with fail
    refine hnx.mono ?_; rintro e w1 ⟨rfl, hr1, hu1⟩
    have k2 : w1.cell? ⟨R, 2, none⟩ = some (.int .i64 0) := hr1.c2
    have hz := (hu1.block (k := w.heap.size) (by simp) (fun e => hRw (Option.some.inj e))).trans HZ0.out
    obtain ⟨⟨z0, z1, z2, z3, z4⟩, y0, y1, y2, y3, y4⟩ := cellsOf5 hz
    have HZ := Lib.hid hz
    have HR1 := Lib.hid (And.intro hr1 hu1)
    have HPL := Lib.hid (show bs.length - (bs.drop (p + 1)).length = p + 1 from drop_at (by omega))
    clear hnx h1 hr1 hu1 hz HRES
    by_cases n5 : c = 5
    · have HQ2 := Lib.hid (HQ.out.trans (if_pos n5))
      clear HQ 
      subst n5
      go_wp2
      (try simp only [Exit.inBlock, Exit.then])
      refine bodyPost_ret (results_cell_row rfl _ _ w.heap.size 28 _ (0, 0) _ (by rfl) (set5 HZ.out) Tryd.underlying28 rfl (by kernel_rfl)) rfl ?_
      have hU := ((Upd.of_below HB1.out (some R)).trans HR1.out.2).trans_below (below_set5 (c0 := .int .i64 0) (c1 := .int .i64 0) (c2 := .string ⟨#[]⟩) (c3 := .slice none 0 0) (c4 := .slice none 0 0) (Below.refl w.heap.size w1) (Nat.le_refl _))
      exact ⟨nullV 0, none, 0, none, 0, ⟨p + 1, 0, 0⟩, rfl, rep_flat 0 0 ⟨#[]⟩ (by omega) (by omega) (Nat.zero_le _) _ _, HH.out.after hU HR1.out.1 (other_set5 hRw), hU, by rw [HQ2.out]; exact ⟨rfl, by rw [HPL.out], by rw [List.length_drop]; omega, by rw [HPL.out]⟩⟩
    by_cases n80 : c = 80
    · have HQ2 := Lib.hid (HQ.out.trans ((if_neg n5).trans <| if_pos n80))
      clear HQ n5
      subst n80
      go_wp2_with fail
      refine (flagF_c _).mono ?_; rintro e w2 ⟨rfl, hb2⟩
      have HZ2 := Lib.hid ((hb2.block w.heap.size (cell_lt z0)).trans HZ.out)
      obtain ⟨⟨q0, q1, q2, q3, q4⟩, p0, p1, p2, p3, p4⟩ := cellsOf5 HZ2.out
      have HR2 := Lib.hid (And.intro (HR1.out.1.below hb2) (HR1.out.2.trans (Upd.of_below hb2 _)))
      clear hb2 z0 z1 z2 z3 z4 y0 y1 y2 y3 y4 k2
      go_wp2
      (try simp only [Exit.inBlock, Exit.then])
      refine bodyPost_ret (results_cell_row rfl _ _ w.heap.size 28 _ (0, 0) _ (by rfl) (set5 HZ2.out) Tryd.underlying28 rfl (by kernel_rfl)) rfl ?_
      have hU := ((Upd.of_below HB1.out (some R)).trans HR2.out.2).trans_below (below_set5 (c0 := .int .i64 1) (c1 := .int .i64 0) (c2 := .string ⟨#[]⟩) (c3 := .slice none 0 0) (c4 := .slice none 0 0) (Below.refl w.heap.size w2) (Nat.le_refl _))
      exact ⟨nullV 1, none, 0, none, 0, ⟨p + 1, 0, 0⟩, rfl, rep_flat 1 0 ⟨#[]⟩ (by omega) (by omega) (Nat.zero_le _) _ _, HH.out.after hU HR2.out.1 (other_set5 hRw), hU, by rw [HQ2.out]; exact ⟨rfl, by rw [HPL.out], by rw [List.length_drop]; omega, by rw [HPL.out]⟩⟩
    by_cases n81 : c = 81
    · have HQ2 := Lib.hid (HQ.out.trans ((if_neg n5).trans <| (if_neg n80).trans <| if_pos n81))
      clear HQ n5 n80
      subst n81
      go_wp2_with fail
      refine (flagT_c _).mono ?_; rintro e w2 ⟨rfl, hb2⟩
      have HZ2 := Lib.hid ((hb2.block w.heap.size (cell_lt z0)).trans HZ.out)
      obtain ⟨⟨q0, q1, q2, q3, q4⟩, p0, p1, p2, p3, p4⟩ := cellsOf5 HZ2.out
      have HR2 := Lib.hid (And.intro (HR1.out.1.below hb2) (HR1.out.2.trans (Upd.of_below hb2 _)))
      clear hb2 z0 z1 z2 z3 z4 y0 y1 y2 y3 y4 k2
      go_wp2
      (try simp only [Exit.inBlock, Exit.then])
      refine bodyPost_ret (results_cell_row rfl _ _ w.heap.size 28 _ (0, 0) _ (by rfl) (set5 HZ2.out) Tryd.underlying28 rfl (by kernel_rfl)) rfl ?_
      have hU := ((Upd.of_below HB1.out (some R)).trans HR2.out.2).trans_below (below_set5 (c0 := .int .i64 2) (c1 := .int .i64 0) (c2 := .string ⟨#[]⟩) (c3 := .slice none 0 0) (c4 := .slice none 0 0) (Below.refl w.heap.size w2) (Nat.le_refl _))
      exact ⟨nullV 2, none, 0, none, 0, ⟨p + 1, 0, 0⟩, rfl, rep_flat 2 0 ⟨#[]⟩ (by omega) (by omega) (Nat.zero_le _) _ _, HH.out.after hU HR2.out.1 (other_set5 hRw), hU, by rw [HQ2.out]; exact ⟨rfl, by rw [HPL.out], by rw [List.length_drop]; omega, by rw [HPL.out]⟩⟩
    by_cases n16 : c = 16
    · have HQ2 := Lib.hid (HQ.out.trans ((if_neg n5).trans <| (if_neg n80).trans <| (if_neg n81).trans <| if_pos n16))
      clear HQ n5 n80 n81
      subst n16
      have hnl := numP_lt bs 8 0 ⟨p + 1, 0, 0⟩ (by decide)
      have HNR := Lib.hid (num_res bs (p + 1) (by omega) p (by omega))
      have hnc := number_c R A cap bs ⟨p + 1, 0, 0⟩ w1 HR1.out.1
      generalize numP bs 8 (0, ⟨p + 1, 0, 0⟩) = nq at *
      obtain ⟨N, s2⟩ := nq
      simp only at hnc hnl
      go_wp2_with fail
      refine hnc.mono ?_; rintro e w2 ⟨rfl, hr2, hu2⟩
      have HZ2 := Lib.hid ((hu2.block (cell_lt z0) (fun e => hRw (Option.some.inj e))).trans HZ.out)
      obtain ⟨⟨q0, q1, q2, q3, q4⟩, p0, p1, p2, p3, p4⟩ := cellsOf5 HZ2.out
      have HR2 := Lib.hid (And.intro hr2 (HR1.out.2.trans hu2))
      clear hnc hr2 hu2 z0 z1 z2 z3 z4 y0 y1 y2 y3 y4 k2
      go_wp2
      (try simp only [Exit.inBlock, Exit.then])
      refine bodyPost_ret (results_cell_row rfl _ _ w.heap.size 28 _ (0, 0) _ (by rfl) (set5 HZ2.out) Tryd.underlying28 rfl (by kernel_rfl)) rfl ?_
      have hU := ((Upd.of_below HB1.out (some R)).trans HR2.out.2).trans_below (below_set5 (c0 := .int .i64 3) (c1 := .int .i64 ((N : Int) - 9223372036854775808)) (c2 := .string ⟨#[]⟩) (c3 := .slice none 0 0) (c4 := .slice none 0 0) (Below.refl w.heap.size w2) (Nat.le_refl _))
      exact ⟨.mk 3 ((N : Int) - 9223372036854775808) ⟨#[]⟩ [] [], none, 0, none, 0, s2, rfl, rep_flat 3 _ ⟨#[]⟩ (by omega) (by omega) (Nat.zero_le _) _ _, HH.out.after hU HR2.out.1 (other_set5 hRw), hU, by rw [HQ2.out]; exact HNR.out⟩
    by_cases n32 : c = 32
    · have HQ2 := Lib.hid (HQ.out.trans ((if_neg n5).trans <| (if_neg n80).trans <| (if_neg n81).trans <| (if_neg n16).trans <| if_pos n32))
      clear HQ n5 n80 n81 n16
      subst n32
      have htx := rdText_c R hR A cap bs (by omega) (p + 1) w1 HR1.out.1 (tabs_upd HT.out HR1.out.2 hR)
      have HQ3 := HQ2.out
      rw [HPL.out] at HQ3
      have HQ4 := Lib.hid HQ3
      clear HQ3 HQ2
      go_wp2_with fail
      refine htx.mono ?_; rintro e w2 ⟨x, s2, rfl, hxs, hr2, hu2, hrs⟩
      have hz2 := (hu2.block (cell_lt z0) (fun e => hRw (Option.some.inj e))).trans HZ.out
      have HR2 := Lib.hid (And.intro hr2 (HR1.out.2.trans hu2))
      have HRS := Lib.hid hrs
      have HZ2' := Lib.hid hz2
      clear htx hr2 hu2 hrs z0 z1 z2 z3 z4 y0 y1 y2 y3 y4 k2 hz2
      go_wp2_with fail
      refine (rdWord_c x _).mono ?_; rintro e w3 ⟨rfl, hb3⟩
      have HZ2 := Lib.hid ((hb3.block w.heap.size (by have := HR2.out.2.grown.size; simp only [World.size_alloc] at this; omega)).trans HZ2'.out)
      obtain ⟨⟨q0, q1, q2, q3, q4⟩, p0, p1, p2, p3, p4⟩ := cellsOf5 HZ2.out
      have HR3 := Lib.hid (And.intro (HR2.out.1.below hb3) (HR2.out.2.trans (Upd.of_below hb3 _)))
      clear hb3
      go_wp2
      (try simp only [Exit.inBlock, Exit.then])
      refine bodyPost_ret (results_cell_row rfl _ _ w.heap.size 28 _ (0, 0) _ (by rfl) (set5 HZ2.out) Tryd.underlying28 rfl (by kernel_rfl)) rfl ?_
      have hU := ((Upd.of_below HB1.out (some R)).trans HR3.out.2).trans_below (below_set5 (c0 := .int .i64 4) (c1 := .int .i64 0) (c2 := .string x) (c3 := .slice none 0 0) (c4 := .slice none 0 0) (Below.refl w.heap.size w3) (Nat.le_refl _))
      exact ⟨.mk 4 0 x [] [], none, 0, none, 0, s2, rfl, rep_flat 4 0 x (by omega) (by omega) (by unfold maxLen; omega) _ _, HH.out.after hU HR3.out.1 (other_set5 hRw), hU, by rw [HQ4.out]; exact text_res (by omega) HRS.out⟩
    by_cases n48 : c = 48
    · have HQ2 := Lib.hid (HQ.out.trans ((if_neg n5).trans <| (if_neg n80).trans <| (if_neg n81).trans <| (if_neg n16).trans <| (if_neg n32).trans <| if_pos n48))
      clear HQ n5 n80 n81 n16 n32
      subst n48
      cases k with
      | zero =>
        have HQ3 := HQ2.out
        unfold deepP at HQ3
        have HPL2 := Lib.hid (show bs.length - (bs.drop (p + 1)).length - 1 = p by rw [HPL.out]; omega)
        simp only [HPL2.out] at HQ3
        have HQ4 := Lib.hid HQ3
        have hfl := fails_c R A cap bs ⟨p + 1, 0, 0⟩ 17 p w1 HR1.out.1
        clear HQ3 HQ2
        go_wp2_with fail
        refine hfl.mono ?_; rintro e w2 ⟨rfl, hr2, hu2⟩
        have HZ2 := Lib.hid ((hu2.block (cell_lt z0) (fun e => hRw (Option.some.inj e))).trans HZ.out)
        obtain ⟨⟨q0, q1, q2, q3, q4⟩, p0, p1, p2, p3, p4⟩ := cellsOf5 HZ2.out
        have HR2 := Lib.hid (And.intro hr2 (HR1.out.2.trans hu2))
        clear hfl hr2 hu2 z0 z1 z2 z3 z4 y0 y1 y2 y3 y4 k2
        go_wp2
        (try simp only [Exit.inBlock, Exit.then])
        refine bodyPost_ret (results_cell_row rfl _ _ w.heap.size 28 _ (0, 0) _ (by rfl) (set5 HZ2.out) Tryd.underlying28 rfl (by kernel_rfl)) rfl ?_
        have hU := ((Upd.of_below HB1.out (some R)).trans HR2.out.2).trans_below (below_set5 (c0 := .int .i64 0) (c1 := .int .i64 0) (c2 := .string ⟨#[]⟩) (c3 := .slice none 0 0) (c4 := .slice none 0 0) (Below.refl w.heap.size w2) (Nat.le_refl _))
        exact ⟨nullV 0, none, 0, none, 0, ⟨p + 1, 17, p⟩, rfl, rep_flat 0 0 ⟨#[]⟩ (by omega) (by omega) (Nat.zero_le _) _ _, HH.out.after hU HR2.out.1 (other_set5 hRw), hU, by rw [HQ4.out]; exact ⟨rfl, rfl, by decide, by show p ≤ p + 1; omega⟩⟩
      | succ k =>
        have HQ3 := Lib.hid (show res = pItems bs.length (pValue bs.length k) true ((bs.drop (p + 1)).length + 1) (bs.drop (p + 1)) [] [] from HQ2.out)
        have hit := fun (d : Int) (hd : d = 63 - k) => rdItems6_c bs hbs k (by omega) (HIH.out k rfl) R A cap (p + 1) w1 hR HR1.out.1 (tabs_upd HT.out HR1.out.2 hR) d hd
        have hdd : ¬ (64 : Int) ≤ 64 - ((k + 1 : Nat) : Int) := by omega
        have hdd2 : ¬ (64 : Int) ≤ 64 - ((k : Int) + 1) := by omega
        clear HQ2
        go_wp2_with fail
        refine (hit _ (by omega)).mono ?_; rintro e w2 ⟨t, tan, tcn, tai, tci, s2, rfl, hrep, hr2, hu2, hrs⟩
        have HZ2 := Lib.hid ((hu2.block (cell_lt z0) (fun e => hRw (Option.some.inj e))).trans HZ.out)
        obtain ⟨⟨q0, q1, q2, q3, q4⟩, p0, p1, p2, p3, p4⟩ := cellsOf5 HZ2.out
        have HR2 := Lib.hid (And.intro hr2 (HR1.out.2.trans hu2))
        have HRS := Lib.hid hrs
        have HREP := Lib.hid hrep
        have hVlt := cell_lt z0
        clear hit hr2 hu2 hrs hrep z0 z1 z2 z3 z4 y0 y1 y2 y3 y4 k2
        go_wp2
        (try simp only [Exit.inBlock, Exit.then])
        refine bodyPost_ret (results_cell_row rfl _ _ w.heap.size 28 _ (0, 0) _ (by rfl) (set5 HZ2.out) Tryd.underlying28 rfl (by kernel_rfl)) rfl ?_
        have hU := ((Upd.of_below HB1.out (some R)).trans HR2.out.2).trans_below (below_set5 (c0 := .int .i64 t.kind) (c1 := .int .i64 t.int) (c2 := .string t.text) (c3 := .slice tan t.names.length tcn) (c4 := .slice tai t.items.length tci) (Below.refl w.heap.size w2) (Nat.le_refl _))
        exact ⟨t, tan, tcn, tai, tci, s2, rfl, Rep.kept (fun b hlt hb => ⟨by have := HR1.out.2.grown.size; simp only [World.size_alloc] at this; omega, other_set5 (by have := HR1.out.2.grown.size; simp only [World.size_alloc] at this; omega)⟩) _ _ HREP.out, HH.out.after hU HR2.out.1 (other_set5 hRw), hU, by rw [HQ3.out]; exact res_later (by omega) HRS.out⟩
    by_cases n64 : c = 64
    · have HQ2 := Lib.hid (HQ.out.trans ((if_neg n5).trans <| (if_neg n80).trans <| (if_neg n81).trans <| (if_neg n16).trans <| (if_neg n32).trans <| (if_neg n48).trans <| if_pos n64))
      clear HQ n5 n80 n81 n16 n32 n48
      subst n64
      cases k with
      | zero =>
        have HQ3 := HQ2.out
        unfold deepP at HQ3
        have HPL2 := Lib.hid (show bs.length - (bs.drop (p + 1)).length - 1 = p by rw [HPL.out]; omega)
        simp only [HPL2.out] at HQ3
        have HQ4 := Lib.hid HQ3
        have hfl := fails_c R A cap bs ⟨p + 1, 0, 0⟩ 17 p w1 HR1.out.1
        clear HQ3 HQ2
        go_wp2_with fail
        refine hfl.mono ?_; rintro e w2 ⟨rfl, hr2, hu2⟩
        have HZ2 := Lib.hid ((hu2.block (cell_lt z0) (fun e => hRw (Option.some.inj e))).trans HZ.out)
        obtain ⟨⟨q0, q1, q2, q3, q4⟩, p0, p1, p2, p3, p4⟩ := cellsOf5 HZ2.out
        have HR2 := Lib.hid (And.intro hr2 (HR1.out.2.trans hu2))
        clear hfl hr2 hu2 z0 z1 z2 z3 z4 y0 y1 y2 y3 y4 k2
        go_wp2
        (try simp only [Exit.inBlock, Exit.then])
        refine bodyPost_ret (results_cell_row rfl _ _ w.heap.size 28 _ (0, 0) _ (by rfl) (set5 HZ2.out) Tryd.underlying28 rfl (by kernel_rfl)) rfl ?_
        have hU := ((Upd.of_below HB1.out (some R)).trans HR2.out.2).trans_below (below_set5 (c0 := .int .i64 0) (c1 := .int .i64 0) (c2 := .string ⟨#[]⟩) (c3 := .slice none 0 0) (c4 := .slice none 0 0) (Below.refl w.heap.size w2) (Nat.le_refl _))
        exact ⟨nullV 0, none, 0, none, 0, ⟨p + 1, 17, p⟩, rfl, rep_flat 0 0 ⟨#[]⟩ (by omega) (by omega) (Nat.zero_le _) _ _, HH.out.after hU HR2.out.1 (other_set5 hRw), hU, by rw [HQ4.out]; exact ⟨rfl, rfl, by decide, by show p ≤ p + 1; omega⟩⟩
      | succ k =>
        have HQ3 := Lib.hid (show res = pItems bs.length (pValue bs.length k) false ((bs.drop (p + 1)).length + 1) (bs.drop (p + 1)) [] [] from HQ2.out)
        have hit := fun (d : Int) (hd : d = 63 - k) => rdItems5_c bs hbs k (by omega) (HIH.out k rfl) R A cap (p + 1) w1 hR HR1.out.1 (tabs_upd HT.out HR1.out.2 hR) d hd
        have hdd : ¬ (64 : Int) ≤ 64 - ((k + 1 : Nat) : Int) := by omega
        have hdd2 : ¬ (64 : Int) ≤ 64 - ((k : Int) + 1) := by omega
        clear HQ2
        go_wp2_with fail
        refine (hit _ (by omega)).mono ?_; rintro e w2 ⟨t, tan, tcn, tai, tci, s2, rfl, hrep, hr2, hu2, hrs⟩
        have HZ2 := Lib.hid ((hu2.block (cell_lt z0) (fun e => hRw (Option.some.inj e))).trans HZ.out)
        obtain ⟨⟨q0, q1, q2, q3, q4⟩, p0, p1, p2, p3, p4⟩ := cellsOf5 HZ2.out
        have HR2 := Lib.hid (And.intro hr2 (HR1.out.2.trans hu2))
        have HRS := Lib.hid hrs
        have HREP := Lib.hid hrep
        have hVlt := cell_lt z0
        clear hit hr2 hu2 hrs hrep z0 z1 z2 z3 z4 y0 y1 y2 y3 y4 k2
        go_wp2
        (try simp only [Exit.inBlock, Exit.then])
        refine bodyPost_ret (results_cell_row rfl _ _ w.heap.size 28 _ (0, 0) _ (by rfl) (set5 HZ2.out) Tryd.underlying28 rfl (by kernel_rfl)) rfl ?_
        have hU := ((Upd.of_below HB1.out (some R)).trans HR2.out.2).trans_below (below_set5 (c0 := .int .i64 t.kind) (c1 := .int .i64 t.int) (c2 := .string t.text) (c3 := .slice tan t.names.length tcn) (c4 := .slice tai t.items.length tci) (Below.refl w.heap.size w2) (Nat.le_refl _))
        exact ⟨t, tan, tcn, tai, tci, s2, rfl, Rep.kept (fun b hlt hb => ⟨by have := HR1.out.2.grown.size; simp only [World.size_alloc] at this; omega, other_set5 (by have := HR1.out.2.grown.size; simp only [World.size_alloc] at this; omega)⟩) _ _ HREP.out, HH.out.after hU HR2.out.1 (other_set5 hRw), hU, by rw [HQ3.out]; exact res_later (by omega) HRS.out⟩
    have HQ2 := Lib.hid (HQ.out.trans ((if_neg n5).trans <| (if_neg n80).trans <| (if_neg n81).trans <| (if_neg n16).trans <| (if_neg n32).trans <| (if_neg n48).trans <| if_neg n64))
    have m5 : ((c.toNat : Int) == 5) = false := by
      rw [beq_eq_false_iff_ne]; intro e
      have e2 : c.toNat = 5 := by omega
      exact n5 (UInt8.toNat_inj.1 e2)
    have m80 : ((c.toNat : Int) == 80) = false := by
      rw [beq_eq_false_iff_ne]; intro e
      have e2 : c.toNat = 80 := by omega
      exact n80 (UInt8.toNat_inj.1 e2)
    have m81 : ((c.toNat : Int) == 81) = false := by
      rw [beq_eq_false_iff_ne]; intro e
      have e2 : c.toNat = 81 := by omega
      exact n81 (UInt8.toNat_inj.1 e2)
    have m16 : ((c.toNat : Int) == 16) = false := by
      rw [beq_eq_false_iff_ne]; intro e
      have e2 : c.toNat = 16 := by omega
      exact n16 (UInt8.toNat_inj.1 e2)
    have m32 : ((c.toNat : Int) == 32) = false := by
      rw [beq_eq_false_iff_ne]; intro e
      have e2 : c.toNat = 32 := by omega
      exact n32 (UInt8.toNat_inj.1 e2)
    have m48 : ((c.toNat : Int) == 48) = false := by
      rw [beq_eq_false_iff_ne]; intro e
      have e2 : c.toNat = 48 := by omega
      exact n48 (UInt8.toNat_inj.1 e2)
    have m64 : ((c.toNat : Int) == 64) = false := by
      rw [beq_eq_false_iff_ne]; intro e
      have e2 : c.toNat = 64 := by omega
      exact n64 (UInt8.toNat_inj.1 e2)
    have HPL2 := Lib.hid (show bs.length - (bs.drop (p + 1)).length - 1 = p by rw [HPL.out]; omega)
    have hfl := fails_c R A cap bs ⟨p + 1, 0, 0⟩ 30 p w1 HR1.out.1
    clear HQ n5 n80 n81 n16 n32 n48 n64
    go_wp2_with fail
    refine hfl.mono ?_; rintro e w2 ⟨rfl, hr2, hu2⟩
    have HZ2 := Lib.hid ((hu2.block (cell_lt z0) (fun e => hRw (Option.some.inj e))).trans HZ.out)
    obtain ⟨⟨q0, q1, q2, q3, q4⟩, p0, p1, p2, p3, p4⟩ := cellsOf5 HZ2.out
    have HR2 := Lib.hid (And.intro hr2 (HR1.out.2.trans hu2))
    clear hfl hr2 hu2 z0 z1 z2 z3 z4 y0 y1 y2 y3 y4 k2
    go_wp2
    (try simp only [Exit.inBlock, Exit.then])
    refine bodyPost_ret (results_cell_row rfl _ _ w.heap.size 28 _ (0, 0) _ (by rfl) (set5 HZ2.out) Tryd.underlying28 rfl (by kernel_rfl)) rfl ?_
    have hU := ((Upd.of_below HB1.out (some R)).trans HR2.out.2).trans_below (below_set5 (c0 := .int .i64 0) (c1 := .int .i64 0) (c2 := .string ⟨#[]⟩) (c3 := .slice none 0 0) (c4 := .slice none 0 0) (Below.refl w.heap.size w2) (Nat.le_refl _))
    exact ⟨nullV 0, none, 0, none, 0, ⟨p + 1, 30, p⟩, rfl, rep_flat 0 0 ⟨#[]⟩ (by omega) (by omega) (Nat.zero_le _) _ _, HH.out.after hU HR2.out.1 (other_set5 hRw), hU, by rw [HQ2.out, HPL2.out]; exact ⟨rfl, rfl, by decide, by show p ≤ p + 1; omega⟩⟩
  · rw [next_out hlt] at hnx
    have HQ := Lib.hid (HRES.out.trans (by rw [List.drop_of_length_le (by omega), pHead]))
    go_enter Tryd.func46, Tryd.ntmps46
    go_wp2_with fail
    refine hnx.mono ?_; rintro e w1 ⟨rfl, hr1, hu1⟩
    have k2 : w1.cell? ⟨R, 2, none⟩ = some (.int .i64 3) := hr1.c2
    have hz := (hu1.block (k := w.heap.size) (by simp) (fun e => hRw (Option.some.inj e))).trans HZ0.out
    obtain ⟨⟨z0, z1, z2, z3, z4⟩, y0, y1, y2, y3, y4⟩ := cellsOf5 hz
    have HZ := Lib.hid hz
    have HR1 := Lib.hid (And.intro hr1 hu1)
    clear hnx h1 hr1 hu1 hz HRES
    go_wp2
    (try simp only [Exit.inBlock, Exit.then])
    refine bodyPost_ret (results_cell_row rfl _ _ w.heap.size 28 _ (0, 0) _ (by rfl) (set5 HZ.out) Tryd.underlying28 rfl (by kernel_rfl)) rfl ?_
    have hU := ((Upd.of_below HB1.out (some R)).trans HR1.out.2).trans_below (below_set5 (c0 := .int .i64 0) (c1 := .int .i64 0) (c2 := .string ⟨#[]⟩) (c3 := .slice none 0 0) (c4 := .slice none 0 0) (Below.refl w.heap.size w1) (Nat.le_refl _))
    exact ⟨nullV 0, none, 0, none, 0, ⟨p, 3, bs.length⟩, rfl, rep_flat 0 0 ⟨#[]⟩ (by omega) (by omega) (Nat.zero_le _) _ _, HH.out.after hU HR1.out.1 (other_set5 hRw), hU, by rw [HQ.out]; exact ⟨rfl, rfl, by decide, Nat.le_refl _⟩⟩
theorem rdValue_all (bs : List UInt8) (hbs : bs.length < 1099511627776) : ∀ (k : Nat), k ≤ 64 → ValSaid bs k
  | 0, _ => rdValue_step bs hbs 0 (by omega) (fun k' h => by cases h)
  | k + 1, hk => rdValue_step bs hbs (k + 1) hk (fun k' h => by cases h; exact rdValue_all bs hbs k (by omega))
end Go.Proofs.YtjmhoccikbgigaaDoor
namespace Go.Proofs.YtjmhoccikbgigaaDoor
open Go.RowKit
/-- what FromBytes answers -/
def FromPost (bs : List UInt8) (w : World) (r : Ending) (w' : World) : Prop :=
  ∃ (t : JV) (an : Option Addr) (cn : Nat) (ai : Option Addr) (ci : Nat) (e pl : Nat), r = .returned (.tuple #[.agg #[.int .i64 t.kind, .int .i64 t.int, .string t.text, .slice an t.names.length cn, .slice ai t.items.length ci], .int .i64 e, .int .i64 pl]) ∧
    Rep w' (fun b => w.heap.size ≤ b) t [.int .i64 t.kind, .int .i64 t.int, .string t.text, .slice an t.names.length cn, .slice ai t.items.length ci] ∧ Below w.heap.size w w' ∧
    (match pAll bs with | .ok v _ => t = v ∧ e = 0 ∧ pl = 0 | .bad e' p' => t = nullV 0 ∧ e = e' ∧ pl = p' ∧ e' ≠ 0)
theorem tabs_two {w : World} (hT : Lib.Utf8Tabs 0 1 w) : 2 ≤ w.heap.size := by
  have := cell_lt (hT.2 0 (by decide)).1
  simp only at this
  omega
theorem all_ok {bs : List UInt8} {v : JV} (h : pValue bs.length 64 bs = .ok v []) : pAll bs = .ok v [] := by unfold pAll; rw [h]; rfl
theorem all_tail {bs q : List UInt8} {v : JV} (h : pValue bs.length 64 bs = .ok v q) (hq : q ≠ []) : pAll bs = .bad 4 (bs.length - q.length) := by
  unfold pAll; rw [h]; exact if_neg hq
theorem all_bad {bs : List UInt8} {e pl : Nat} (h : pValue bs.length 64 bs = .bad e pl) : pAll bs = .bad e pl := by unfold pAll; rw [h]
theorem set5d {w : World} {B : Nat} {T : TypeId} {u0 u1 u2 u3 u4 c0 c1 c2 c3 c4 : Value} (h : w.heap[B]? = some (.cells #[u0, u1, u2, u3, u4] T (0, 0))) :
    (((((w.setCell ⟨B, 0, none⟩ c0).setCell ⟨B, 1, none⟩ c1).setCell ⟨B, 2, none⟩ c2).setCell ⟨B, 3, none⟩ c3).setCell ⟨B, 4, none⟩ c4).drew.heap[B]? = some (.cells #[c0, c1, c2, c3, c4] T (0, 0)) := by
  rw [show ∀ W : World, W.drew.heap = W.heap from fun _ => rfl]
  exact set5 h
set_option maxRecDepth 20000 in
set_option maxHeartbeats 8000000 in
theorem fromBytes_c (bs : List UInt8) (hbs : bs.length < 1099511627776) (A : Option Addr) (cap : Nat) (hc : bs.length ≤ cap ∧ cap ≤ maxLen) (w : World) (hl : bs = [] ∨ ∃ G off, A = some ⟨G, off, none⟩ ∧ Lie w G off (bytesV bs)) (hT : Lib.Utf8Tabs 0 1 w) :
    Calls Tryd.prog 22 #[.slice A bs.length cap] w (FromPost bs w) := by
  have h2 := tabs_two hT
  have hb0 : Below w.heap.size w (w.alloc (.cells #[.int .i64 0, .int .i64 0, .string ⟨#[]⟩, .slice none 0 0, .slice none 0 0] 28)) := (Below.refl _ _).alloc (Nat.le_refl _) _
  have hl1 : bs = [] ∨ ∃ G off, A = some ⟨G, off, none⟩ ∧ Lie (w.alloc (.cells #[.int .i64 0, .int .i64 0, .string ⟨#[]⟩, .slice none 0 0, .slice none 0 0] 28)) G off (bytesV bs) := by
    rcases hl with h | ⟨G, o, h, h3⟩
    · exact .inl h
    · exact .inr ⟨G, o, h, lie_below h3 hb0⟩
  have hrd := rd_new (T := 61) hc hl1
  have hb1 : Below (w.alloc (.cells #[.int .i64 0, .int .i64 0, .string ⟨#[]⟩, .slice none 0 0, .slice none 0 0] 28)).heap.size (w.alloc (.cells #[.int .i64 0, .int .i64 0, .string ⟨#[]⟩, .slice none 0 0, .slice none 0 0] 28)) ((w.alloc (.cells #[.int .i64 0, .int .i64 0, .string ⟨#[]⟩, .slice none 0 0, .slice none 0 0] 28)).alloc (.cells #[.slice A bs.length cap, .int .i64 0, .int .i64 0, .int .i64 0] 61)) := (Below.refl _ _).alloc (Nat.le_refl _) _
  have hz0 := heap_alloc_new w (.cells #[.int .i64 0, .int .i64 0, .string ⟨#[]⟩, .slice none 0 0, .slice none 0 0] 28)
  have hval := rdValue_all bs hbs 64 (Nat.le_refl _) _ A cap 0 _ (by simp only [World.size_alloc]; omega) hrd (utf8_below (utf8_below hT hb0) hb1) 0 (by decide)
  have HB1 := Lib.hid (And.intro hb0 (And.intro hb1 ((hb1.block w.heap.size (by simp)).trans hz0)))
  simp only [World.size_alloc] at hval
  rw [List.drop_zero] at hval
  unfold maxLen at hc
  have hlen : bs.length ≤ 9223372036854775807 := by omega
  have HA1 := Lib.hid (fun (v : JV) => @all_ok bs v)
  have HA2 := Lib.hid (fun (q : List UInt8) (v : JV) => @all_tail bs q v)
  have HA3 := Lib.hid (fun (e pl : Nat) => @all_bad bs e pl)
  clear hrd hb0 hb1 hz0 hT hl hl1
  generalize pValue bs.length 64 bs = rv at *
  go_enter Tryd.func22, Tryd.ntmps22
  go_wp2_with fail
  refine hval.mono ?_; rintro e w1 ⟨t, tan, tcn, tai, tci, s, rfl, hrep, hr1, hu1, hrs⟩
  have hb3 : Below w1.heap.size w1 (w1.alloc (.cells #[.int .i64 t.kind, .int .i64 t.int, .string t.text, .slice tan t.names.length tcn, .slice tai t.items.length tci] 28)) := (Below.refl _ _).alloc (Nat.le_refl _) _
  have hz := (hu1.block (k := w.heap.size) (by simp; omega) (fun e => by have := Option.some.inj e; omega)).trans HB1.out.2.2
  have hsz1 : w.heap.size + 2 ≤ w1.heap.size := by have := hu1.grown.size; simp only [World.size_alloc] at this; omega
  have hbw : Below w.heap.size w w1 := (HB1.out.1.trans (HB1.out.2.1.mono HB1.out.1.size)).trans (hu1.below (by simp; omega) (fun g hg => by have := Option.some.inj hg; omega))
  have hz3 := (hb3.block w.heap.size (by omega)).trans hz
  have hr3 := hr1.below hb3
  obtain ⟨⟨z0, z1, z2, z3, z4⟩, y0, y1, y2, y3, y4⟩ := cellsOf5 hz3
  obtain ⟨⟨x0, x1, x2, x3, x4⟩, _⟩ := cellsOf5 (heap_alloc_new w1 (.cells #[.int .i64 t.kind, .int .i64 t.int, .string t.text, .slice tan t.names.length tcn, .slice tai t.items.length tci] 28))
  have k1 := hr3.c1
  have k2 := hr3.c2
  have k3 := hr3.c3
  have hbw3 := hbw.trans (hb3.mono hbw.size)
  have HZ := Lib.hid (And.intro hz3 (And.intro hbw3 (And.intro (hrep.below hb3) hr3)))
  have hpos := hr1.pos
  clear hval hz hbw hz3 hb3 hr1 hu1 hr3 hrep hbw3
  cases rv with
  | ok a q =>
    obtain ⟨rfl, rfl, hq1, hq2⟩ := hrs
    have HQ := Lib.hid hq1
    clear hq2
    by_cases hq : q = []
    · subst hq
      have HR := Lib.hid (HA1.out _ rfl)
      simp only [List.length_nil, Nat.sub_zero] at k1 k2 k3 HZ
      clear hq1
      go_wp2
      (try simp only [Exit.inBlock, Exit.then])
      refine bodyPost_ret (results_cell2 rfl _ _ w.heap.size 28 _ (0, 0) _ (by rfl) (set5 HZ.out.1) Tryd.underlying28 rfl (by kernel_rfl)) rfl ?_
      refine ⟨t, tan, tcn, tai, tci, 0, 0, rfl, Rep.kept (fun b hlt hb => ⟨by simp only [World.size_alloc] at hb; omega, other_set5 (by simp only [World.size_alloc] at hb; omega)⟩) _ _ HZ.out.2.2.1, below_set5 HZ.out.2.1 (Nat.le_refl _), ?_⟩
      rw [HR.out]
      exact ⟨rfl, rfl, rfl⟩
    · have HR := Lib.hid (HA2.out _ _ rfl hq)
      have hql : 0 < q.length := List.length_pos_iff.2 hq
      have hap : ((bs.length - q.length : Nat) : Int) < (bs.length : Int) := by omega
      have hfl := fails_c _ A cap bs ⟨bs.length - q.length, 0, 0⟩ 4 (bs.length - q.length) _ HZ.out.2.2.2
      simp only at k1 k2 k3
      clear hq1 hq
      generalize bs.length - q.length = a at *
      go_wp2_with fail
      refine hfl.mono ?_; rintro e w2 ⟨rfl, hr2, hu2⟩
      have hz4 := (hu2.block (k := w.heap.size) (by simp; omega) (fun e => by have := Option.some.inj e; omega)).trans HZ.out.1
      obtain ⟨⟨q0, q1, q2, q3, q4⟩, p0, p1, p2, p3, p4⟩ := cellsOf5 hz4
      have j2 : w2.cell? ⟨w.heap.size + 1, 2, none⟩ = some (.int .i64 4) := hr2.c2
      have j3 : w2.cell? ⟨w.heap.size + 1, 3, none⟩ = some (.int .i64 (a : Int)) := hr2.c3
      have HZ2 := Lib.hid (And.intro hz4 (HZ.out.2.1.trans (hu2.below (by simp; omega) (fun g hg => by have := Option.some.inj hg; omega))))
      clear hfl hz4 hr2 hu2 z0 z1 z2 z3 z4 y0 y1 y2 y3 y4 x0 x1 x2 x3 x4 k1 k2 k3
      go_wp2
      go_region_law (fail)
      all_goals clear j2 j3 q0 q1 q2 q3 q4 p0 p1 p2 p3 p4
      all_goals go_wp2
      all_goals (try simp only [Exit.inBlock, Exit.then])
      all_goals refine bodyPost_ret (results_cell2 rfl _ _ w.heap.size 28 _ (0, 0) _ (by rfl) (set5d HZ2.out.1) Tryd.underlying28 rfl (by kernel_rfl)) rfl ?_
      all_goals refine ⟨nullV 0, none, 0, none, 0, 4, a, rfl, rep_flat 0 0 ⟨#[]⟩ (by omega) (by omega) (Nat.zero_le _) _ _, (below_set5 HZ2.out.2 (Nat.le_refl _)).drew, ?_⟩
      all_goals rw [HR.out]
      all_goals exact ⟨rfl, rfl, rfl, by decide⟩
  | bad e pl =>
    obtain ⟨h1, h3, he, _⟩ := hrs
    have HR := Lib.hid (HA3.out _ _ rfl)
    rw [h1] at k2
    rw [h3] at k3
    have heb : ((e : Int) == 0) = false := by simp [he]
    have hen : ((e : Int) != 0) = true := by simp only [bne, heb]; rfl
    have HE := Lib.hid he
    have hz4 := HZ.out.1
    have HZ2 := Lib.hid (And.intro hz4 HZ.out.2.1)
    have hlt1 : w.heap.size + 1 < w1.heap.size := by omega
    clear hz4 h1 h3 he x0 x1 x2 x3 x4
    go_wp2
    generalize w1.alloc (.cells #[.int .i64 t.kind, .int .i64 t.int, .string t.text, .slice tan t.names.length tcn, .slice tai t.items.length tci] 28) = w2 at *
    go_region_law (fail)
    all_goals clear k1 k2 k3 z0 z1 z2 z3 z4 y0 y1 y2 y3 y4
    all_goals go_wp2
    all_goals (try simp only [Exit.inBlock, Exit.then])
    all_goals refine bodyPost_ret (results_cell2 rfl _ _ w.heap.size 28 _ (0, 0) _ (by rfl) (set5d HZ2.out.1) Tryd.underlying28 rfl (by kernel_rfl)) rfl ?_
    all_goals refine ⟨nullV 0, none, 0, none, 0, e, pl, rfl, rep_flat 0 0 ⟨#[]⟩ (by omega) (by omega) (Nat.zero_le _) _ _, (below_set5 HZ2.out.2 (Nat.le_refl _)).drew, ?_⟩
    all_goals rw [HR.out]
    all_goals exact ⟨rfl, rfl, rfl, HE.out⟩
end Go.Proofs.YtjmhoccikbgigaaDoor
