/- A value that is being copied: what memory holds on the way. Conditions: none. -/
import Derived.Test.YtnmojmmgkipjcaaGreatDoorPartsw
import Derived.Test.YtnmojmmgkipjcaaGreatDoorBasea
import Derived.Deep.RegionHeld3
import Derived.Deep.AppendLies
import Derived.Deep.DeepCutAuto
namespace Go.Proofs.YtnmojmmgkipjcaaGreatDoor
open Go.RowKit
theorem strTy : SlTy Tryz.prog 22 9 (.string ByteArray.empty) 1 16 := ⟨by kernel_rfl, by kernel_rfl, by kernel_rfl, by decide⟩
theorem valTy : SlTy Tryz.prog 23 25 (.agg #[.int .i64 0, .int .i64 0, .string ByteArray.empty, .slice none 0 0, .slice none 0 0]) 5 80 := ⟨by kernel_rfl, by kernel_rfl, by kernel_rfl, by decide⟩
theorem cells5' (w : World) (c0 c1 c2 c3 c4 : Value) (T : TypeId) : (w.alloc (.cells #[c0, c1, c2, c3, c4] T)).cell? ⟨w.heap.size, 0, none⟩ = some c0 ∧ (w.alloc (.cells #[c0, c1, c2, c3, c4] T)).cell? ⟨w.heap.size, 1, none⟩ = some c1 ∧
    (w.alloc (.cells #[c0, c1, c2, c3, c4] T)).cell? ⟨w.heap.size, 2, none⟩ = some c2 ∧ (w.alloc (.cells #[c0, c1, c2, c3, c4] T)).cell? ⟨w.heap.size, 3, none⟩ = some c3 ∧ (w.alloc (.cells #[c0, c1, c2, c3, c4] T)).cell? ⟨w.heap.size, 4, none⟩ = some c4 := by
  refine ⟨by simp [go_sem], by simp [go_sem], by simp [go_sem], by simp [go_sem], by simp [go_sem]⟩
theorem rowMade {W : World} {E : TypeId} {size B : Nat} (hB : W.heap.size = B) : Row (W.alloc (.cells #[] E)).drew E size (.slice (some ⟨B, 0, none⟩) 0 0) 0 [] := by
  subst hB
  exact World.ownsRow_made W #[] 0 (Nat.zero_le _) (Nat.zero_le _) (by simp)
theorem rowMade2 {W : World} {o : Obj} {E : TypeId} {size B : Nat} (hB : W.heap.size = B) : Row ((W.alloc (.cells #[] E)).alloc o).drew E size (.slice (some ⟨B, 0, none⟩) 0 0) 0 [] :=
  Row.below (rowMade hB) ((Below.refl _ _).alloc (Nat.le_refl _) _)
theorem one_strs (l : List ByteArray) : ∀ u ∈ l.map Value.string, u.oneCell' = true := by
  intro u hu
  obtain ⟨x, _, rfl⟩ := List.mem_map.1 hu
  rfl
theorem keep4 {w0 w' : World} (h : Below w0.heap.size w0 w') {p0 p1 p2 p3 : Addr} {v0 v1 v2 v3 : Value} (h0 : w0.cell? p0 = some v0) (h1 : w0.cell? p1 = some v1) (h2 : w0.cell? p2 = some v2) (h3 : w0.cell? p3 = some v3) :
    w'.cell? p0 = some v0 ∧ w'.cell? p1 = some v1 ∧ w'.cell? p2 = some v2 ∧ w'.cell? p3 = some v3 := ⟨cell_below h h0, cell_below h h1, cell_below h h2, cell_below h h3⟩
theorem Upd.of_setCell (w : World) (p : Addr) (u : Value) : Upd w (w.setCell p u) (some p.block) (some p.block) :=
  ⟨⟨rfl, rfl, rfl, by simp, fun k _ hne => heap_setCell_other _ _ _ _ (fun e => hne (by rw [e]))⟩, .inl rfl⟩
theorem Upd.new5 {w w' : World} {r r' : Option Nat} (h : Upd w w' r r') {B : Nat} {c0 c1 c2 c3 c4 : Value} {T : TypeId} (hb : w.heap[B]? = some (.cells #[c0, c1, c2, c3, c4] T (0, 0))) (hne : r ≠ some B) :
    w'.cell? ⟨B, 0, none⟩ = some c0 ∧ w'.cell? ⟨B, 1, none⟩ = some c1 ∧ w'.cell? ⟨B, 2, none⟩ = some c2 ∧ w'.cell? ⟨B, 3, none⟩ = some c3 ∧ w'.cell? ⟨B, 4, none⟩ = some c4 ∧
    w'.frozen? ⟨B, 0, none⟩ = false ∧ w'.frozen? ⟨B, 1, none⟩ = false ∧ w'.frozen? ⟨B, 2, none⟩ = false ∧ w'.frozen? ⟨B, 3, none⟩ = false ∧ w'.frozen? ⟨B, 4, none⟩ = false := by
  have hlt : B < w.heap.size := by
    rcases Nat.lt_or_ge B w.heap.size with hlt | hge
    · exact hlt
    · rw [Array.getElem?_eq_none hge] at hb; cases hb
  have hb' : w'.heap[B]? = _ := (h.block hlt hne).trans hb
  exact ⟨cell_of_row _ _ _ _ _ _ hb', cell_of_row _ _ _ _ _ _ hb', cell_of_row _ _ _ _ _ _ hb', cell_of_row _ _ _ _ _ _ hb', cell_of_row _ _ _ _ _ _ hb', frozen_of_row _ _ _ _ _ hb', frozen_of_row _ _ _ _ _ hb', frozen_of_row _ _ _ _ _ hb', frozen_of_row _ _ _ _ _ hb', frozen_of_row _ _ _ _ _ hb'⟩
theorem Upd.newA {W w' : World} {r' : Option Nat} {B : Nat} {z : Obj} {c0 c1 c2 c3 c4 : Value} {T : TypeId} (h : Upd ((W.alloc z).alloc (.cells #[c0, c1, c2, c3, c4] T)).drew w' (some B) r') (hB : W.heap.size = B) :
    w'.cell? ⟨B + 1, 0, none⟩ = some c0 ∧ w'.cell? ⟨B + 1, 1, none⟩ = some c1 ∧ w'.cell? ⟨B + 1, 2, none⟩ = some c2 ∧ w'.cell? ⟨B + 1, 3, none⟩ = some c3 ∧ w'.cell? ⟨B + 1, 4, none⟩ = some c4 ∧
    w'.frozen? ⟨B + 1, 0, none⟩ = false ∧ w'.frozen? ⟨B + 1, 1, none⟩ = false ∧ w'.frozen? ⟨B + 1, 2, none⟩ = false ∧ w'.frozen? ⟨B + 1, 3, none⟩ = false ∧ w'.frozen? ⟨B + 1, 4, none⟩ = false := by
  subst hB
  exact h.new5 (heap_alloc2_new W _ _) (by simp)
theorem Upd.newB {W w' : World} {r' : Option Nat} {B : Nat} {z : Obj} {c0 c1 c2 c3 c4 : Value} {T : TypeId} (h : Upd ((W.alloc (.cells #[c0, c1, c2, c3, c4] T)).alloc z).drew w' (some (B + 1)) r') (hB : W.heap.size = B) :
    w'.cell? ⟨B, 0, none⟩ = some c0 ∧ w'.cell? ⟨B, 1, none⟩ = some c1 ∧ w'.cell? ⟨B, 2, none⟩ = some c2 ∧ w'.cell? ⟨B, 3, none⟩ = some c3 ∧ w'.cell? ⟨B, 4, none⟩ = some c4 ∧
    w'.frozen? ⟨B, 0, none⟩ = false ∧ w'.frozen? ⟨B, 1, none⟩ = false ∧ w'.frozen? ⟨B, 2, none⟩ = false ∧ w'.frozen? ⟨B, 3, none⟩ = false ∧ w'.frozen? ⟨B, 4, none⟩ = false := by
  subst hB
  exact h.new5 (heap_alloc2_old W _ _) (by simp)
theorem Upd.own' {w w' : World} {r : Nat} {r' : Option Nat} (h : Upd w w' (some r) r') : ∀ g, r' = some g → g = r ∨ w.heap.size ≤ g := by
  intro g hg
  rcases h.own with e | ⟨g', e, hg'⟩
  · left; rw [hg] at e; exact Option.some.inj e
  · right; rw [hg] at e; rw [Option.some.inj e]; exact hg'
/-- A new value at B, its names copied, no items yet. Beside what stood in the world w0, and beside the result's own cells. -/
def Dest (w0 : World) (B : Nat) (k n : Int) (s : ByteArray) (a : Option Addr) (ns : List ByteArray) (c : Nat) (wx : World) : Prop :=
  Below w0.heap.size w0 wx ∧ w0.heap.size ≤ B ∧ B < wx.heap.size ∧ wx.cell? ⟨B, 0, none⟩ = some (.int .i64 k) ∧ wx.cell? ⟨B, 1, none⟩ = some (.int .i64 n) ∧ wx.cell? ⟨B, 2, none⟩ = some (.string s) ∧ wx.cell? ⟨B, 3, none⟩ = some (.slice a ns.length c) ∧
    wx.cell? ⟨B, 4, none⟩ = some (.slice none 0 0) ∧ wx.frozen? ⟨B, 4, none⟩ = false ∧ (ns.length ≤ c ∧ c ≤ maxLen) ∧ StrsAt wx (fun b => w0.heap.size ≤ b ∧ b ≠ B) a ns
theorem dest_alloc {w0 w1 : World} {E T : TypeId} {k n : Int} {s : ByteArray} {a : Option Addr} {ns : List ByteArray} {c r N : Nat} (hbl : Below w0.heap.size w0 w1) (hs : w0.heap.size ≤ w1.heap.size)
    (hrow : Row w1 E 1 (.slice a ns.length c) ns.length (ns.map Value.string)) (ho : ∀ g, (Value.slice a ns.length c).ownBlock = some g → g = r ∨ N ≤ g) (hr : w0.heap.size ≤ r) (hN : w0.heap.size ≤ N) :
    Dest w0 w1.heap.size k n s a ns c (w1.alloc (.cells #[.int .i64 k, .int .i64 n, .string s, .slice a ns.length c, .slice none 0 0] T)) := by
  obtain ⟨a0, a1, a2, a3, a4⟩ := cells5' w1 (.int .i64 k) (.int .i64 n) (.string s) (.slice a ns.length c) (.slice none 0 0) T
  obtain ⟨a', c', he, hc, hst⟩ := hrow.strs (ok := fun b => w0.heap.size ≤ b ∧ b ≠ w1.heap.size) (fun g hg => ⟨by rcases ho g hg with h | h <;> omega, by have := hrow.lt hg; omega⟩)
  injection he with h1 _ h2
  subst h1; subst h2
  exact ⟨hbl.alloc (hs) _, hs, by simp, a0, a1, a2, a3, a4, frozen_of_row _ _ _ _ _ (heap_alloc_new _ _), hc, hst.below ((Below.refl _ _).alloc (Nat.le_refl _) _)⟩
theorem dest_set {w0 w1 : World} {E : TypeId} {B : Nat} {k n : Int} {s : ByteArray} {a : Option Addr} {ns : List ByteArray} {c r N : Nat} {u0 u1 u2 u3 u4 : Value} (hbl : Below w0.heap.size w0 w1)
    (hrow : Row w1 E 1 (.slice a ns.length c) ns.length (ns.map Value.string)) (ho : ∀ g, (Value.slice a ns.length c).ownBlock = some g → g = r ∨ N ≤ g) (hr : w0.heap.size ≤ r) (hN : w0.heap.size ≤ N) (hB : w0.heap.size ≤ B) (hBr : r ≠ B) (hBN : B < N)
    (q0 : w1.cell? ⟨B, 0, none⟩ = some u0) (q1 : w1.cell? ⟨B, 1, none⟩ = some u1) (q2 : w1.cell? ⟨B, 2, none⟩ = some u2) (q3 : w1.cell? ⟨B, 3, none⟩ = some u3) (q4 : w1.cell? ⟨B, 4, none⟩ = some u4) (q9 : w1.frozen? ⟨B, 4, none⟩ = false) :
    Dest w0 B k n s a ns c (((((w1.setCell ⟨B, 0, none⟩ (.int .i64 k)).setCell ⟨B, 1, none⟩ (.int .i64 n)).setCell ⟨B, 2, none⟩ (.string s)).setCell ⟨B, 3, none⟩ (.slice a ns.length c)).setCell ⟨B, 4, none⟩ (.slice none 0 0)) := by
  obtain ⟨a', c', he, hc, hst⟩ := hrow.strs (ok := fun b => w0.heap.size ≤ b ∧ b ≠ B) (fun g hg => ⟨by rcases ho g hg with h | h <;> omega, by rcases ho g hg with h | h <;> omega⟩)
  injection he with h1 _ h2
  subst h1; subst h2
  have ne : ∀ {i j : Nat}, i ≠ j → (⟨B, i, none⟩ : Addr) ≠ ⟨B, j, none⟩ := fun h e => h (by injection e)
  have hlt := cell_lt q0
  refine ⟨?_, hB, by simpa using hlt, ?_, ?_, ?_, ?_, ?_, ?_, hc, ?_⟩
  · have h' : w0.heap.size ≤ B := hB
    exact ((((hbl.setCell h' _).setCell h' _).setCell h' _).setCell h' _).setCell h' _
  · rw [setO (ne (by decide)), setO (ne (by decide)), setO (ne (by decide)), setO (ne (by decide)), setS q0]
  · rw [setO (ne (by decide)), setO (ne (by decide)), setO (ne (by decide)), setS (by rw [setO (ne (by decide))]; exact q1)]
  · rw [setO (ne (by decide)), setO (ne (by decide)), setS (by rw [setO (ne (by decide)), setO (ne (by decide))]; exact q2)]
  · rw [setO (ne (by decide)), setS (by rw [setO (ne (by decide)), setO (ne (by decide)), setO (ne (by decide))]; exact q3)]
  · rw [setS (by rw [setO (ne (by decide)), setO (ne (by decide)), setO (ne (by decide)), setO (ne (by decide))]; exact q4)]
  · rw [setF, setF, setF, setF, setF]; exact q9
  · refine hst.kept fun b _ hb => ⟨hb, ?_⟩
    rw [heap_setCell_other _ _ _ _ hb.2, heap_setCell_other _ _ _ _ hb.2, heap_setCell_other _ _ _ _ hb.2, heap_setCell_other _ _ _ _ hb.2, heap_setCell_other _ _ _ _ hb.2]
/-- A new value at B, its names copied, the items is copied so far into the row v. -/
structure Mid (w0 : World) (B : Nat) (E : TypeId) (k n : Int) (s : ByteArray) (a : Option Addr) (ns : List ByteArray) (c : Nat) (is : List JV) (v : Value) (xs : List Value) (wr : World) : Prop where
  below : Below w0.heap.size w0 wr
  hB : w0.heap.size ≤ B
  hlt : B < wr.heap.size
  c0 : wr.cell? ⟨B, 0, none⟩ = some (.int .i64 k)
  c1 : wr.cell? ⟨B, 1, none⟩ = some (.int .i64 n)
  c2 : wr.cell? ⟨B, 2, none⟩ = some (.string s)
  c3 : wr.cell? ⟨B, 3, none⟩ = some (.slice a ns.length c)
  c4 : wr.cell? ⟨B, 4, none⟩ = some v
  f4 : wr.frozen? ⟨B, 4, none⟩ = false
  hc : ns.length ≤ c ∧ c ≤ maxLen
  row : Row wr E 5 v is.length xs
  own : ∀ g, v.ownBlock = some g → w0.heap.size ≤ g ∧ g ≠ B
  reps : Reps wr (fun b => w0.heap.size ≤ b ∧ b ≠ B ∧ v.ownBlock ≠ some b) is xs
  strs : StrsAt wr (fun b => w0.heap.size ≤ b ∧ b ≠ B ∧ v.ownBlock ≠ some b) a ns
theorem Dest.mid {w0 : World} {B : Nat} {E : TypeId} {k n : Int} {s : ByteArray} {a : Option Addr} {ns : List ByteArray} {c : Nat} {wx : World} (h : Dest w0 B k n s a ns c wx) : Mid w0 B E k n s a ns c [] (.slice none 0 0) [] wx := by
  obtain ⟨h1, h2, h3, h4, h5, h6, h7, h8, h9, h10, h11⟩ := h
  exact ⟨h1, h2, h3, h4, h5, h6, h7, h8, h9, h10, row_nil _ _ _, fun g hg => (by cases hg), rfl, h11.kept fun b _ hb => ⟨⟨hb.1, hb.2, by simp [Value.ownBlock]⟩, rfl⟩⟩
theorem Mid.step {w0 : World} {B : Nat} {E : TypeId} {k n : Int} {s : ByteArray} {a : Option Addr} {ns : List ByteArray} {c : Nat} {is : List JV} {v : Value} {xs : List Value} {wr : World} (h : Mid w0 B E k n s a ns c is v xs wr)
    {t : JV} {cs : List Value} {w1 w2 w3 : World} {v' : Value} (hb : Below wr.heap.size wr w1) (ht : Rep w1 (fun b => wr.heap.size ≤ b) t cs) (hb2 : Below w1.heap.size w1 w2)
    (hrow : Row w3 E 5 v' (is.length + 1) (xs ++ cs)) (hu : Upd w2 w3 v.ownBlock v'.ownBlock) :
    Mid w0 B E k n s a ns c (is ++ [t]) v' (xs ++ cs) (w3.setCell ⟨B, 4, none⟩ v') := by
  have hB := h.hB
  have hlt := h.hlt
  have hb3 : Below wr.heap.size wr w2 := hb.trans (hb2.mono hb.size)
  have hsz := hb.size
  have hsz2 := hb2.size
  have hsz3 := hu.grown.size
  have hownB : v.ownBlock ≠ some B := fun e => (h.own B e).2 rfl
  have hown' : ∀ g, v'.ownBlock = some g → w0.heap.size ≤ g ∧ g ≠ B := by
    intro g hg
    rcases hu.own with e | ⟨g', e, hg'⟩
    · rw [e] at hg; exact h.own g hg
    · rw [e] at hg; obtain rfl := Option.some.inj hg; omega
  have hother : ∀ b, b < wr.heap.size → v.ownBlock ≠ some b → w3.heap[b]? = wr.heap[b]? := fun b hbl hne => (hu.block (by omega) hne).trans (hb3.block b hbl)
  have hcell : ∀ (i : Nat) (u : Value), wr.cell? ⟨B, i, none⟩ = some u → w3.cell? ⟨B, i, none⟩ = some u := fun i u hc => by
    rw [World.cell?_of_block (w := wr) (hother B hlt hownB)]; exact hc
  have ne : ∀ {i : Nat}, i ≠ 4 → (⟨B, 4, none⟩ : Addr) ≠ ⟨B, i, none⟩ := fun h e => h (by injection e with _ e; exact e.symm)
  have hown2 : ∀ b, b < wr.heap.size → v.ownBlock ≠ some b → v'.ownBlock ≠ some b := by
    intro b hbl hne hg
    rcases hu.own with e | ⟨g', e, hg'⟩
    · rw [e] at hg; exact hne hg
    · rw [e] at hg; obtain rfl := Option.some.inj hg; omega
  have hkeep : ∀ b, b < wr.heap.size → (w0.heap.size ≤ b ∧ b ≠ B ∧ v.ownBlock ≠ some b) → (w0.heap.size ≤ b ∧ b ≠ B ∧ v'.ownBlock ≠ some b) ∧ (w3.setCell ⟨B, 4, none⟩ v').heap[b]? = wr.heap[b]? := fun b hbl ho =>
    ⟨⟨ho.1, ho.2.1, hown2 b hbl ho.2.2⟩, by rw [heap_setCell_other _ _ _ _ ho.2.1]; exact hother b hbl ho.2.2⟩
  refine ⟨?_, hB, by simp; omega, ?_, ?_, ?_, ?_, ?_, ?_, h.hc, ?_, hown', ?_, h.strs.kept hkeep⟩
  · have h1 : Below w0.heap.size w0 w2 := h.below.trans (hb3.mono h.below.size)
    exact (h1.trans (hu.below (Nat.le_trans h.below.size (by omega)) (fun g hg => (h.own g hg).1))).setCell (hB) _
  · rw [setO (ne (by decide))]; exact hcell _ _ h.c0
  · rw [setO (ne (by decide))]; exact hcell _ _ h.c1
  · rw [setO (ne (by decide))]; exact hcell _ _ h.c2
  · rw [setO (ne (by decide))]; exact hcell _ _ h.c3
  · rw [setS (hcell _ _ h.c4)]
  · rw [setF, World.frozen?_of_block (w := wr) (hother B hlt hownB)]; exact h.f4
  · rw [List.length_append]
    refine Row.kept hrow (Upd.of_setCell w3 ⟨B, 4, none⟩ v') ?_
    cases e : v'.ownBlock with
    | none => exact .inl rfl
    | some g => right; intro e2; exact (hown' g e).2 (Option.some.inj e2)
  · refine Reps.snoc ?_ (h.reps.kept hkeep)
    refine Rep.kept (w := w1) (fun b hbl hbw => ?_) t cs ht
    have hvb : v.ownBlock ≠ some b := fun e => by have := h.row.lt e; omega
    have hw0 := h.below.size
    refine ⟨⟨by omega, by omega, ?_⟩, ?_⟩
    · intro hg
      rcases hu.own with e | ⟨g', e, hg'⟩
      · rw [e] at hg; exact hvb hg
      · rw [e] at hg; obtain rfl := Option.some.inj hg; omega
    · rw [heap_setCell_other _ _ _ _ (by show b ≠ B; omega)]
      exact (hu.block (by omega) hvb).trans (hb2.block b hbl)
theorem Mid.store {w0 : World} {B : Nat} {E : TypeId} {k n : Int} {s : ByteArray} {a : Option Addr} {ns : List ByteArray} {c : Nat} {is : List JV} {v : Value} {xs : List Value} {wr : World} (h : Mid w0 B E k n s a ns c is v xs wr)
    {w1 w2 w3 : World} {v' : Value} (hb : Below wr.heap.size wr w1) (hb2 : Below w1.heap.size w1 w2) (hu : Upd w2 w3 v.ownBlock v'.ownBlock) : w3.cell? ⟨B, 4, none⟩ = some v ∧ w3.frozen? ⟨B, 4, none⟩ = false := by
  have hlt := h.hlt
  have hsz := hb.size
  have hsz2 := hb2.size
  have hother : w3.heap[B]? = wr.heap[B]? := (hu.block (by omega) (fun e => (h.own B e).2 rfl)).trans ((hb2.block B (by omega)).trans (hb.block B (by omega)))
  exact ⟨by rw [World.cell?_of_block (w := wr) hother]; exact h.c4, by rw [World.frozen?_of_block (w := wr) hother]; exact h.f4⟩
theorem Mid.row_at {w0 : World} {B : Nat} {E : TypeId} {k n : Int} {s : ByteArray} {a : Option Addr} {ns : List ByteArray} {c : Nat} {is : List JV} {v : Value} {xs : List Value} {wr : World} (h : Mid w0 B E k n s a ns c is v xs wr)
    {w1 w2 : World} (hb : Below wr.heap.size wr w1) (hb2 : Below w1.heap.size w1 w2) {j : Nat} (hj : is.length = j) : Row w2 E 5 v j xs := by
  subst hj
  exact (h.row.below hb).below hb2
/-- The value is whole. -/
theorem Mid.done {w0 : World} {B : Nat} {E : TypeId} {k n : Int} {s : ByteArray} {a : Option Addr} {ns : List ByteArray} {c : Nat} {is : List JV} {v : Value} {xs : List Value} {wr : World} (h : Mid w0 B E k n s a ns c is v xs wr)
    (hk : -9223372036854775808 ≤ k ∧ k ≤ 9223372036854775807) (hn : -9223372036854775808 ≤ n ∧ n ≤ 9223372036854775807) (hs : s.size ≤ maxLen) :
    ∃ ai ci, v = .slice ai is.length ci ∧ Rep wr (fun b => w0.heap.size ≤ b) (.mk k n s ns is) [.int .i64 k, .int .i64 n, .string s, .slice a ns.length c, .slice ai is.length ci] := by
  obtain ⟨ai, ci, hv, hci, hit⟩ := h.row.items (ok := fun b => w0.heap.size ≤ b) (h.reps.kept fun b _ hb => ⟨hb.1, rfl⟩) (fun g hg => (h.own g hg).1)
  exact ⟨ai, ci, hv, rep_mk.2 ⟨hk, hn, hs, a, c, ai, ci, rfl, h.hc, hci, h.strs.kept (fun b _ hb => ⟨hb.1, rfl⟩), hit⟩⟩
theorem JV.bulk_pos (t : JV) : 1 ≤ t.bulk := by cases t; rw [JV.bulk]; omega
theorem JV.len_bulks (l : List JV) : l.length ≤ JV.bulks l := by
  induction l with
  | nil => simp
  | cons x r ih => have := JV.bulk_pos x; simp only [JV.bulks, List.length_cons]; omega
theorem set5 {w : World} {B : Nat} {T : TypeId} {u0 u1 u2 u3 u4 c0 c1 c2 c3 c4 : Value} (h : w.heap[B]? = some (.cells #[u0, u1, u2, u3, u4] T (0, 0))) :
    (((((w.setCell ⟨B, 0, none⟩ c0).setCell ⟨B, 1, none⟩ c1).setCell ⟨B, 2, none⟩ c2).setCell ⟨B, 3, none⟩ c3).setCell ⟨B, 4, none⟩ c4).heap[B]? = some (.cells #[c0, c1, c2, c3, c4] T (0, 0)) :=
  heap_setCell_same _ _ _ _ _ _ (heap_setCell_same _ _ _ _ _ _ (heap_setCell_same _ _ _ _ _ _ (heap_setCell_same _ _ _ _ _ _ (heap_setCell_same _ _ _ _ _ _ h))))
theorem below_set5 {a w : World} {B n : Nat} {c0 c1 c2 c3 c4 : Value} (h : Below n a w) (hB : n ≤ B) :
    Below n a (((((w.setCell ⟨B, 0, none⟩ c0).setCell ⟨B, 1, none⟩ c1).setCell ⟨B, 2, none⟩ c2).setCell ⟨B, 3, none⟩ c3).setCell ⟨B, 4, none⟩ c4) :=
  ((((h.setCell hB _).setCell hB _).setCell hB _).setCell hB _).setCell hB _
theorem other_set5 {w : World} {B b : Nat} {c0 c1 c2 c3 c4 : Value} (h : b ≠ B) :
    (((((w.setCell ⟨B, 0, none⟩ c0).setCell ⟨B, 1, none⟩ c1).setCell ⟨B, 2, none⟩ c2).setCell ⟨B, 3, none⟩ c3).setCell ⟨B, 4, none⟩ c4).heap[b]? = w.heap[b]? := by
  rw [heap_setCell_other _ _ _ _ h, heap_setCell_other _ _ _ _ h, heap_setCell_other _ _ _ _ h, heap_setCell_other _ _ _ _ h, heap_setCell_other _ _ _ _ h]
end Go.Proofs.YtnmojmmgkipjcaaGreatDoor
