/- The walk of feed (the server's). Conditions: what goes out is shorter than 2 to the 37. -/
import Derived.Test.YtkpickojeghppaaDoorWfeedp
namespace Go.Proofs.YtkpickojeghppaaDoor
open Go.RowKit
def lenOf : Option Value → Nat
  | some (.slice _ n _) => n
  | _ => 0
/-- how much is left to read -/
def leftW (R : Nat) (w : World) : Nat := match w.cell? ⟨R, 2, none⟩, w.cell? ⟨R, 3, none⟩ with
  | some (.bool true), some (.bool false) => lenOf (w.cell? ⟨R, 0, none⟩) + 1
  | _, _ => 0
theorem leftW_lt {R : Nat} {w : World} {vi vo vh : Value} {s : Sv} (h : SvAt w R vi vo vh s) (n : Nat) (hn : s.inp.length < n) : leftW R w < n + 1 := by
  unfold leftW
  obtain ⟨⟨c0, _, c2, c3, _⟩, _⟩ := h.cells
  rw [c2, c3, c0]
  split
  · rename_i h1 h2
    injection h1 with h1; injection h1 with h1
    injection h2 with h2; injection h2 with h2
    obtain ⟨A, cap, rfl, _⟩ := (h.sin (by simpa using h1) h2).form
    simp only [lenOf]
    omega
  · omega
/-- what came is other -/
theorem SvAt.came {w w1 : World} {R : Nat} {vi vo vh vi' : Value} {s : Sv} (h : SvAt w R vi vo vh s) (ht : Turn (fun g => vi.ownBlock = some g) w w1) (hn : ∀ g, vi'.ownBlock = some g → vi.ownBlock = some g ∨ w.heap.size ≤ g) (p : List UInt8) (hs : BSlab w1 vi' p) :
    SvAt (w1.setCell ⟨R, 0, none⟩ vi') R vi' vo vh { s with inp := p } ∧ Turn (SvF R vi vo vh) w (w1.setCell ⟨R, 0, none⟩ vi') ∧ ∀ g, SvF R vi' vo vh g → SvF R vi vo vh g ∨ w.heap.size ≤ g := by
  have hR := h.lt
  have hb1 : w1.heap[R]? = some (.cells (svCells R vi vo vh s) 101 (0, 0)) := ht.obj h.blk (fun e => h.nR.1 e)
  have ht1 : Turn (fun g => g = R ∨ vi.ownBlock = some g) w (w1.setCell ⟨R, 0, none⟩ vi') := (ht.weak (fun g hg => .inr hg)).set (g := R) (.inl (.inl rfl)) 0 vi'
  have hneR : ∀ g, vi'.ownBlock = some g → g ≠ R := fun g hg e => by
    subst e
    rcases hn g hg with e | e
    · exact h.nR.1 e
    · omega
  refine ⟨⟨heap_setCell_same _ R 0 _ _ vi' hb1, fun _ _ => Slab.same hs (fun g hg => heap_setCell_other _ _ _ _ (hneR g hg)), Slab.turn h.sout ht1 (fun g hg e => ?_), Slab.turn h.sheld ht1 (fun g hg e => ?_), ⟨fun e => hneR R e rfl, h.nR.2.1, h.nR.2.2⟩, fun g hg => ⟨(h.ap g hg).1, fun e => ?_⟩, fun g hg e => ?_, fun g hg => by have := Slab.lt hs hg; simpa using this⟩, ht1.weak (fun g hg => hg.elim .inl (fun e => .inr (.inl e))), fun g hg => ?_⟩
  · rcases e with e | e
    · exact h.nR.2.1 (by rw [← e]; exact hg)
    · exact (h.ap g hg).2 e
  · rcases e with e | e
    · exact h.nR.2.2 (by rw [← e]; exact hg)
    · exact h.ap2 g hg e
  · rcases hn g e with e | e
    · exact (h.ap g hg).2 e
    · have := Slab.lt h.sout hg; omega
  · rcases hn g e with e | e
    · exact h.ap2 g hg e
    · have := Slab.lt h.sheld hg; omega
  · rcases hg with hg | hg | hg | hg
    · exact .inl (.inl hg)
    · exact (hn g hg).imp (fun e => .inr (.inl e)) (fun e => e)
    · exact .inl (.inr (.inr (.inl hg)))
    · exact .inl (.inr (.inr (.inr hg)))
theorem feedE_stop (n : Nat) (s : Sv) (h : (s.closed || s.ending) = true) : s.feedE n = (s, 0) := by
  cases n with
  | zero => rfl
  | succ n => rw [Sv.feedE, if_pos h]
/-- what holds at the loop's head -/
structure FdAt (w : World) (R : Nat) (vi vo vh : Value) (w0 : World) (vi0 vo0 vh0 : Value) (s0 : Sv) (n0 : Nat) (s : Sv) (n : Nat) : Prop where
  x : SvX w R vi vo vh s
  turn : Turn (SvF R vi0 vo0 vh0) w0 w
  new : ∀ g, SvF R vi vo vh g → SvF R vi0 vo0 vh0 g ∨ w0.heap.size ≤ g
  fuel : s.inp.length < n
  same : s.feedE n = s0.feedE n0
  ok : s.Ok
  room : 24 * s.out.length + 131072 * s.inp.length ≤ 3298534883328
theorem FdAt.post {w : World} {R : Nat} {vi vo vh : Value} {w0 : World} {vi0 vo0 vh0 : Value} {s0 : Sv} {n0 : Nat} {s : Sv} {n : Nat} (h : FdAt w R vi vo vh w0 vi0 vo0 vh0 s0 n0 s n) {s2 : Sv} {e : Nat} (he : s.feedE n = (s2, e)) {vi' vo' vh' : Value} {w' : World} (h2 : SvAt w' R vi' vo' vh' s2) (ht : Turn (SvF R vi vo vh) w w') (hn : ∀ g, SvF R vi' vo' vh' g → SvF R vi vo vh g ∨ w.heap.size ≤ g) :
    SvPost R vi0 vo0 vh0 w0 (s0.feedE n0).1 (.int .i64 ((s0.feedE n0).2 : Int)) (.returned (.int .i64 (e : Int))) w' := by
  rw [← h.same, he]
  exact SvPost.seq h.turn h.new ⟨vi', vo', vh', rfl, h2, ht, hn⟩
end Go.Proofs.YtkpickojeghppaaDoor
