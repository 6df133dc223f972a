/- The walks of Parts and large. Conditions: what the tree holds is at most 2 to the 40. -/
import Derived.Test.YtnmojmmgkipjcaaDoorRows
import Derived.Test.YtnmojmmgkipjcaaDoorBasea
import Derived.WalkKit
import Derived.WalkSpells
import Derived.WalkLawsBesides
import Derived.Handy
import Derived.BigQuiet
import Derived.Lib.QuietBelow
namespace Go.Proofs.YtnmojmmgkipjcaaDoor
open Go.RowKit
theorem lie5 {w : World} {b off : Nat} {c0 c1 c2 c3 c4 : Value} (h : Lie w b off [c0, c1, c2, c3, c4]) :
    w.cell? ⟨b, off, none⟩ = some c0 ∧ w.cell? ⟨b, off + 1, none⟩ = some c1 ∧ w.cell? ⟨b, off + 2, none⟩ = some c2 ∧ w.cell? ⟨b, off + 3, none⟩ = some c3 ∧ w.cell? ⟨b, off + 4, none⟩ = some c4 :=
  ⟨h 0 _ rfl, h 1 _ rfl, h 2 _ rfl, h 3 _ rfl, h 4 _ rfl⟩
theorem cells4 (w : World) (c0 c1 c2 c3 c4 : Value) (T : TypeId) : (w.alloc (.cells #[c0, c1, c2, c3, c4] T)).cell? ⟨w.heap.size, 3, none⟩ = some c3 ∧ (w.alloc (.cells #[c0, c1, c2, c3, c4] T)).cell? ⟨w.heap.size, 4, none⟩ = some c4 := by
  refine ⟨by simp [go_sem], by simp [go_sem]⟩
end Go.Proofs.YtnmojmmgkipjcaaDoor
