/- What the rows of this seat list: the tables of package utf8; a world in which they lie. Conditions: none. -/
import Derived.Test.YtnmojmmgkipjcaaDoorCards
import Derived.Test.YtnmojmmgkipjcaaDoorTie
import Derived.Test.YtnmojmmgkipjcaaDoorLaw
import Derived.WalkKit
import Derived.ProofKit
import Derived.OpenShut
import Derived.Deep.DeepHandedRow
import Derived.Lib.LaidTab
namespace Go.Proofs.YtnmojmmgkipjcaaDoor
open Go.ChangeShapes Go.WideShapes Go.ChangeAt Go.RowKit
theorem own : ownKnob Tryd.prog.godebug = none := by kernel_rfl
def putCells (cs : Array Value) : Obj → Obj
  | .cells _ t frozen => .cells cs t frozen
  | o => o
def ranges : Array Value := #[.int .u8 128, .int .u8 191, .int .u8 160, .int .u8 191, .int .u8 128, .int .u8 159, .int .u8 144, .int .u8 191, .int .u8 128, .int .u8 143] ++ Array.replicate 22 (.int .u8 0)
/-- A world for the witness: the settled one, the tables as their texts lay them. -/
noncomputable def laidWorld (os : Os) : World :=
  { World.holding Tryd.prog os ⟨#[], #[], []⟩ with heap := ((World.holding Tryd.prog os ⟨#[], #[], []⟩).heap.modify 1 (putCells ranges)).modify 0 (putCells (Go.Pinned.utf8FirstZ.map fun n => .int .u8 (n : Int)).toArray) }
theorem laidOk : laidOutB Tryd.prog = true := by kernel_rfl
end Go.Proofs.YtnmojmmgkipjcaaDoor
