/- What the rows of this seat list: the tables of package utf8; a world in which they lie. Conditions: none. -/
import Derived.Test.YtnmojmmgkipjcaaGreatDoorCards
import Derived.Test.YtnmojmmgkipjcaaGreatDoorTie
import Derived.Test.YtnmojmmgkipjcaaGreatDoorLaw
import Derived.WalkKit
import Derived.ProofKit
import Derived.OpenShut
import Derived.Deep.DeepHandedRow
import Derived.Lib.LaidTab
namespace Go.Proofs.YtnmojmmgkipjcaaGreatDoor
open Go.ChangeShapes Go.WideShapes Go.ChangeAt Go.RowKit
theorem own : ownKnob Tryz.prog.godebug = none := by kernel_rfl
def putCells (cs : Array Value) : Obj → Obj
  | .cells _ t frozen => .cells cs t frozen
  | o => o
def ranges : Array Value := #[.int .u8 128, .int .u8 191, .int .u8 160, .int .u8 191, .int .u8 128, .int .u8 159, .int .u8 144, .int .u8 191, .int .u8 128, .int .u8 143] ++ Array.replicate 22 (.int .u8 0)
/-- A world for the witness: the settled one, the tables as their texts lay them. -/
noncomputable def laidWorld (os : Os) : World :=
  { World.holding Tryz.prog os ⟨#[], #[], []⟩ with heap := ((World.holding Tryz.prog os ⟨#[], #[], []⟩).heap.modify 1 (putCells ranges)).modify 0 (putCells (Go.Pinned.utf8FirstZ.map fun n => .int .u8 (n : Int)).toArray) }
theorem laidOk : laidOutB Tryz.prog = true := by kernel_rfl
end Go.Proofs.YtnmojmmgkipjcaaGreatDoor
