/- What the rows of this seat list: tables and two errors; a world in which they lie. Conditions: none. -/
import Derived.Test.YtkpickojeghppaaDoorCards
import Derived.Test.YtkpickojeghppaaDoorTie
import Derived.Test.YtkpickojeghppaaDoorLaw
import Derived.WalkKit
import Derived.ProofKit
import Derived.OpenShut
import Derived.Deep.DeepHandedRow
import Derived.Lib.LaidTab
namespace Go.Proofs.YtkpickojeghppaaDoor
open Go.ChangeShapes Go.WideShapes Go.ChangeAt Go.RowKit
theorem own : ownKnob Tryd.prog.godebug = none := by kernel_rfl
def putCells (cs : Array Value) : Obj → Obj
  | .cells _ t frozen => .cells cs t frozen
  | o => o
/-- the cells of a table's datum -/
def flatD : Nat → DataW Unit → List Value
  | 0, _ => []
  | _ + 1, .lit (.int k z) => [.int k z]
  | n + 1, .agg l => l.flatMap (flatD n)
  | _, _ => []
/-- the settled world -/
noncomputable def bareWorld (os : Os) : World := World.holding Tryd.prog os ⟨#[], #[], []⟩
/-- A world for the witness: the settled one, the tables as their texts lay them, and the two errors. -/
noncomputable def laidWorld (os : Os) : World :=
  { bareWorld os with heap := ((((((((bareWorld os).heap.modify 0 (putCells (flatD 3 Rows.laid_internal_strconv_uint64pow10).toArray)).modify 3 (putCells (flatD 3 Rows.laid_math_bits_deBruijn32tab).toArray)).modify 4 (putCells (flatD 3 Rows.laid_math_bits_deBruijn64tab).toArray)).modify 1 (putCells #[.iface 163 (.pointer (some ⟨(bareWorld os).heap.size + 1, 0, none⟩))])).modify 2 (putCells #[.iface 163 (.pointer (some ⟨(bareWorld os).heap.size, 0, none⟩))])).push (.cells #[.string ⟨#[118, 97, 108, 117, 101, 32, 111, 117, 116, 32, 111, 102, 32, 114, 97, 110, 103, 101]⟩] 165)).push (.cells #[.string ⟨#[105, 110, 118, 97, 108, 105, 100, 32, 115, 121, 110, 116, 97, 120]⟩] 165)) }
theorem laidOk : laidOutB Tryd.prog = true := by kernel_rfl
end Go.Proofs.YtkpickojeghppaaDoor
