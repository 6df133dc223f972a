/- What the rows of this seat list: the tables of package ident; a world in which they lie. Conditions: none. -/
import Derived.Test.YtbhnlodfpepbpaaDoorCards
import Derived.Test.YtbhnlodfpepbpaaDoorTie
import Derived.Test.YtbhnlodfpepbpaaDoorLaw
import Derived.Test.YtbhnlodfpepbpaaDoorLive
import Derived.WalkKit
import Derived.ProofKit
import Derived.OpenShut
import Derived.Deep.DeepHandedRow
import Derived.Lib.LaidTab
namespace Go.Proofs.YtbhnlodfpepbpaaDoor
open Go.ChangeShapes Go.WideShapes Go.ChangeAt Go.RowKit
theorem own : ownKnob Tryd.prog.godebug = none := by kernel_rfl
theorem g0 : Tryd.prog.globalNamed "docket/ident.shifts" = some 0 := by kernel_rfl
theorem g1 : Tryd.prog.globalNamed "docket/ident.factors" = some 1 := by kernel_rfl
theorem t0 : (Tryd.prog.globals[0]?).map (·.type) = some 60 := by kernel_rfl
theorem t1 : (Tryd.prog.globals[1]?).map (·.type) = some 61 := by kernel_rfl
theorem c0 : Tryd.prog.cellsOf 60 = 3 := by kernel_rfl
theorem c1 : Tryd.prog.cellsOf 61 = 2 := by kernel_rfl
theorem cu : Tryd.prog.cellsOf 59 = 1 := by kernel_rfl
theorem cU : Tryd.prog.cellsOf 22 = 1 := by kernel_rfl
theorem laid_tail {P : Program} {x : String × DataW Unit} {rest : List (String × DataW Unit)} {w : World} (h : laidMet P (x :: rest) w) : laidMet P rest w := by
  obtain ⟨ps, ⟨g, t, cs, fuel, p, q, _, _, _, _, hq, rfl⟩, hn, hc⟩ := h
  exact ⟨q, hq, (List.nodup_append.1 hn).2.1, fun b off hm => hc b off (by simp [hm])⟩
/-- What the list says: the tables hold their numbers. -/
theorem tabs_of {W : World} (h : laidMet Tryd.prog [("docket/ident.shifts", Rows.laid_docket_ident_shifts), ("docket/ident.factors", Rows.laid_docket_ident_factors)] W) : Tabs W := by
  have h1 : Lib.TabIs Tryd.prog W "docket/ident.shifts" .u64 [30, 27, 31] := Lib.tabIs_of_head g0 t0 Tryd.underlying60 Tryd.underlying59 cu c0 h
  have h2 : Lib.TabIs Tryd.prog W "docket/ident.factors" .u64 [13787848793156543929, 10723151780598845931] := Lib.tabIs_of_head g1 t1 Tryd.underlying61 Tryd.underlying22 cU c1 (laid_tail h)
  exact ⟨h1.cell g0 0 (by decide), h1.cell g0 1 (by decide), h1.cell g0 2 (by decide), h2.cell g1 0 (by decide), h2.cell g1 1 (by decide)⟩
def putCells (cs : Array Value) : Obj → Obj
  | .cells _ t frozen => .cells cs t frozen
  | o => o
/-- A world for the witness: the settled one, the tables as their initialisers lay them. -/
noncomputable def laidWorld (os : Os) : World :=
  { World.holding Tryd.prog os ⟨#[], #[], []⟩ with heap := ((World.holding Tryd.prog os ⟨#[], #[], []⟩).heap.modify 0 (putCells #[.int .u64 30, .int .u64 27, .int .u64 31])).modify 1 (putCells #[.int .u64 13787848793156543929, .int .u64 10723151780598845931]) }
theorem laidOk : laidOutB Tryd.prog = true := by kernel_rfl
theorem wf_u64 {n : Int} (h : (Lit.int .u64 n).wf = true) : 0 ≤ n ∧ n < 18446744073709551616 := by
  simp [Lit.wf, IntKind.min, IntKind.max, IntKind.bits, IntKind.signed] at h; omega
end Go.Proofs.YtbhnlodfpepbpaaDoor
