/- The tables and the errors in a world that meets what the rows list. Conditions: none. -/
import Derived.Test.YtkpickojeghppaaDoorRowkit
import Derived.Test.YtkpickojeghppaaDoorWtab
import Derived.Lib.LaidIn
import Derived.LaidLaws
import Derived.Lib.LaidU8
namespace Go.Proofs.YtkpickojeghppaaDoor
open Go.RowKit Go.Proofs.Lays Go.Shelf Go.Lib
theorem tabIs_of_reads {P : Program} {W : World} {name : String} {k : IntKind} {zs : List Int} {g : Nat} {t e : TypeId} {n : Nat}
    (hg : P.globalNamed name = some g) (hty : (P.globals[g]?).map (·.type) = some t) (ht : P.underlying t = some (.array n e)) (he : P.underlying e = some (.int k)) (hce : P.cellsOf e = 1) (hct : P.cellsOf t = n)
    (h : VarReads P W name (tabData k zs)) : TabIs P W name k zs := by
  obtain ⟨g', t', cs, fuel, p, hg', ht', hvar, hd⟩ := h
  obtain rfl := Option.some.inj (hg.symm.trans hg')
  obtain rfl := Option.some.inj (hty.symm.trans ht')
  unfold TabIs
  rw [hvar, ← cells_of_tab ht he hce hct hd]
theorem iface_of_reads {P : Program} {W : World} {name nm : String} {d : DataW Unit} {g : Nat} {t : TypeId} {ms : Array (String × TypeId)}
    (hg : P.globalNamed name = some g) (hty : (P.globals[g]?).map (·.type) = some t) (ht : P.underlying t = some (.interface ms)) (h : VarReads P W name (.iface nm d)) : ∃ u v, W.var? P name = some #[.iface u v] := by
  obtain ⟨g', t', cs, fuel, p, hg', ht', hvar, hd⟩ := h
  obtain rfl := Option.some.inj (hg.symm.trans hg')
  obtain rfl := Option.some.inj (hty.symm.trans ht')
  obtain ⟨f1, u, v, hcs, _⟩ := iface_of_trod ht hd
  exact ⟨u, v, by rw [hvar, ← hcs]⟩
theorem var_lt {P : Program} {W : World} {name : String} {g : Nat} {cs : Array Value} (hg : P.globalNamed name = some g) (h : W.var? P name = some cs) : g < W.heap.size := by
  unfold World.var? at h
  rw [hg, Option.bind_some] at h
  rcases Nat.lt_or_ge g W.heap.size with h' | h'
  · exact h'
  · rw [Array.getElem?_eq_none h'] at h
    cases h
theorem tabs_of {W : World} (hL0 : laidMetH Tryd.prog Rows.wireNamesRow.laid W) : WTabs W :=
  have hL : laidMet Tryd.prog Rows.wireNamesRow.laid W := hL0
  have e3 : Rows.laid_internal_strconv_uint64pow10 = tabData .u64 pow10Tab := by kernel_rfl
  have h3 : VarReads Tryd.prog W "internal/strconv.uint64pow10" (tabData .u64 pow10Tab) := by rw [← e3]; exact Lib.laidMet.reads hL (.tail _ (.tail _ (.head _)))
  have h4 : VarReads Tryd.prog W "strconv.ErrRange" Rows.laid_strconv_ErrRange := Lib.laidMet.reads hL (.tail _ (.tail _ (.tail _ (.head _))))
  have h5 : VarReads Tryd.prog W "strconv.ErrSyntax" Rows.laid_strconv_ErrSyntax := Lib.laidMet.reads hL (.tail _ (.tail _ (.tail _ (.tail _ (.head _)))))
  have h6 : VarReads Tryd.prog W "math/bits.deBruijn64tab" Rows.laid_math_bits_deBruijn64tab := Lib.laidMet.reads hL (.tail _ (.head _))
  ⟨tabIs_of_reads (g := 0) (t := 150) (e := 135) (n := 20) (by kernel_rfl) (by kernel_rfl) (by kernel_rfl) (by kernel_rfl) (by kernel_rfl) (by kernel_rfl) h3,
   iface_of_reads (g := 1) (t := 130) (by kernel_rfl) (by kernel_rfl) Tryd.underlying130 h5,
   iface_of_reads (g := 2) (t := 130) (by kernel_rfl) (by kernel_rfl) Tryd.underlying130 h4,
   by
    obtain ⟨g', t', cs, fuel, p, hg', ht', hvar, hd⟩ := h6
    have := var_lt (show Tryd.prog.globalNamed "math/bits.deBruijn64tab" = some 4 by kernel_rfl) hvar
    omega⟩
end Go.Proofs.YtkpickojeghppaaDoor
