/- The tables and the error in a world that meets what the rows list. Conditions: none. -/
import Derived.Test.YtbkbokfegjodnaaDoorShelf
import Derived.Test.YtbkbokfegjodnaaDoorRowkit
import Derived.Test.YtbkbokfegjodnaaDoorLivej
import Derived.Lib.LaidIn
import Derived.Lib.LaidU8T
import Derived.LaidLaws
namespace Go.Proofs.YtbkbokfegjodnaaDoor
open Go.RowKit Go.Proofs.Lays Go.Shelf Go.Lib
theorem tabIs_of_reads {P : Program} {W : World} {name : String} {k : IntKind} {zs : List Int} {g : Nat} {t e : TypeId} {n : Nat}
    (hg : P.globalNamed name = some g) (hty : (P.globals[g]?).map (·.type) = some t) (ht : P.underlying t = some (.array n e)) (he : P.underlying e = some (.int k)) (hce : P.cellsOf e = 1) (hct : P.cellsOf t = n)
    (h : VarReads P W name (tabData k zs)) : TabIs P W name k zs := by
  obtain ⟨g', t', cs, fuel, p, hg', ht', hvar, hd⟩ := h
  obtain rfl := Option.some.inj (hg.symm.trans hg')
  obtain rfl := Option.some.inj (hty.symm.trans ht')
  unfold TabIs
  rw [hvar, ← cells_of_tab ht he hce hct hd]
theorem iface_of_reads {P : Program} {W : World} {name nm : String} {d : DataW Unit} {g : Nat} {t : TypeId} {ms : Array (String × TypeId)}
    (hg : P.globalNamed name = some g) (hty : (P.globals[g]?).map (·.type) = some t) (ht : P.underlying t = some (.interface ms)) (h : VarReads P W name (.iface nm d)) : ∃ u v, W.var? P name = some #[.iface u v] := by
  obtain ⟨g', t', cs, fuel, p, hg', ht', hvar, hd⟩ := h
  obtain rfl := Option.some.inj (hg.symm.trans hg')
  obtain rfl := Option.some.inj (hty.symm.trans ht')
  obtain ⟨f1, u, v, hcs, _⟩ := iface_of_trod ht hd
  exact ⟨u, v, by rw [hvar, ← hcs]⟩
theorem err_of {W : World} (h5 : ∃ u v, W.var? Tryd.prog "strconv.ErrRange" = some #[.iface u v]) : ErrV W := by
  obtain ⟨u, v, h⟩ := h5
  unfold World.var? at h
  rw [show Tryd.prog.globalNamed "strconv.ErrRange" = some 3 by kernel_rfl, Option.bind_some] at h
  split at h
  · rename_i c T fr hh
    obtain rfl := Option.some.inj h
    exact ⟨u, v, T, fr, hh⟩
  · cases h
theorem tabs_of {W : World} (hL0 : laidMetH Tryd.prog Rows.jsonvalNamesRow.laid W) : JTabs W :=
  have hL : laidMet Tryd.prog Rows.jsonvalNamesRow.laid W := hL0
  have e1 : Rows.laid_unicode_utf8_first = firstData := by kernel_rfl
  have e2 : Rows.laid_unicode_utf8_acceptRanges = acceptData := by kernel_rfl
  have e3 : Rows.laid_internal_strconv_uint64pow10 = tabData .u64 pow10Tab := by kernel_rfl
  have h1 : VarReads Tryd.prog W "unicode/utf8.first" firstData := by rw [← e1]; exact Lib.laidMet.reads hL (.tail _ (.tail _ (.tail _ (.tail _ (.tail _ (.tail _ (.head _)))))))
  have h2 : VarReads Tryd.prog W "unicode/utf8.acceptRanges" acceptData := by rw [← e2]; exact Lib.laidMet.reads hL (.tail _ (.tail _ (.tail _ (.head _))))
  have h3 : VarReads Tryd.prog W "internal/strconv.uint64pow10" (tabData .u64 pow10Tab) := by rw [← e3]; exact Lib.laidMet.reads hL (.tail _ (.tail _ (.head _)))
  have h4 : VarReads Tryd.prog W "strconv.ErrRange" Rows.laid_strconv_ErrRange := Lib.laidMet.reads hL (.tail _ (.tail _ (.tail _ (.tail _ (.head _)))))
  have h5 : ∃ u v, W.var? Tryd.prog "strconv.ErrRange" = some #[.iface u v] := iface_of_reads (g := 3) (t := 90) (by kernel_rfl) (by kernel_rfl) Tryd.underlying90 h4
  ⟨utf8Tabs_of_readsT (U8Types.of196 Tryd.laysValid) ⟨by kernel_rfl, by kernel_rfl, by kernel_rfl, by kernel_rfl, by kernel_rfl, by kernel_rfl, by kernel_rfl⟩ h1 h2,
   err_of h5,
   tabIs_of_reads (g := 4) (t := 131) (e := 85) (n := 20) (by kernel_rfl) (by kernel_rfl) (by kernel_rfl) (by kernel_rfl) (by kernel_rfl) (by kernel_rfl) h3⟩
end Go.Proofs.YtbkbokfegjodnaaDoor
