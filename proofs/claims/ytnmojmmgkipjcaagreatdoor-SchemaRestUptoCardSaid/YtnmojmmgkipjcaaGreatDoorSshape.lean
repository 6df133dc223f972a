/- The table's cells are numbers of their kind: by the shape of the world. Conditions: none. -/
import Derived.Test.YtnmojmmgkipjcaaGreatDoorSito
import Derived.Test.YtnmojmmgkipjcaaGreatDoorChecked
import Derived.KernelRfl
import Derived.Shelf.Vars
namespace Go.Proofs.YtnmojmmgkipjcaaGreatDoor
open Go.RowKit
theorem cells_of_shapedOpen {P : Program} {w : World} {g : Nat} {t u : TypeId} {zero : Array Value} {k : IntKind} {n : Nat} (h : w.ShapedOpen P) (hg : g < P.globals.size) (h0 : ((begin P (fun _ _ => 0) default).world.heap[g]?).bind Obj.row? = some (zero, t)) (hz : zero.size = n)
    (hb : P.buildable t = true) (hc : P.cellTypes P.depth t = some (List.replicate n u)) (hu : P.underlying u = some (.int k)) (i : Nat) (hi : i < n) : ∃ m, w.cell? ⟨g, i, none⟩ = some (.int k m) ∧ k.has m := by
  obtain ⟨cs, hh, hs, hr⟩ := h.1 g zero t hg h0
  obtain ⟨ts, hts, _, hall⟩ := hr hb
  rw [hc] at hts
  cases hts
  have h1 : i < cs.size := by omega
  obtain ⟨v, hv', hok⟩ := hall i cs[i] (by simp [h1])
  have hv : v = u := by
    rw [List.length_replicate, Nat.mod_eq_of_lt hi, List.getElem?_replicate, if_pos hi] at hv'
    exact (Option.some.inj hv').symm
  subst hv
  have hcell : w.cell? ⟨g, i, none⟩ = some cs[i] := by simp [World.cell?, hh, h1]
  rw [hcell]
  unfold Cell.ok at hok
  rw [hu] at hok
  cases hv : cs[i] <;> rw [hv] at hok <;> simp at hok
  case int k' n => exact ⟨n, by rw [hok.1], hok.2⟩
theorem tabU_of {W : World} (h : W.ShapedOpen Tryz.prog) : TabU W := fun i hi => by
  obtain ⟨m, h1, h2⟩ := cells_of_shapedOpen (P := Tryz.prog) (g := 2) (t := 154) (u := 122) (zero := Array.replicate 20 (.int .u64 0)) (n := 20) h (of_decide_eq_true (by kernel_rfl)) (by kernel_rfl) rfl (by kernel_rfl) (by kernel_rfl) Tryz.underlying122 i hi
  have h3 : 0 ≤ m ∧ m ≤ 18446744073709551615 := by
    simp [IntKind.has, IntKind.min, IntKind.max, IntKind.signed, IntKind.bits] at h2
    omega
  exact ⟨m.toNat, by omega, by rw [h1, show ((m.toNat : Nat) : Int) = m by omega]⟩
end Go.Proofs.YtnmojmmgkipjcaaGreatDoor
