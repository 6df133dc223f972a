/- Plain law: what Check answers. Conditions: none. -/
import Derived.Test.YtjmhoccikbgigaaDoorFitsall
import Derived.Test.YtjmhoccikbgigaaDoorUtfl
namespace Go.Proofs.YtjmhoccikbgigaaDoor
open Go.RowKit
/-- how deep a value of a kind may stand -/
def mostD (k : Int) : Int := if k = 5 ∨ k = 6 then 63 else 64
mutual
/-- the first fault of a value at a depth; 0: none -/
def chk : JV → Int → Int
  | .mk k n s ns is, d =>
    if mostD k < d then 17
    else if fitsB k n s ns.length is.length = false then 18
    else chkL (decide (k = 6)) ns [] is d
def chkL : Bool → List ByteArray → List ByteArray → List JV → Int → Int
  | _, _, _, [], _ => 0
  | o, ns, seen, t :: r, d =>
    if o = true ∧ Lib.validD (ns.headD ByteArray.empty).data.toList = false then 18
    else if o = true ∧ hasB seen (ns.headD ByteArray.empty) = true then 16
    else if chk t (d + 1) = 0 then chkL o ns.tail (seen ++ [ns.headD ByteArray.empty]) r d else chk t (d + 1)
end
mutual
theorem chk_vals : ∀ (t : JV) (d : Int), chk t d = 0 ∨ chk t d = 16 ∨ chk t d = 17 ∨ chk t d = 18
  | .mk k n s ns is, d => by
    rw [chk]
    have := chkL_vals (decide (k = 6)) ns [] is d
    split
    · simp
    · split
      · simp
      · exact this
theorem chkL_vals : ∀ (o : Bool) (ns seen : List ByteArray) (is : List JV) (d : Int), chkL o ns seen is d = 0 ∨ chkL o ns seen is d = 16 ∨ chkL o ns seen is d = 17 ∨ chkL o ns seen is d = 18
  | _, _, _, [], _ => by simp [chkL]
  | o, ns, seen, t :: r, d => by
    rw [chkL]
    have h1 := chk_vals t (d + 1)
    have h2 := chkL_vals o ns.tail (seen ++ [ns.headD ByteArray.empty]) r d
    split
    · simp
    · split
      · simp
      · split
        · exact h2
        · exact h1
end
theorem fits_len {k n : Int} {s : ByteArray} {ln li : Nat} (h : fitsB k n s ln li = true) (hk : k = 6) : ln = li := by
  subst hk
  simp [fitsB] at h
  omega
mutual
theorem ok_chk : ∀ (t : JV) (d : Int), chk t d = 0 → okT t
  | .mk k n s ns is, d, h => by
    rw [chk] at h
    rw [okT]
    split at h
    · exact absurd h (by decide)
    · split at h
      · exact absurd h (by decide)
      · rename_i h2
        exact ⟨fun hk => by have := fits_len (by simpa using h2) hk; omega, ok_chkL _ _ _ _ _ h⟩
theorem ok_chkL : ∀ (o : Bool) (ns seen : List ByteArray) (is : List JV) (d : Int), chkL o ns seen is d = 0 → okTs is
  | _, _, _, [], _, _ => by rw [okTs]; trivial
  | o, ns, seen, t :: r, d, h => by
    rw [chkL] at h
    rw [okTs]
    split at h
    · exact absurd h (by decide)
    · split at h
      · exact absurd h (by decide)
      · split at h
        · rename_i h3
          exact ⟨ok_chk t (d + 1) h3, ok_chkL _ _ _ _ _ h⟩
        · contradiction
end
end Go.Proofs.YtjmhoccikbgigaaDoor
