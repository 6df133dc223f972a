/- Plain law: objects with a name for each item. Conditions: none. -/
import Derived.Test.YtnmojmmgkipjcaaGreatDoorLaidl
namespace Go.Proofs.YtnmojmmgkipjcaaGreatDoor
mutual
/-- each object has a name for each item -/
def okT : JV → Prop
  | .mk k _ _ ns is => (k = 6 → is.length ≤ ns.length) ∧ okTs is
def okTs : List JV → Prop
  | [] => True
  | t :: r => okT t ∧ okTs r
end
theorem okTs_at : ∀ {l : List JV}, okTs l → ∀ (i : Nat) (h : i < l.length), okT l[i]
  | t :: r, h, 0, _ => by rw [okTs] at h; exact h.1
  | t :: r, h, i + 1, hi => by rw [okTs] at h; exact okTs_at h.2 i (by simpa using hi)
end Go.Proofs.YtnmojmmgkipjcaaGreatDoor
