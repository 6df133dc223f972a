/- The walk of the document's Equal. Conditions: none. -/
import Derived.Test.YtnmojmmgkipjcaaDoorPartsw
import Derived.BigQuiet
import Derived.Lib.QuietBelow
namespace Go.Proofs.YtnmojmmgkipjcaaDoor
open Go.RowKit
/-- A contract that ends in Below, met in a world of the class. -/
theorem regB {P : Program} {f : FuncId} {args : Array Value} {w : World} {d : Nat} {os : Array Obj} {v : Value}
    (h : Calls P f args (Sort.grow (redrawn w d) os) fun e w' => e = .returned v ∧ Below (Sort.grow (redrawn w d) os).heap.size (Sort.grow (redrawn w d) os) w') :
    Calls P f args (Sort.grow (redrawn w d) os) fun e w'' => e = .returned v ∧ ∃ p : Regrown, w'' = Sort.grow (redrawn w p.d) p.os := Calls.regrown_of h
theorem regS {P : Program} {f : FuncId} {args : Array Value} {w : World} {d : Nat} {os : Array Obj} {v : Value}
    (h : Calls P f args (Sort.grow (redrawn w d) os) fun e w' => e = .returned v ∧ w' = Sort.grow (redrawn w d) os) :
    Calls P f args (Sort.grow (redrawn w d) os) fun e w'' => e = .returned v ∧ ∃ p : Regrown, w'' = Sort.grow (redrawn w p.d) p.os :=
  regB (h.mono fun _ _ ⟨he, hw⟩ => ⟨he, by rw [hw]; exact Below.refl _ _⟩)
theorem cells5 (w : World) (c0 c1 c2 c3 c4 : Value) (T : TypeId) : (w.alloc (.cells #[c0, c1, c2, c3, c4] T)).cell? ⟨w.heap.size, 0, none⟩ = some c0 ∧ (w.alloc (.cells #[c0, c1, c2, c3, c4] T)).cell? ⟨w.heap.size, 1, none⟩ = some c1 ∧
    (w.alloc (.cells #[c0, c1, c2, c3, c4] T)).cell? ⟨w.heap.size, 2, none⟩ = some c2 ∧ (w.alloc (.cells #[c0, c1, c2, c3, c4] T)).cell? ⟨w.heap.size, 3, none⟩ = some c3 ∧ (w.alloc (.cells #[c0, c1, c2, c3, c4] T)).cell? ⟨w.heap.size, 4, none⟩ = some c4 := by
  refine ⟨by simp [go_sem], by simp [go_sem], by simp [go_sem], by simp [go_sem], by simp [go_sem]⟩
/-- names, one by one -/
def namesEq : List ByteArray → List ByteArray → Bool
  | [], [] => true
  | x :: a, y :: b => (x.toList == y.toList) && namesEq a b
  | _, _ => false
theorem namesEq_map : ∀ a b : List ByteArray, namesEq a b = (a.map (·.data.toList) == b.map (·.data.toList))
  | [], [] => rfl
  | x :: a, y :: b => by rw [namesEq, namesEq_map a b, ByteArray.toList_eq, ByteArray.toList_eq]; rfl
  | [], _ :: _ => rfl
  | _ :: _, [] => rfl
theorem same_mk (k n k' n' : Int) (s s' : ByteArray) (ns ns' : List ByteArray) (is is' : List JV) : same (.mk k n s ns is) (.mk k' n' s' ns' is') = (k == k' && n == n' && (s.toList == s'.toList) && namesEq ns ns' && sameL is is') := by
  rw [same, namesEq_map, ByteArray.toList_eq, ByteArray.toList_eq]
theorem namesEq_len {a b : List ByteArray} (h : a.length ≠ b.length) : namesEq a b = false := by
  rw [namesEq_map, beq_eq_false_iff_ne]
  intro e
  exact h (by simpa using congrArg List.length e)
theorem sameL_len : ∀ {a b : List JV}, a.length ≠ b.length → sameL a b = false
  | [], [], h => absurd rfl h
  | x :: a, y :: b, h => by rw [sameL, sameL_len (a := a) (b := b) (by simpa using h), Bool.and_false]
  | [], _ :: _, _ => by rw [sameL]; all_goals (intros; contradiction)
  | _ :: _, [], _ => by rw [sameL]; all_goals (intros; contradiction)
end Go.Proofs.YtnmojmmgkipjcaaDoor
