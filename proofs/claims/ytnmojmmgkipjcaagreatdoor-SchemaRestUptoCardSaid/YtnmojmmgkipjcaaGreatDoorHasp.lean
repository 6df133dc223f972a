/- A member by its name, in plain Lean. Conditions: none. -/
import Derived.Test.YtnmojmmgkipjcaaGreatDoorJkit
namespace Go.Proofs.YtnmojmmgkipjcaaGreatDoor
open Go.RowKit
def jnil (k : Int) : JV := .mk k 0 ⟨#[]⟩ [] []
/-- a member by its name -/
def hasG (x : ByteArray) : List ByteArray → List JV → Option JV
  | n :: ns, t :: is => if (n.toList == x.toList) = true then some t else hasG x ns is
  | _, _ => none
def hasJ (t : JV) (x : ByteArray) : Option JV := if t.kind = 6 then hasG x t.names t.items else none
theorem results_ct {P : Program} {fn : Func} {p t : Tmp} {ty : TypeId} (h : fn.results = #[.cell p ty, .tmp t]) (tmps : Array Value) (w : World) (g : Nat) (T : TypeId) (cs : Array Value) (fr : Nat × Nat) (d : TypeDesc)
    (hp : tmps.getD p undef = .pointer (some ⟨g, 0, none⟩)) (hg : w.heap[g]? = some (.cells cs T fr))
    (hu : P.underlying ty = some d) (hd : (match d with | .struct _ | .array _ _ => true | _ => false) = true) (hi : (P.info? ty).map (·.size) = some cs.size) :
    (results fn tmps).run P w = .ok (.tuple #[.agg cs, tmps.getD t undef]) w := by
  have hp' : tmps[p]?.getD undef = .pointer (some ⟨g, 0, none⟩) := by simpa using hp
  simp [results, h, hp', asAddr, run_loadVar_row w g T ty cs fr d hg hu hd hi]
theorem bytes_eq {a b : ByteArray} : (a.toList == b.toList) = true ↔ a = b := by
  rw [beq_iff_eq, ByteArray.toList_eq, ByteArray.toList_eq]
  exact ⟨fun h => ByteArray.ext (Array.ext' h), fun h => by rw [h]⟩
theorem bytes_ne {a b : ByteArray} (h : a ≠ b) : (a.toList == b.toList) = false := by
  rw [Bool.eq_false_iff]; intro e; exact h (bytes_eq.1 e)
theorem hasG_at (x : ByteArray) : ∀ (ns : List ByteArray) (is : List JV) (i : Nat) (h1 : i < ns.length) (h2 : i < is.length), ns[i] = x → (∀ j (hj : j < ns.length), j < i → ns[j] ≠ x) → hasG x ns is = some is[i]
  | n :: ns, t :: is, 0, _, _, h, _ => by
    rw [hasG, if_pos (bytes_eq.2 (by simpa using h))]; rfl
  | n :: ns, t :: is, i + 1, h1, h2, h, hne => by
    have h0 : n ≠ x := hne 0 (by simp) (by omega)
    rw [hasG, if_neg (by rw [bytes_ne h0]; decide)]
    exact hasG_at x ns is i (by simpa using h1) (by simpa using h2) (by simpa using h) (fun j hj hlt => by have := hne (j + 1) (by simpa using hj) (by omega); simpa using this)
theorem hasG_none (x : ByteArray) : ∀ (ns : List ByteArray) (is : List JV), (∀ j (hj : j < ns.length), j < is.length → ns[j] ≠ x) → hasG x ns is = none
  | [], is, _ => by cases is <;> simp [hasG]
  | n :: ns, [], _ => by simp [hasG]
  | n :: ns, t :: is, h => by
    have h0 : n ≠ x := h 0 (by simp) (by simp)
    rw [hasG, if_neg (by rw [bytes_ne h0]; decide)]
    exact hasG_none x ns is (fun j hj hlt => by have := h (j + 1) (by simpa using hj) (by simpa using hlt); simpa using this)
theorem first_or (x : ByteArray) : ∀ ns : List ByteArray, (∃ i, ∃ h : i < ns.length, ns[i] = x ∧ ∀ j (hj : j < ns.length), j < i → ns[j] ≠ x) ∨ ∀ j (hj : j < ns.length), ns[j] ≠ x
  | [] => .inr fun j hj => by simp at hj
  | n :: ns => by
    by_cases h0 : n = x
    · exact .inl ⟨0, by simp, h0, fun j hj hlt => by omega⟩
    · rcases first_or x ns with ⟨i, hi, h1, h2⟩ | h
      · refine .inl ⟨i + 1, by simpa using hi, by simpa using h1, fun j hj hlt => ?_⟩
        cases j with
        | zero => exact h0
        | succ j => have := h2 j (by simpa using hj) (by omega); simpa using this
      · refine .inr fun j hj => ?_
        cases j with
        | zero => exact h0
        | succ j => have := h j (by simpa using hj); simpa using this
end Go.Proofs.YtnmojmmgkipjcaaGreatDoor
