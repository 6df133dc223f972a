/- Plain law: the order of lists and of members, step by step. No program in sight. -/
import Derived.Test.YtjmhoccikbgigaaDoorOrdnums
namespace Go.Proofs.YtjmhoccikbgigaaDoor
theorem ordL_step {a b : List JV} {j : Nat} (ha : j < a.length) (hb : j < b.length) :
    ordL (a.drop j) (b.drop j) = if ord a[j] b[j] ≠ 0 then ord a[j] b[j] else ordL (a.drop (j + 1)) (b.drop (j + 1)) := by
  rw [List.drop_eq_getElem_cons ha, List.drop_eq_getElem_cons hb, ordL]
theorem ordL_end {a b : List JV} {j : Nat} (h : j = a.length ∨ j = b.length) (ha : j ≤ a.length) (hb : j ≤ b.length) : ordL (a.drop j) (b.drop j) = sgn a.length b.length := by
  rcases Nat.lt_trichotomy a.length b.length with e | e | e
  · obtain rfl : j = a.length := by omega
    rw [List.drop_of_length_le (Nat.le_refl _), List.drop_eq_getElem_cons (by omega), ordL, sgn_lt (by omega)]
  · obtain rfl : j = a.length := by omega
    rw [List.drop_of_length_le (Nat.le_refl _), List.drop_of_length_le (by omega), ordL, e, sgn_eq]
  · obtain rfl : j = b.length := by omega
    rw [List.drop_of_length_le (l := b) (Nat.le_refl _), List.drop_eq_getElem_cons (by omega), ordL, sgn_gt (by omega)]
theorem ordM_step {ns ns' : List ByteArray} {a b : List JV} {j : Nat} (h1 : j < ns.length) (ha : j < a.length) (h2 : j < ns'.length) (hb : j < b.length) :
    ordM (ns.drop j) (a.drop j) (ns'.drop j) (b.drop j) = if txt ns[j].data.toList ns'[j].data.toList ≠ 0 then txt ns[j].data.toList ns'[j].data.toList else if ord a[j] b[j] ≠ 0 then ord a[j] b[j] else ordM (ns.drop (j + 1)) (a.drop (j + 1)) (ns'.drop (j + 1)) (b.drop (j + 1)) := by
  rw [List.drop_eq_getElem_cons h1, List.drop_eq_getElem_cons ha, List.drop_eq_getElem_cons h2, List.drop_eq_getElem_cons hb, ordM]
theorem ordM_out {ns ns' : List ByteArray} {a b : List JV} (h : ns = [] ∨ a = [] ∨ ns' = [] ∨ b = []) : ordM ns a ns' b = sgn (min ns.length a.length : Nat) (min ns'.length b.length : Nat) := by
  rw [ordM]
  rintro m r x y m' r' x' y' rfl rfl rfl rfl
  simp at h
theorem ordM_end {ns ns' : List ByteArray} {a b : List JV} {j : Nat} (h : j = min ns.length a.length ∨ j = min ns'.length b.length) (h1 : j ≤ min ns.length a.length) (h2 : j ≤ min ns'.length b.length) :
    ordM (ns.drop j) (a.drop j) (ns'.drop j) (b.drop j) = sgn (min ns.length a.length : Nat) (min ns'.length b.length : Nat) := by
  rw [ordM_out (by simp only [List.drop_eq_nil_iff]; omega)]
  simp only [List.length_drop]
  unfold sgn
  repeat' split
  all_goals omega
end Go.Proofs.YtjmhoccikbgigaaDoor
