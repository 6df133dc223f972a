/- Plain law: how much a tree holds, how many parts it has; two trees the same. No program in sight. -/
import Derived.Test.YtjmhoccikbgigaaDoorTree
namespace Go.Proofs.YtjmhoccikbgigaaDoor
def strsBulk : List ByteArray → Nat
  | [] => 0
  | s :: r => s.size + 1 + strsBulk r
mutual
/-- values and letters -/
def JV.bulk : JV → Nat
  | .mk _ _ s ns is => 1 + s.size + strsBulk ns + JV.bulks is
def JV.bulks : List JV → Nat
  | [] => 0
  | t :: r => JV.bulk t + JV.bulks r
end
theorem strs_len (l : List ByteArray) : l.length ≤ strsBulk l := by
  induction l with
  | nil => simp
  | cons x r ih => simp only [strsBulk, List.length_cons]; omega
theorem JV.bulk_le {t : JV} {l : List JV} (h : t ∈ l) : t.bulk ≤ JV.bulks l := by
  induction l with
  | nil => cases h
  | cons x r ih =>
    rcases List.mem_cons.1 h with rfl | h
    · simp [JV.bulks]
    · have := ih h; simp only [JV.bulks]; omega
theorem JV.bulk_item {t u : JV} (h : u ∈ t.items) : u.bulk ≤ t.bulk := by
  cases t with
  | mk k n s ns is => have := JV.bulk_le (l := is) h; simp only [JV.bulk]; omega
mutual
/-- how many values and names, counted as far as a most -/
def parts : JV → Int → Int
  | .mk _ _ _ ns is, most => partsL is (1 + (ns.length : Int)) most
def partsL : List JV → Int → Int → Int
  | [], n, _ => n
  | t :: r, n, most => if n ≤ most then partsL r (n + parts t (most - n)) most else n
end
mutual
theorem parts_bd : ∀ (t : JV) (most : Int), 1 ≤ parts t most ∧ parts t most ≤ t.bulk
  | .mk _ _ s ns is, most => by
    have h := partsL_bd is (1 + (ns.length : Int)) most (by omega)
    have := strs_len ns
    rw [parts, JV.bulk]
    omega
theorem partsL_bd : ∀ (l : List JV) (n most : Int), 0 ≤ n → n ≤ partsL l n most ∧ partsL l n most ≤ n + JV.bulks l
  | [], n, most, _ => by rw [partsL, JV.bulks]; omega
  | t :: r, n, most, h => by
    rw [partsL, JV.bulks]
    split
    · have h1 := parts_bd t (most - n)
      have h2 := partsL_bd r (n + parts t (most - n)) most (by omega)
      omega
    · omega
end
mutual
/-- are two trees the same? -/
def same : JV → JV → Bool
  | .mk k n s ns is, .mk k' n' s' ns' is' => k == k' && n == n' && s.data.toList == s'.data.toList && ns.map (·.data.toList) == ns'.map (·.data.toList) && sameL is is'
def sameL : List JV → List JV → Bool
  | [], [] => true
  | x :: a, y :: b => same x y && sameL a b
  | _, _ => false
end
mutual
theorem same_self : ∀ t : JV, same t t = true
  | .mk k n s ns is => by rw [same, sameL_self is]; simp
theorem sameL_self : ∀ l : List JV, sameL l l = true
  | [] => rfl
  | t :: r => by rw [sameL, same_self t, sameL_self r]; rfl
end
mutual
theorem same_eq : ∀ t u : JV, same t u = true → t = u
  | .mk k n s ns is, .mk k' n' s' ns' is', h => by
    rw [same] at h
    simp only [Bool.and_eq_true, beq_iff_eq] at h
    obtain ⟨⟨⟨⟨rfl, rfl⟩, h1⟩, h2⟩, h3⟩ := h
    obtain rfl : s = s' := ByteArray.ext (Array.ext' h1)
    obtain rfl : ns = ns' := by
      have hinj : ∀ (a b : List ByteArray), a.map (·.data.toList) = b.map (·.data.toList) → a = b := by
        intro a
        induction a with
        | nil => intro b hb; cases b <;> simp_all
        | cons x a ih =>
          intro b hb
          cases b with
          | nil => simp at hb
          | cons y b =>
            simp only [List.map_cons, List.cons.injEq] at hb
            rw [ih b hb.2, show x = y from ByteArray.ext (Array.ext' hb.1)]
      exact hinj _ _ h2
    rw [sameL_eq is is' h3]
theorem sameL_eq : ∀ a b : List JV, sameL a b = true → a = b
  | [], [], _ => rfl
  | x :: a, y :: b, h => by
    rw [sameL, Bool.and_eq_true] at h
    rw [same_eq x y h.1, sameL_eq a b h.2]
  | [], _ :: _, h => by rw [sameL] at h; exact absurd h (by decide); all_goals (intros; contradiction)
  | _ :: _, [], h => by rw [sameL] at h; exact absurd h (by decide); all_goals (intros; contradiction)
end
theorem same_iff (t u : JV) : same t u = true ↔ t = u := ⟨same_eq t u, fun h => by rw [h]; exact same_self u⟩
end Go.Proofs.YtjmhoccikbgigaaDoor
