/- The values of package api as trees, and when memory holds one. Over any program. Conditions: none. -/
import Derived.Test.YtjmhoccikbgigaaDoorOwn
namespace Go.Proofs.YtjmhoccikbgigaaDoor
open Go.RowKit
/-- An api.Value, whatever its kind. -/
inductive JV where
  | mk (kind int : Int) (text : ByteArray) (names : List ByteArray) (items : List JV)
def JV.kind : JV → Int | .mk k _ _ _ _ => k
def JV.int : JV → Int | .mk _ n _ _ _ => n
def JV.text : JV → ByteArray | .mk _ _ s _ _ => s
def JV.names : JV → List ByteArray | .mk _ _ _ l _ => l
def JV.items : JV → List JV | .mk _ _ _ _ l => l
mutual
/-- how many values stand in one -/
def JV.size : JV → Nat
  | .mk _ _ _ _ is => 1 + JV.sizes is
def JV.sizes : List JV → Nat
  | [] => 0
  | t :: r => JV.size t + JV.sizes r
end
theorem JV.size_pos (t : JV) : 1 ≤ t.size := by cases t; simp [JV.size]
theorem JV.size_le {t : JV} {l : List JV} (h : t ∈ l) : t.size ≤ JV.sizes l := by
  induction l with
  | nil => cases h
  | cons x r ih =>
    rcases List.mem_cons.1 h with rfl | h
    · simp [JV.sizes]
    · have := ih h; simp only [JV.sizes]; omega
theorem JV.size_item {t u : JV} (h : u ∈ t.items) : u.size < t.size := by
  cases t with
  | mk k n s ns is => have := JV.size_le (l := is) h; simp only [JV.size]; omega
theorem JV.len_le (l : List JV) : l.length ≤ JV.sizes l := by
  induction l with
  | nil => simp
  | cons x r ih => have := JV.size_pos x; simp only [JV.sizes, List.length_cons]; omega
/-- The cells xs lie at an address, in a block that is let. -/
def Lie (w : World) (b off : Nat) (xs : List Value) : Prop := ∀ (j : Nat) (v : Value), xs[j]? = some v → w.cell? ⟨b, off + j, none⟩ = some v
/-- A slice's texts. -/
def StrsAt (w : World) (ok : Nat → Prop) (a : Option Addr) (l : List ByteArray) : Prop :=
  l = [] ∨ ∃ b off, a = some ⟨b, off, none⟩ ∧ ok b ∧ Lie w b off (l.map Value.string)
mutual
/-- The five cells cs hold the tree t; every list of it lies in blocks that are let. -/
def Rep (w : World) (ok : Nat → Prop) : JV → List Value → Prop
  | .mk k n s ns is, cs => (-9223372036854775808 ≤ k ∧ k ≤ 9223372036854775807) ∧ (-9223372036854775808 ≤ n ∧ n ≤ 9223372036854775807) ∧ s.size ≤ maxLen ∧
    ∃ an cn ai ci, cs = [.int .i64 k, .int .i64 n, .string s, .slice an ns.length cn, .slice ai is.length ci] ∧ (ns.length ≤ cn ∧ cn ≤ maxLen) ∧ (is.length ≤ ci ∧ ci ≤ maxLen) ∧
      StrsAt w ok an ns ∧ (is = [] ∨ ∃ b off, ai = some ⟨b, off, none⟩ ∧ ok b ∧ RepAll w ok is b off)
def RepAll (w : World) (ok : Nat → Prop) : List JV → Nat → Nat → Prop
  | [], _, _ => True
  | t :: r, b, off => (∃ cs, Rep w ok t cs ∧ Lie w b off cs) ∧ RepAll w ok r b (off + 5)
end
/-- A slice's values. -/
def ItemsAt (w : World) (ok : Nat → Prop) (a : Option Addr) (l : List JV) : Prop :=
  l = [] ∨ ∃ b off, a = some ⟨b, off, none⟩ ∧ ok b ∧ RepAll w ok l b off
theorem rep_mk {w : World} {ok : Nat → Prop} {k n : Int} {s : ByteArray} {ns : List ByteArray} {is : List JV} {cs : List Value} :
    Rep w ok (.mk k n s ns is) cs ↔ (-9223372036854775808 ≤ k ∧ k ≤ 9223372036854775807) ∧ (-9223372036854775808 ≤ n ∧ n ≤ 9223372036854775807) ∧ s.size ≤ maxLen ∧
    ∃ an cn ai ci, cs = [.int .i64 k, .int .i64 n, .string s, .slice an ns.length cn, .slice ai is.length ci] ∧ (ns.length ≤ cn ∧ cn ≤ maxLen) ∧ (is.length ≤ ci ∧ ci ≤ maxLen) ∧
      StrsAt w ok an ns ∧ ItemsAt w ok ai is := by
  rw [Rep]; rfl
/-- What is held stays held where the let blocks stay as they are. -/
theorem Lie.kept {w w' : World} {b off : Nat} {xs : List Value} (h : Lie w b off xs) (hb : w'.heap[b]? = w.heap[b]?) : Lie w' b off xs := fun j v hj => by
  rw [World.cell?_of_block (w := w) hb]; exact h j v hj
theorem StrsAt.kept {w w' : World} {ok ok' : Nat → Prop} {a : Option Addr} {l : List ByteArray} (h : StrsAt w ok a l) (hk : ∀ b, b < w.heap.size → ok b → ok' b ∧ w'.heap[b]? = w.heap[b]?) : StrsAt w' ok' a l := by
  rcases h with rfl | ⟨b, off, rfl, hb, hl⟩
  · exact .inl rfl
  · cases l with
    | nil => exact .inl rfl
    | cons x r =>
      have hlt : b < w.heap.size := cell_lt (hl 0 (.string x) rfl)
      exact .inr ⟨b, off, rfl, (hk b hlt hb).1, hl.kept (hk b hlt hb).2⟩
mutual
theorem Rep.kept {w w' : World} {ok ok' : Nat → Prop} (hk : ∀ b, b < w.heap.size → ok b → ok' b ∧ w'.heap[b]? = w.heap[b]?) : ∀ (t : JV) (cs : List Value), Rep w ok t cs → Rep w' ok' t cs
  | .mk k n s ns is, cs, h => by
    rw [rep_mk] at h ⊢
    obtain ⟨h1, h2, h3, an, cn, ai, ci, rfl, h4, h5, h6, h7⟩ := h
    refine ⟨h1, h2, h3, an, cn, ai, ci, rfl, h4, h5, h6.kept hk, ?_⟩
    rcases h7 with rfl | ⟨b, off, rfl, hb, hl⟩
    · exact .inl rfl
    · cases is with
      | nil => exact .inl rfl
      | cons x r =>
        have hlt : b < w.heap.size := by
          rw [RepAll] at hl
          obtain ⟨⟨cs, hx, hcs⟩, _⟩ := hl
          cases x with
          | mk k n s ns is =>
            rw [rep_mk] at hx
            obtain ⟨_, _, _, an, cn, ai, ci, rfl, _⟩ := hx
            exact cell_lt (hcs 0 _ rfl)
        exact .inr ⟨b, off, rfl, (hk b hlt hb).1, RepAll.kept hk (x :: r) b off (hk b hlt hb).2 hl⟩
theorem RepAll.kept {w w' : World} {ok ok' : Nat → Prop} (hk : ∀ b, b < w.heap.size → ok b → ok' b ∧ w'.heap[b]? = w.heap[b]?) : ∀ (l : List JV) (b off : Nat), w'.heap[b]? = w.heap[b]? → RepAll w ok l b off → RepAll w' ok' l b off
  | [], _, _, _, _ => by rw [RepAll]; trivial
  | t :: r, b, off, hb, h => by
    rw [RepAll] at h ⊢
    obtain ⟨⟨cs, h1, h2⟩, h3⟩ := h
    exact ⟨⟨cs, Rep.kept hk t cs h1, h2.kept hb⟩, RepAll.kept hk r b (off + 5) hb h3⟩
end
theorem Rep.below {w w' : World} {ok : Nat → Prop} {t : JV} {cs : List Value} (h : Rep w ok t cs) (hb : Below w.heap.size w w') : Rep w' ok t cs :=
  Rep.kept (fun b hlt ho => ⟨ho, hb.block b hlt⟩) t cs h
theorem ItemsAt.kept {w w' : World} {ok ok' : Nat → Prop} {a : Option Addr} {l : List JV} (h : ItemsAt w ok a l) (hk : ∀ b, b < w.heap.size → ok b → ok' b ∧ w'.heap[b]? = w.heap[b]?) : ItemsAt w' ok' a l := by
  rcases h with rfl | ⟨b, off, rfl, hb, hl⟩
  · exact .inl rfl
  · cases l with
    | nil => exact .inl rfl
    | cons x r =>
      have hlt : b < w.heap.size := by
        rw [RepAll] at hl
        obtain ⟨⟨cs, hx, hcs⟩, _⟩ := hl
        cases x with
        | mk k n s ns is =>
          rw [rep_mk] at hx
          obtain ⟨_, _, _, an, cn, ai, ci, rfl, _⟩ := hx
          exact cell_lt (hcs 0 _ rfl)
      exact .inr ⟨b, off, rfl, (hk b hlt hb).1, RepAll.kept hk (x :: r) b off (hk b hlt hb).2 hl⟩
theorem ItemsAt.below {w w' : World} {ok : Nat → Prop} {a : Option Addr} {l : List JV} (h : ItemsAt w ok a l) (hb : Below w.heap.size w w') : ItemsAt w' ok a l :=
  h.kept (fun b hlt ho => ⟨ho, hb.block b hlt⟩)
theorem StrsAt.below {w w' : World} {ok : Nat → Prop} {a : Option Addr} {l : List ByteArray} (h : StrsAt w ok a l) (hb : Below w.heap.size w w') : StrsAt w' ok a l :=
  h.kept (fun b hlt ho => ⟨ho, hb.block b hlt⟩)
/-- The value number i. -/
theorem RepAll.at {w : World} {ok : Nat → Prop} : ∀ {l : List JV} {b off : Nat}, RepAll w ok l b off → ∀ (i : Nat) (h : i < l.length), ∃ cs, Rep w ok l[i] cs ∧ Lie w b (off + i * 5) cs
  | t :: r, b, off, h, 0, _ => by rw [RepAll] at h; simpa using h.1
  | t :: r, b, off, h, i + 1, hi => by
    rw [RepAll] at h
    obtain ⟨cs, h1, h2⟩ := RepAll.at h.2 i (by simpa using hi)
    exact ⟨cs, h1, by rw [show off + (i + 1) * 5 = off + 5 + i * 5 by omega]; exact h2⟩
end Go.Proofs.YtjmhoccikbgigaaDoor
