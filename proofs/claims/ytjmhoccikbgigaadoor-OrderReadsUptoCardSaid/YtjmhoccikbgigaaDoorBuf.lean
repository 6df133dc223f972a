/- A slice of bytes that the call itself makes and appends to: what it holds, and the laws at append and string(b). Over any program. Conditions: what the laws name. -/
import Derived.Test.YtjmhoccikbgigaaDoorKit
import Derived.OwnWalk
namespace Go.Proofs.YtjmhoccikbgigaaDoor
open Go.RowKit
def byteV (c : UInt8) : Value := .int .u8 (c.toNat : Int)
/-- The types: a slice of bytes, a byte. -/
structure ByteTy (P : Program) (S E : TypeId) : Prop where
  slice : P.underlying S = some (.slice E)
  byte : P.underlying E = some (.int .u8)
  info : (P.info? E).map (fun i => (i.zero, i.size, i.bytes)) = some (some (.int .u8 0), 1, 1)
/-- v owns the bytes l, in blocks from base on. -/
def Buf (w : World) (base : Nat) (E : TypeId) (v : Value) (l : List UInt8) : Prop := w.ownsRow base E 1 v l.length (l.map byteV)
theorem buf_nil (w : World) (base : Nat) (E : TypeId) : Buf w base E (.slice none 0 0) [] := World.ownsRow_nil _ _ _ _
theorem buf_size {w w' : World} {base : Nat} {E : TypeId} {v : Value} {l : List UInt8} (h : Buf w base E v l) (hw : w'.heap = w.heap) : Buf w' base E v l := by
  unfold Buf World.ownsRow at *; rw [hw]; exact h
theorem buf_alloc {w : World} {base : Nat} {E : TypeId} {v : Value} {l : List UInt8} (h : Buf w base E v l) (o : Obj) : Buf (w.alloc o) base E v l := World.ownsRow.alloc h o
theorem below_of_grownBy {w w' : World} {base : Nat} {row : Option Nat} (hg : w.grownBy w' row) (hb : base ≤ w.heap.size) (hr : ∀ k, row = some k → base ≤ k) : Below base w w' :=
  (Below.refl base w).grown hg hb hr
section
variable {P : Program} {S E : TypeId} {w : World}
theorem buf_lit {base : Nat} (hb : base ≤ w.heap.size) (l : List UInt8) (hl : l.length ≤ maxLen) : Buf (w.alloc (.cells (l.map byteV).toArray E)) base E (.slice (some ⟨w.heap.size, 0, none⟩) l.length l.length) l := by
  refine ⟨by simp, .inr ⟨w.heap.size, l.length, (l.map byteV).toArray, rfl, hb, ?_, Nat.le_refl _, hl, by simp, by simp [List.take_of_length_le]⟩⟩
  show (w.heap.push _)[w.heap.size]? = _
  simp
theorem wpList_push {ops : Array Oper} {rest : List Oper} {o : Oper} {a : Act} {Q : Exit → Act → World → Prop} (ty : ByteTy P S E) (hgd : o.guard = none) (s x : Operand)
    (ho : o.op = .call { callee := .builtin .append, args := #[s, x], argTypes := #[S, S] })
    (base : Nat) (v : Value) (l : List UInt8) (hs : a.eval s = v) (hown : Buf w base E v l) (g : Nat) (c : UInt8)
    (hx : a.eval x = .slice (some ⟨g, 0, none⟩) 1 1) (hnew : w.cell? ⟨g, 0, none⟩ = some (byteV c)) (hlen : l.length < 140737488355328) (hbase : base ≤ w.heap.size)
    (h : ∀ v' w', Buf w' base E v' (l ++ [c]) → Below base w w' → wpList P ops Q rest (a.put o.dst v') w') : wpList P ops Q (o :: rest) a w := by
  obtain ⟨i0, hi, hz0, hz1, hz2⟩ := info_parts ty.info
  refine wpList_append_own w hgd s x S ho base E i0 (.int .u8 0) 1 1 ty.slice hi hz0 hz1 hz2 rfl (by decide) v l.length (l.map byteV) hs hown ⟨g, 0, none⟩ 1 1 [byteV c] hx rfl ?_ ?_ ?_ ?_ hbase ?_
  · intro j u hj
    match j, hj with
    | 0, hj => simp at hj; subst hj; simpa [Addr.add] using hnew
  · intro u hu; simp at hu; subst hu; rfl
  · unfold maxLen; omega
  · omega
  · intro v' w' h2 h3 _
    refine h v' w' ?_ (below_of_grownBy h3 hbase fun k hk => (hown.lt k hk).1)
    unfold Buf
    simpa using h2
theorem run_buf_string (ty : ByteTy P S E) {base : Nat} {v : Value} {l : List UInt8} (h : Buf w base E v l) (dst : TypeId) (hd : P.underlying dst = some .string) :
    (convert S dst v).run P w = .ok (.string ⟨l.toArray⟩) w := by
  obtain ⟨h1, ⟨rfl, h2⟩ | ⟨g, cap, cur, rfl, hg, hh, hn, hc, hs, ht⟩⟩ := h
  · obtain rfl : l = [] := List.eq_nil_of_length_eq_zero h2
    exact run_convert_bytes_nil w S E ty.slice ty.byte 0 0 dst hd
  · refine run_convert_bytes_back w S dst E ⟨g, 0, none⟩ cap l ty.slice ty.byte hd ?_
    intro j hj
    have e : (⟨g, 0, none⟩ : Addr).add j = ⟨g, j, none⟩ := by unfold Addr.add; split <;> simp_all
    rw [e]
    have hj' : cur.toList[j]? = some (byteV l[j]) := by
      have : (cur.toList.take (l.length * 1))[j]? = some (byteV l[j]) := by rw [ht]; simp [hj]
      rw [List.getElem?_take] at this
      split at this
      · exact this
      · cases this
    simp only [World.cell?, hh]
    simpa [byteV] using hj'
end
end Go.Proofs.YtjmhoccikbgigaaDoor
