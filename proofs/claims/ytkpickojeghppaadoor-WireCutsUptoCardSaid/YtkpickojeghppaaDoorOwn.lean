/- Rows that the call itself makes and appends to, whatever the element: what they hold, and that only the one row, or a new one, has turned. Over any program. Conditions: what the laws name. -/
import Derived.Test.YtkpickojeghppaaDoorKit
import Derived.OwnWalk
namespace Go.Proofs.YtkpickojeghppaaDoor
open Go.RowKit
/-- The types: a slice, its element with zero value, cells, bytes. -/
structure SlTy (P : Program) (S E : TypeId) (z : Value) (size bytes : Nat) : Prop where
  slice : P.underlying S = some (.slice E)
  info : (P.info? E).map (fun i => (i.zero, i.size, i.bytes)) = some (some z, size, bytes)
  cells : z.cells.size = size
  pos : 0 < size
/-- v, of n elements, owns the cells xs. -/
def Row (w : World) (E : TypeId) (size : Nat) (v : Value) (n : Nat) (xs : List Value) : Prop := w.ownsRow 0 E size v n xs
/-- From w to w' only the row r has turned, and what is new; the row is then r'. -/
structure Upd (w w' : World) (r r' : Option Nat) : Prop where
  grown : w.grownBy w' r
  own : r' = r ∨ ∃ g, r' = some g ∧ w.heap.size ≤ g
theorem Upd.refl (w : World) (r : Option Nat) : Upd w w r r := ⟨⟨rfl, rfl, rfl, Nat.le_refl _, fun _ _ _ => rfl⟩, .inl rfl⟩
theorem Upd.trans {a b c : World} {r s t : Option Nat} (h : Upd a b r s) (k : Upd b c s t) : Upd a c r t := by
  refine ⟨⟨k.grown.os.trans h.grown.os, k.grown.tape.trans h.grown.tape, k.grown.output.trans h.grown.output, Nat.le_trans h.grown.size k.grown.size, fun i hi hne => ?_⟩, ?_⟩
  · rw [← h.grown.block i hi hne]
    refine k.grown.block i (Nat.lt_of_lt_of_le hi h.grown.size) ?_
    rcases h.own with e | ⟨g, e, hg⟩
    · rw [e]; exact hne
    · rw [e]; intro he; injection he with he; omega
  · rcases k.own with e | ⟨g, e, hg⟩
    · rw [e]; exact h.own
    · exact .inr ⟨g, e, Nat.le_trans h.grown.size hg⟩
theorem Upd.of_below {w w' : World} (h : Below w.heap.size w w') (r : Option Nat) : Upd w w' r r :=
  ⟨⟨h.os, h.tape, h.output, h.size, fun k hk _ => h.block k hk⟩, .inl rfl⟩
/-- a block that is not the row stays -/
theorem Upd.block {w w' : World} {r r' : Option Nat} (h : Upd w w' r r') {k : Nat} (hk : k < w.heap.size) (hne : r ≠ some k) : w'.heap[k]? = w.heap[k]? :=
  h.grown.block k hk (fun e => hne e.symm)
theorem Upd.cell {w w' : World} {r r' : Option Nat} (h : Upd w w' r r') {p : Addr} {v : Value} (hc : w.cell? p = some v) (hne : r ≠ some p.block) : w'.cell? p = some v := by
  rw [World.cell?_of_block (w := w) (h.block (cell_lt hc) hne)]; exact hc
theorem Upd.frozen {w w' : World} {r r' : Option Nat} (h : Upd w w' r r') {p : Addr} (hp : p.block < w.heap.size) (hne : r ≠ some p.block) : w'.frozen? p = w.frozen? p :=
  World.frozen?_of_block (w := w) (h.block hp hne)
theorem Upd.below {w w' : World} {r r' : Option Nat} {B : Nat} (h : Upd w w' r r') (hB : B ≤ w.heap.size) (hr : ∀ g, r = some g → B ≤ g) : Below B w w' :=
  (Below.refl B w).grown h.grown hB hr
theorem Row.lt {w : World} {E size n : Nat} {v : Value} {xs : List Value} (h : Row w E size v n xs) {g : Nat} (hg : v.ownBlock = some g) : g < w.heap.size := (World.ownsRow.lt h g hg).2
theorem Row.kept {w w' : World} {E size n : Nat} {v : Value} {xs : List Value} {r r' : Option Nat} (h : Row w E size v n xs) (hu : Upd w w' r r') (hne : v.ownBlock = none ∨ v.ownBlock ≠ r) : Row w' E size v n xs :=
  World.ownsRow.kept h hu.grown hne
theorem Row.below {w w' : World} {E size n : Nat} {v : Value} {xs : List Value} (h : Row w E size v n xs) (hb : Below w.heap.size w w') : Row w' E size v n xs := by
  cases e : v.ownBlock with
  | none => exact World.ownsRow.kept h (Upd.of_below hb none).grown (.inl e)
  | some g => exact World.ownsRow.kept h (Upd.of_below hb none).grown (.inr (by rw [e]; simp))
theorem row_nil (w : World) (E size : Nat) : Row w E size (.slice none 0 0) 0 [] := World.ownsRow_nil _ _ _ _
section
variable {P : Program} {S E : TypeId} {z : Value} {size bytes : Nat} {w : World}
theorem run_app (ty : SlTy P S E z size bytes) (tt : TypeId) (v : Value) (n : Nat) (xs : List Value) (hown : Row w E size v n xs) (a : Addr) (m c : Nat) (news : List Value) (hl : news.length = m * size)
    (hnews : ∀ j u, news[j]? = some u → w.cell? (a.add j) = some u) (h1 : ∀ u ∈ news, u.oneCell' = true) (h63 : n + m ≤ maxLen) (hbytes : (n + m) * bytes ≤ 140737488355328) :
    ∃ v' w', (Builtin.append_ #[S, S] tt #[v, .slice (some a) m c]).run P w = .ok v' w' ∧ Row w' E size v' (n + m) (xs ++ news) ∧ Upd w w' v.ownBlock v'.ownBlock := by
  obtain ⟨i0, hi, hz0, hz1, hz2⟩ := info_parts ty.info
  obtain ⟨v', w', hr, h2, h3, h4⟩ := run_append_own (P := P) w 0 S tt E i0 z size bytes ty.slice hi hz0 hz1 hz2 ty.cells ty.pos v n xs hown a m c news hl hnews h1 h63 hbytes (Nat.zero_le _)
  refine ⟨v', w', hr, h2, h3, ?_⟩
  have hsz := hown.1
  rcases hown.2 with ⟨rfl, rfl⟩ | ⟨g, cap, cur, rfl, _, hg, hnc, hcm, hcs, htake⟩
  · by_cases hm : m = 0
    · left; rw [h4.2 ⟨rfl, hm⟩]
    · right
      have hr2 := run_append_nil (P := P) w S tt E i0 z ty.slice hi hz0 a m c news (by rw [hz1]; exact hl) hnews (by omega) (by unfold maxLen at h63; omega) (by rw [hz2]; have hb := hbytes; simp only [Nat.zero_add] at hb; omega)
      rw [hr] at hr2
      injection hr2 with e1 e2
      exact ⟨w.heap.size, by rw [e1]; rfl, Nat.le_refl _⟩
  · by_cases hroom : n + m ≤ cap
    · left
      have hfit : n * i0.size + news.length ≤ cur.size := by rw [hl, hcs, hz1, ← Nat.add_mul]; exact Nat.mul_le_mul_right _ hroom
      have hr2 := run_append_room (P := P) w S tt E i0 ty.slice hi g n cap cur hg a m c news (by rw [hz1]; exact hl) hnews h1 hroom hfit
      rw [hr] at hr2
      injection hr2 with e1 e2
      rw [e1]; rfl
    · right
      have holds : ∀ j u, xs[j]? = some u → w.cell? ((⟨g, 0, none⟩ : Addr).add j) = some u := World.ownsRow.cells hown (g := g) rfl
      have hr2 := run_append_grow (P := P) w S tt E i0 z ty.slice hi hz0 ⟨g, 0, none⟩ n cap xs (by rw [hz1]; exact hsz) holds a m c news (by rw [hz1]; exact hl) hnews (by omega) (by unfold maxLen at h63; omega) (growslice_fits (by omega) (by rw [hz2]; exact hbytes))
      rw [hr] at hr2
      injection hr2 with e1 e2
      exact ⟨w.heap.size, by rw [e1]; rfl, Nat.le_refl _⟩
theorem wpList_app {ops : Array Oper} {rest : List Oper} {o : Oper} {a : Act} {Q : Exit → Act → World → Prop} (ty : SlTy P S E z size bytes) (hgd : o.guard = none) (s x : Operand)
    (ho : o.op = .call { callee := .builtin .append, args := #[s, x], argTypes := #[S, S] })
    (v : Value) (n : Nat) (xs : List Value) (hs : a.eval s = v) (hown : Row w E size v n xs)
    (ad : Addr) (m c : Nat) (news : List Value) (hx : a.eval x = .slice (some ad) m c) (hl : news.length = m * size) (hnews : ∀ j u, news[j]? = some u → w.cell? (ad.add j) = some u) (h1 : ∀ u ∈ news, u.oneCell' = true)
    (h63 : n + m ≤ maxLen) (hbytes : (n + m) * bytes ≤ 140737488355328)
    (h : ∀ v' w', Row w' E size v' (n + m) (xs ++ news) → Upd w w' v.ownBlock v'.ownBlock → wpList P ops Q rest (a.put o.dst v') w') : wpList P ops Q (o :: rest) a w :=
  wpList_plain hgd fun _ hK => by
    obtain ⟨v', w', hr, h2, h3⟩ := run_app (w := w) ty o.type v n xs hown ad m c news hl hnews h1 h63 hbytes
    unfold Oper.wp execOp
    simp only [ho, resolve, invoke, builtin, Sem.run_bind, Sem.run_pure, Result.andThen_ok, List.map_toArray, List.map_cons, List.map_nil, hs, hx, hr]
    exact hK _ _ (h v' w' h2 h3)
end
end Go.Proofs.YtkpickojeghppaaDoor
