/- Slices that a struct owns; what stays where a step turns some blocks; messages and both ends of a session in plain Lean. Conditions: what the laws name. -/
import Derived.WalkKit
import Derived.Deep.QuietTactic
import Derived.Lib.Hide
import Derived.OwnWalk
import Derived.Deep.AppendSrc
import Derived.Deep.MidRow
import Derived.Lib.ItoaNum
namespace Go.Proofs.YtkpickojeghppaaDoor
open Go.RowKit
theorem quietS {P : Program} {f : FuncId} {args : Array Value} {w : World} {n : Nat} {v : Value}
    (h : Calls P f args (w.drewN n) fun e w' => e = .returned v ∧ w' = w.drewN n) : Calls P f args (w.drewN n) fun e w'' => e = .returned v ∧ ∃ m, w'' = w.drewN m :=
  h.mono fun _ _ ⟨he, hm⟩ => ⟨he, n, hm⟩
theorem quietD {P : Program} {f : FuncId} {args : Array Value} {w : World} {n : Nat} {v : Value}
    (h : Calls P f args (w.drewN n) fun e w' => e = .returned v ∧ ∃ m, w' = (w.drewN n).drewN m) : Calls P f args (w.drewN n) fun e w'' => e = .returned v ∧ ∃ m, w'' = w.drewN m :=
  h.mono fun _ _ ⟨he, m, hm⟩ => ⟨he, n + m, by rw [hm, World.drewN_drewN]⟩
theorem quietS2 {P : Program} {f : FuncId} {args : Array Value} {w : World} {a n : Nat} {v : Value}
    (h : Calls P f args (w.drewN (a + n)) fun e w' => e = .returned v ∧ w' = w.drewN (a + n)) : Calls P f args (w.drewN (a + n)) fun e w'' => e = .returned v ∧ ∃ m, w'' = w.drewN (a + m) :=
  h.mono fun _ _ ⟨he, hm⟩ => ⟨he, n, hm⟩
theorem quietD2 {P : Program} {f : FuncId} {args : Array Value} {w : World} {a n : Nat} {v : Value}
    (h : Calls P f args (w.drewN (a + n)) fun e w' => e = .returned v ∧ ∃ m, w' = (w.drewN (a + n)).drewN m) : Calls P f args (w.drewN (a + n)) fun e w'' => e = .returned v ∧ ∃ m, w'' = w.drewN (a + m) :=
  h.mono fun _ _ ⟨he, m, hm⟩ => ⟨he, n + m, by rw [hm, World.drewN_drewN, Nat.add_assoc]⟩
theorem below_drewN {B : Nat} {a w : World} (h : Below B a w) (n : Nat) : Below B a (w.drewN n) := ⟨h.os, h.tape, h.output, h.size, h.block⟩
theorem below_drewN' (w : World) (n : Nat) : Below w.heap.size w (w.drewN n) := below_drewN (Below.refl _ _) n
theorem cell_lt {w : World} {p : Addr} {v : Value} (h : w.cell? p = some v) : p.block < w.heap.size := by
  rcases Nat.lt_or_ge p.block w.heap.size with h' | h'
  · exact h'
  · simp [World.cell?, Array.getElem?_eq_none h'] at h
theorem cell_below {w w' : World} (h : Below w.heap.size w w') {p : Addr} {v : Value} (hc : w.cell? p = some v) : w'.cell? p = some v := by
  rw [h.cell (cell_lt hc)]; exact hc
theorem setO {w : World} {a b : Addr} {v : Value} (h : a ≠ b) : (w.setCell a v).cell? b = w.cell? b := by
  first | exact World.cell?_setCell_other _ _ _ _ h | exact World.cell?_setCell_other _ _ _ h
theorem setS {w : World} {a : Addr} {v u : Value} (h : w.cell? a = some u) : (w.setCell a v).cell? a = some v := World.cell?_setCell_same _ _ _ h
theorem setF {w : World} {a b : Addr} {v : Value} : (w.setCell a v).frozen? b = w.frozen? b := by
  first | exact World.frozen?_setCell | exact World.frozen?_setCell _ _ _ _ | exact World.frozen?_setCell _ _ _ | simp
/-- Nothing that was there has turned. -/
theorem below_trans {a b c : World} (h : Below a.heap.size a b) (k : Below b.heap.size b c) : Below a.heap.size a c :=
  h.trans (k.mono h.size)
theorem ret_int {k : IntKind} {a b : Int} (h : a = b) : Ending.returned (.int k a) = .returned (.int k b) := by rw [h]
theorem ret_bool {a b : Bool} (h : a = b) : Ending.returned (.bool a) = .returned (.bool b) := by rw [h]
end Go.Proofs.YtkpickojeghppaaDoor
namespace Go.Proofs.YtkpickojeghppaaDoor
open Go.RowKit
/-- The types: a slice, its element with zero value, cells, bytes. -/
structure SlTy (P : Program) (S E : TypeId) (z : Value) (size bytes : Nat) : Prop where
  slice : P.underlying S = some (.slice E)
  info : (P.info? E).map (fun i => (i.zero, i.size, i.bytes)) = some (some z, size, bytes)
  cells : z.cells.size = size
  pos : 0 < size
/-- v, of n elements, owns the cells xs. -/
def Row (w : World) (E : TypeId) (size : Nat) (v : Value) (n : Nat) (xs : List Value) : Prop := w.ownsRow 0 E size v n xs
/-- From w to w' only the row r has turned, and what is new; the row is then r'. -/
structure Upd (w w' : World) (r r' : Option Nat) : Prop where
  grown : w.grownBy w' r
  own : r' = r ∨ ∃ g, r' = some g ∧ w.heap.size ≤ g
theorem Upd.refl (w : World) (r : Option Nat) : Upd w w r r := ⟨⟨rfl, rfl, rfl, Nat.le_refl _, fun _ _ _ => rfl⟩, .inl rfl⟩
theorem Upd.trans {a b c : World} {r s t : Option Nat} (h : Upd a b r s) (k : Upd b c s t) : Upd a c r t := by
  refine ⟨⟨k.grown.os.trans h.grown.os, k.grown.tape.trans h.grown.tape, k.grown.output.trans h.grown.output, Nat.le_trans h.grown.size k.grown.size, fun i hi hne => ?_⟩, ?_⟩
  · rw [← h.grown.block i hi hne]
    refine k.grown.block i (Nat.lt_of_lt_of_le hi h.grown.size) ?_
    rcases h.own with e | ⟨g, e, hg⟩
    · rw [e]; exact hne
    · rw [e]; intro he; injection he with he; omega
  · rcases k.own with e | ⟨g, e, hg⟩
    · rw [e]; exact h.own
    · exact .inr ⟨g, e, Nat.le_trans h.grown.size hg⟩
theorem Upd.of_below {w w' : World} (h : Below w.heap.size w w') (r : Option Nat) : Upd w w' r r :=
  ⟨⟨h.os, h.tape, h.output, h.size, fun k hk _ => h.block k hk⟩, .inl rfl⟩
/-- a block that is not the row stays -/
theorem Upd.block {w w' : World} {r r' : Option Nat} (h : Upd w w' r r') {k : Nat} (hk : k < w.heap.size) (hne : r ≠ some k) : w'.heap[k]? = w.heap[k]? :=
  h.grown.block k hk (fun e => hne e.symm)
theorem Upd.cell {w w' : World} {r r' : Option Nat} (h : Upd w w' r r') {p : Addr} {v : Value} (hc : w.cell? p = some v) (hne : r ≠ some p.block) : w'.cell? p = some v := by
  rw [World.cell?_of_block (w := w) (h.block (cell_lt hc) hne)]; exact hc
theorem Upd.frozen {w w' : World} {r r' : Option Nat} (h : Upd w w' r r') {p : Addr} (hp : p.block < w.heap.size) (hne : r ≠ some p.block) : w'.frozen? p = w.frozen? p :=
  World.frozen?_of_block (w := w) (h.block hp hne)
theorem Upd.below {w w' : World} {r r' : Option Nat} {B : Nat} (h : Upd w w' r r') (hB : B ≤ w.heap.size) (hr : ∀ g, r = some g → B ≤ g) : Below B w w' :=
  (Below.refl B w).grown h.grown hB hr
theorem Row.lt {w : World} {E size n : Nat} {v : Value} {xs : List Value} (h : Row w E size v n xs) {g : Nat} (hg : v.ownBlock = some g) : g < w.heap.size := (World.ownsRow.lt h g hg).2
theorem Row.kept {w w' : World} {E size n : Nat} {v : Value} {xs : List Value} {r r' : Option Nat} (h : Row w E size v n xs) (hu : Upd w w' r r') (hne : v.ownBlock = none ∨ v.ownBlock ≠ r) : Row w' E size v n xs :=
  World.ownsRow.kept h hu.grown hne
theorem Row.below {w w' : World} {E size n : Nat} {v : Value} {xs : List Value} (h : Row w E size v n xs) (hb : Below w.heap.size w w') : Row w' E size v n xs := by
  cases e : v.ownBlock with
  | none => exact World.ownsRow.kept h (Upd.of_below hb none).grown (.inl e)
  | some g => exact World.ownsRow.kept h (Upd.of_below hb none).grown (.inr (by rw [e]; simp))
theorem row_nil (w : World) (E size : Nat) : Row w E size (.slice none 0 0) 0 [] := World.ownsRow_nil _ _ _ _
section
variable {P : Program} {S E : TypeId} {z : Value} {size bytes : Nat} {w : World}
theorem run_app (ty : SlTy P S E z size bytes) (tt : TypeId) (v : Value) (n : Nat) (xs : List Value) (hown : Row w E size v n xs) (a : Addr) (m c : Nat) (news : List Value) (hl : news.length = m * size)
    (hnews : ∀ j u, news[j]? = some u → w.cell? (a.add j) = some u) (h1 : ∀ u ∈ news, u.oneCell' = true) (h63 : n + m ≤ maxLen) (hbytes : (n + m) * bytes ≤ 140737488355328) :
    ∃ v' w', (Builtin.append_ #[S, S] tt #[v, .slice (some a) m c]).run P w = .ok v' w' ∧ Row w' E size v' (n + m) (xs ++ news) ∧ Upd w w' v.ownBlock v'.ownBlock := by
  obtain ⟨i0, hi, hz0, hz1, hz2⟩ := info_parts ty.info
  obtain ⟨v', w', hr, h2, h3, h4⟩ := run_append_own (P := P) w 0 S tt E i0 z size bytes ty.slice hi hz0 hz1 hz2 ty.cells ty.pos v n xs hown a m c news hl hnews h1 h63 hbytes (Nat.zero_le _)
  refine ⟨v', w', hr, h2, h3, ?_⟩
  have hsz := hown.1
  rcases hown.2 with ⟨rfl, rfl⟩ | ⟨g, cap, cur, rfl, _, hg, hnc, hcm, hcs, htake⟩
  · by_cases hm : m = 0
    · left; rw [h4.2 ⟨rfl, hm⟩]
    · right
      have hr2 := run_append_nil (P := P) w S tt E i0 z ty.slice hi hz0 a m c news (by rw [hz1]; exact hl) hnews (by omega) (by unfold maxLen at h63; omega) (by rw [hz2]; have hb := hbytes; simp only [Nat.zero_add] at hb; omega)
      rw [hr] at hr2
      injection hr2 with e1 e2
      exact ⟨w.heap.size, by rw [e1]; rfl, Nat.le_refl _⟩
  · by_cases hroom : n + m ≤ cap
    · left
      have hfit : n * i0.size + news.length ≤ cur.size := by rw [hl, hcs, hz1, ← Nat.add_mul]; exact Nat.mul_le_mul_right _ hroom
      have hr2 := run_append_room (P := P) w S tt E i0 ty.slice hi g n cap cur hg a m c news (by rw [hz1]; exact hl) hnews h1 hroom hfit
      rw [hr] at hr2
      injection hr2 with e1 e2
      rw [e1]; rfl
    · right
      have holds : ∀ j u, xs[j]? = some u → w.cell? ((⟨g, 0, none⟩ : Addr).add j) = some u := World.ownsRow.cells hown (g := g) rfl
      have hr2 := run_append_grow (P := P) w S tt E i0 z ty.slice hi hz0 ⟨g, 0, none⟩ n cap xs (by rw [hz1]; exact hsz) holds a m c news (by rw [hz1]; exact hl) hnews (by omega) (by unfold maxLen at h63; omega) (growslice_fits (by omega) (by rw [hz2]; exact hbytes))
      rw [hr] at hr2
      injection hr2 with e1 e2
      exact ⟨w.heap.size, by rw [e1]; rfl, Nat.le_refl _⟩
theorem wpList_app {ops : Array Oper} {rest : List Oper} {o : Oper} {a : Act} {Q : Exit → Act → World → Prop} (ty : SlTy P S E z size bytes) (hgd : o.guard = none) (s x : Operand)
    (ho : o.op = .call { callee := .builtin .append, args := #[s, x], argTypes := #[S, S] })
    (v : Value) (n : Nat) (xs : List Value) (hs : a.eval s = v) (hown : Row w E size v n xs)
    (ad : Addr) (m c : Nat) (news : List Value) (hx : a.eval x = .slice (some ad) m c) (hl : news.length = m * size) (hnews : ∀ j u, news[j]? = some u → w.cell? (ad.add j) = some u) (h1 : ∀ u ∈ news, u.oneCell' = true)
    (h63 : n + m ≤ maxLen) (hbytes : (n + m) * bytes ≤ 140737488355328)
    (h : ∀ v' w', Row w' E size v' (n + m) (xs ++ news) → Upd w w' v.ownBlock v'.ownBlock → wpList P ops Q rest (a.put o.dst v') w') : wpList P ops Q (o :: rest) a w :=
  wpList_plain hgd fun _ hK => by
    obtain ⟨v', w', hr, h2, h3⟩ := run_app (w := w) ty o.type v n xs hown ad m c news hl hnews h1 h63 hbytes
    unfold Oper.wp execOp
    simp only [ho, resolve, invoke, builtin, Sem.run_bind, Sem.run_pure, Result.andThen_ok, List.map_toArray, List.map_cons, List.map_nil, hs, hx, hr]
    exact hK _ _ (h v' w' h2 h3)
end
end Go.Proofs.YtkpickojeghppaaDoor
namespace Go.Proofs.YtkpickojeghppaaDoor
open Go.RowKit
/-- v, of n elements, lies in a block of its own, from some place on, and holds the cells xs -/
def Slab (w : World) (size : Nat) (v : Value) (n : Nat) (xs : List Value) : Prop :=
  xs.length = n * size ∧ ((v = .slice none 0 0 ∧ n = 0) ∨ ∃ g off cap, v = .slice (some ⟨g, off, none⟩) n cap ∧ n ≤ cap ∧ cap ≤ maxLen ∧ g < w.heap.size ∧ w.rangeAt g off xs ∧ w.there g off (cap * size))
theorem slab_nil (w : World) (size : Nat) : Slab w size (.slice none 0 0) 0 [] := ⟨by simp, .inl ⟨rfl, rfl⟩⟩
theorem rangeAt_same {w w' : World} {g o : Nat} {xs : List Value} (h : w.rangeAt g o xs) (hb : w'.heap[g]? = w.heap[g]?) : w'.rangeAt g o xs := fun j v hj => by
  rw [World.cell?_of_block (w := w) hb]; exact h j v hj
theorem there_same {w w' : World} {g o n : Nat} (h : w.there g o n) (hb : w'.heap[g]? = w.heap[g]?) : w'.there g o n := fun j hj => by
  rw [World.cell?_of_block (w := w) hb, World.frozen?_of_block (w := w) hb]; exact h j hj
theorem lt_of_same {w w' : World} {g : Nat} (h : g < w.heap.size) (hb : w'.heap[g]? = w.heap[g]?) : g < w'.heap.size := by
  rcases Nat.lt_or_ge g w'.heap.size with h' | h'
  · exact h'
  · rw [Array.getElem?_eq_none h'] at hb
    rw [Array.getElem?_eq_getElem h] at hb
    cases hb
theorem Slab.same {w w' : World} {size n : Nat} {v : Value} {xs : List Value} (h : Slab w size v n xs) (hb : ∀ g, v.ownBlock = some g → w'.heap[g]? = w.heap[g]?) : Slab w' size v n xs := by
  refine ⟨h.1, ?_⟩
  rcases h.2 with h | ⟨g, off, cap, rfl, h1, h2, h3, h4, h5⟩
  · exact .inl h
  · have e := hb g rfl
    exact .inr ⟨g, off, cap, rfl, h1, h2, lt_of_same h3 e, rangeAt_same h4 e, there_same h5 e⟩
theorem Slab.lt {w : World} {size n : Nat} {v : Value} {xs : List Value} (h : Slab w size v n xs) {g : Nat} (hg : v.ownBlock = some g) : g < w.heap.size := by
  rcases h.2 with ⟨rfl, _⟩ | ⟨g', off, cap, rfl, h1, h2, h3, _⟩
  · cases hg
  · have : g' = g := Option.some.inj hg
    rw [← this]; exact h3
theorem Slab.below {w w' : World} {size n : Nat} {v : Value} {xs : List Value} (h : Slab w size v n xs) (hb : Below w.heap.size w w') : Slab w' size v n xs :=
  h.same fun g hg => hb.block g (h.lt hg)
theorem Slab.kept {w w' : World} {size n : Nat} {v : Value} {xs : List Value} {r r' : Option Nat} (h : Slab w size v n xs) (hu : Upd w w' r r') (hne : ∀ g, v.ownBlock = some g → r ≠ some g) : Slab w' size v n xs :=
  h.same fun g hg => hu.block (h.lt hg) (hne g hg)
/-- what a slab's slice looks like -/
theorem Slab.form {w : World} {size n : Nat} {v : Value} {xs : List Value} (h : Slab w size v n xs) : ∃ A cap, v = .slice A n cap ∧ n ≤ cap ∧ cap ≤ maxLen ∧
    ((A = none ∧ n = 0 ∧ cap = 0 ∧ xs = []) ∨ ∃ g off, A = some ⟨g, off, none⟩ ∧ v.ownBlock = some g ∧ g < w.heap.size ∧ w.rangeAt g off xs ∧ w.there g off (cap * size)) := by
  rcases h.2 with ⟨rfl, rfl⟩ | ⟨g, off, cap, rfl, h1, h2, h3, h4, h5⟩
  · exact ⟨none, 0, rfl, Nat.le_refl _, Nat.zero_le _, .inl ⟨rfl, rfl, rfl, List.eq_nil_of_length_eq_zero (by rw [h.1]; simp)⟩⟩
  · exact ⟨_, cap, rfl, h1, h2, .inr ⟨g, off, rfl, rfl, h3, h4, h5⟩⟩
theorem rangeAt_append {w : World} {g o : Nat} {a b : List Value} (ha : w.rangeAt g o a) (hb : w.rangeAt g (o + a.length) b) : w.rangeAt g o (a ++ b) := fun j v hj => by
  rcases Nat.lt_or_ge j a.length with h | h
  · rw [List.getElem?_append_left h] at hj; exact ha j v hj
  · rw [List.getElem?_append_right h] at hj
    have := hb _ v hj
    rwa [Nat.add_assoc, Nat.add_sub_cancel' h] at this
theorem rangeAt_left {w : World} {g o : Nat} {a b : List Value} (h : w.rangeAt g o (a ++ b)) : w.rangeAt g o a := fun j v hj => h j v (by rw [List.getElem?_append_left (List.getElem?_eq_some_iff.1 hj).1]; exact hj)
theorem rangeAt_drop {w : World} {g o : Nat} {a : List Value} (h : w.rangeAt g o a) (k : Nat) : w.rangeAt g (o + k) (a.drop k) := fun j v hj => by
  rw [List.getElem?_drop] at hj
  rw [Nat.add_assoc]; exact h _ v hj
theorem rangeAt_take {w : World} {g o : Nat} {a : List Value} (h : w.rangeAt g o a) (k : Nat) : w.rangeAt g o (a.take k) := fun j v hj => by
  rw [List.getElem?_take] at hj
  split at hj
  · exact h j v hj
  · cases hj
theorem rangeAt_of_block {w : World} {g : Nat} {cs : Array Value} {E : TypeId} {xs ys : List Value} (hh : w.heap[g]? = some (.cells cs E (0, 0))) (h : cs.toList = xs ++ ys) : w.rangeAt g 0 xs := fun j v hj => by
  simp only [World.cell?, hh, Nat.zero_add]
  have : cs.toList[j]? = some v := by rw [h, List.getElem?_append_left (List.getElem?_eq_some_iff.1 hj).1]; exact hj
  simpa using this
theorem there_of_block {w : World} {g : Nat} {cs : Array Value} {E : TypeId} {n : Nat} (hh : w.heap[g]? = some (.cells cs E (0, 0))) (h : n ≤ cs.size) : w.there g 0 n := fun j hj => by
  refine ⟨?_, frozen_of_row _ _ _ _ _ hh⟩
  simp only [World.cell?, hh, Nat.zero_add]
  rw [Array.getElem?_eq_getElem (by omega)]
  rfl
theorem Upd.of_setCell (w : World) (p : Addr) (u : Value) : Upd w (w.setCell p u) (some p.block) (some p.block) :=
  ⟨⟨rfl, rfl, rfl, by simp, fun k _ hne => heap_setCell_other _ _ _ _ (fun e => hne (by rw [e]))⟩, .inl rfl⟩
theorem upd_setCells (g : Nat) : ∀ (vs : List Value) (w : World) (o : Nat), Upd w (w.setCells g o vs) (some g) (some g)
  | [], w, _ => Upd.refl w _
  | v :: r, w, o => by
    rw [World.setCells]
    exact (Upd.of_setCell w ⟨g, o, none⟩ v).trans (upd_setCells g r _ (o + 1))
section
variable {P : Program} {S E : TypeId} {z : Value} {size bytes : Nat} {w : World}
/-- append, whatever is appended -/
theorem run_app_slab (ty : SlTy P S E z size bytes) (tx tt : TypeId) (v : Value) (n : Nat) (xs : List Value) (hown : Slab w size v n xs) (x : Value) (m : Nat) (news : List Value) (hs : Src P size tx x m news w) (h63 : n + m ≤ maxLen) (hbytes : (n + m) * bytes ≤ 140737488355328) :
    ∃ v' w', (Builtin.append_ #[S, tx] tt #[v, x]).run P w = .ok v' w' ∧ Slab w' size v' (n + m) (xs ++ news) ∧ Upd w w' v.ownBlock v'.ownBlock := by
  obtain ⟨i0, hi, hz0, hz1, hz2⟩ := info_parts ty.info
  have hlen : (xs ++ news).length = (n + m) * size := by rw [List.length_append, hown.1, hs.newsLen, Nat.add_mul]
  have hml : maxLen ≤ 9223372036854775807 := by unfold maxLen; omega
  have grow : ∀ (base : Option Addr) (cap : Nat), (Builtin.firstCells i0.size n (.slice base n cap)).run P w.drew = .ok xs.toArray w.drew → cap < n + m → v = .slice base n cap →
      ∃ v' w', (Builtin.append_ #[S, tx] tt #[v, x]).run P w = .ok v' w' ∧ Slab w' size v' (n + m) (xs ++ news) ∧ Upd w w' v.ownBlock v'.ownBlock := by
    intro base cap hold hg hv
    have hr := run_append_grow_src (P := P) w S tx tt E i0 z ty.slice hi hz0 base n cap xs hold x m news (by rw [hz1]; exact hs) hg (by omega) (growslice_fits hg (by rw [hz2]; exact hbytes))
    have hge := grownCap_ge w (n + m) cap E
    have hle := grownCap_le_maxLen w (n + m) cap E h63
    generalize grownCap w (n + m) cap E = K at *
    have hh := heap_alloc_new w.drew (.cells ((xs ++ news).toArray ++ Builtin.zeroCells z.cells (K - (n + m))) E)
    have hzl : (Builtin.zeroCells z.cells (K - (n + m))).size = (K - (n + m)) * size := by rw [size_zeroCells, ty.cells]
    rw [hv]
    refine ⟨_, _, hr, ⟨hlen, .inr ⟨_, 0, K, rfl, hge, hle, by simp, rangeAt_of_block hh (ys := (Builtin.zeroCells z.cells (K - (n + m))).toList) (by simp), there_of_block hh ?_⟩⟩, ?_⟩
    · rw [Array.size_append, hzl, List.size_toArray, hlen, ← Nat.add_mul]
      exact Nat.le_of_eq (by congr 1; omega)
    · have hb : Below w.heap.size w (w.drew.alloc (.cells ((xs ++ news).toArray ++ Builtin.zeroCells z.cells (K - (n + m))) E)) := (Below.drew (Below.refl _ _)).alloc (by simp) _
      exact ⟨(Upd.of_below hb (v.ownBlock)).grown |> fun h => by rw [hv] at h; exact h, .inr ⟨_, rfl, by simp⟩⟩
  rcases hown.2 with ⟨rfl, rfl⟩ | ⟨g, off, cap, rfl, h1, h2, h3, h4, h5⟩
  · obtain rfl : xs = [] := List.eq_nil_of_length_eq_zero (by rw [hown.1]; simp)
    by_cases hm : m = 0
    · subst hm
      obtain rfl : news = [] := List.eq_nil_of_length_eq_zero (by rw [hs.newsLen]; simp)
      refine ⟨.slice none 0 0, w, ?_, by simpa using slab_nil w size, Upd.refl _ _⟩
      have hl := hs.len
      have hc := hs.cells
      rw [← hz1] at hc
      rcases hs.kind with ⟨e', hk⟩ | hk <;>
        simp [Builtin.append_, run_underlying ty.slice, run_underlying hk, sizeOf, typeInfo, hi, hl, hc]
    · exact grow none 0 (run_firstCells_none _ _ _ _ _) (by omega) rfl
  · by_cases hroom : n + m ≤ cap
    · have hin : ∀ j, j < news.length → off + n * size + j < off + cap * size := fun j hj => by
        rw [hs.newsLen] at hj
        have : (n + m) * size ≤ cap * size := Nat.mul_le_mul_right _ hroom
        rw [Nat.add_mul] at this
        omega
      have hr := run_append_room_src (P := P) w S tx tt E i0 ty.slice hi g off n cap x m news (by rw [hz1]; exact hs) hroom (fun j hj => by
        have := (h5 (n * size + j) (by have := hin j hj; omega)).1
        rw [hz1, Nat.add_assoc]; exact this) (fun j hj => by
        have := (h5 (n * size + j) (by have := hin j hj; omega)).2
        rw [hz1, Nat.add_assoc]; exact this)
      rw [hz1] at hr
      refine ⟨_, _, hr, ⟨hlen, .inr ⟨g, off, cap, rfl, hroom, h2, ?_, rangeAt_append ?_ ?_, World.there_setCells h5 _ _ _⟩⟩, upd_setCells g _ _ _⟩
      · exact Nat.lt_of_lt_of_le h3 (upd_setCells g _ _ _).grown.size
      · refine World.rangeAt_setCells_apart h4 _ _ _ (.inr (.inl ?_))
        rw [hown.1]; exact Nat.le_refl _
      · rw [hown.1]
        refine World.rangeAt_setCells_same w g _ news fun j hj => ?_
        have := h5 (n * size + j) (by have := hin j hj; omega)
        rw [Nat.add_assoc]; exact this
    · refine grow _ cap ?_ (by omega) rfl
      refine run_firstCells_some _ _ _ _ _ _ _ (by rw [hz1]; exact hown.1) fun j u hj => ?_
      rw [Addr.add_mid]
      have := h4 j u hj
      simpa using this
theorem wpList_slab {ops : Array Oper} {rest : List Oper} {o : Oper} {a : Act} {Q : Exit → Act → World → Prop} (ty : SlTy P S E z size bytes) (tx : TypeId) (hgd : o.guard = none) (s y : Operand)
    (ho : o.op = .call { callee := .builtin .append, args := #[s, y], argTypes := #[S, tx] })
    (v : Value) (n : Nat) (xs : List Value) (hv : a.eval s = v) (hown : Slab w size v n xs) (x : Value) (hx : a.eval y = x) (m : Nat) (news : List Value) (hs : Src P size tx x m news w)
    (h63 : n + m ≤ maxLen) (hbytes : (n + m) * bytes ≤ 140737488355328)
    (h : ∀ v' w', Slab w' size v' (n + m) (xs ++ news) → Upd w w' v.ownBlock v'.ownBlock → wpList P ops Q rest (a.put o.dst v') w') : wpList P ops Q (o :: rest) a w :=
  wpList_plain hgd fun _ hK => by
    obtain ⟨v', w', hr, h2, h3⟩ := run_app_slab (w := w) ty tx o.type v n xs hown x m news hs h63 hbytes
    unfold Oper.wp execOp
    simp only [ho, resolve, invoke, builtin, Sem.run_bind, Sem.run_pure, Result.andThen_ok, List.map_toArray, List.map_cons, List.map_nil, hv, hx, hr]
    exact hK _ _ (h v' w' h2 h3)
end
end Go.Proofs.YtkpickojeghppaaDoor
namespace Go.Proofs.YtkpickojeghppaaDoor
open Go.RowKit
/-- From w to w' only blocks in S have turned, and what is new. -/
structure Turn (S : Nat → Prop) (w w' : World) : Prop where
  os : w'.os = w.os
  tape : w'.tape = w.tape
  output : w'.output = w.output
  size : w.heap.size ≤ w'.heap.size
  block : ∀ k, k < w.heap.size → ¬ S k → w'.heap[k]? = w.heap[k]?
theorem Turn.refl (S : Nat → Prop) (w : World) : Turn S w w := ⟨rfl, rfl, rfl, Nat.le_refl _, fun _ _ _ => rfl⟩
theorem Turn.trans {S : Nat → Prop} {a b c : World} (h : Turn S a b) (k : Turn (fun g => S g ∨ a.heap.size ≤ g) b c) : Turn S a c :=
  ⟨k.os.trans h.os, k.tape.trans h.tape, k.output.trans h.output, Nat.le_trans h.size k.size, fun i hi hn => (k.block i (Nat.lt_of_lt_of_le hi h.size) (fun e => e.elim hn (fun e => by omega))).trans (h.block i hi hn)⟩
theorem Turn.weak {S T : Nat → Prop} {a b : World} (h : Turn S a b) (hs : ∀ g, S g → T g) : Turn T a b :=
  ⟨h.os, h.tape, h.output, h.size, fun i hi hn => h.block i hi (fun e => hn (hs i e))⟩
theorem Turn.of_below {S : Nat → Prop} {a b : World} (h : Below a.heap.size a b) : Turn S a b :=
  ⟨h.os, h.tape, h.output, h.size, fun i hi _ => h.block i hi⟩
theorem Turn.set {S : Nat → Prop} {a b : World} (h : Turn S a b) {g : Nat} (hg : S g ∨ a.heap.size ≤ g) (p : Nat) (u : Value) : Turn S a (b.setCell ⟨g, p, none⟩ u) :=
  ⟨h.os, h.tape, h.output, by simpa using h.size, fun i hi hn => by
    rw [heap_setCell_other b ⟨g, p, none⟩ i u (fun e => by simp only at e; subst e; rcases hg with hg | hg; exact hn hg; omega)]
    exact h.block i hi hn⟩
theorem Turn.upd {S : Nat → Prop} {a b c : World} {r r' : Option Nat} (h : Turn S a b) (k : Upd b c r r') (hr : ∀ g, r = some g → S g ∨ a.heap.size ≤ g) : Turn S a c :=
  h.trans ⟨k.grown.os, k.grown.tape, k.grown.output, k.grown.size, fun i hi hn => k.block hi (fun e => hn (hr i e))⟩
/-- what holds below B still does, where S and what is new lie above -/
theorem Turn.below {S : Nat → Prop} {a b : World} {B : Nat} (h : Turn S a b) (hs : ∀ g, S g → B ≤ g) (hB : B ≤ a.heap.size) : Below B a b :=
  ⟨h.os, h.tape, h.output, h.size, fun i hi => h.block i (Nat.lt_of_lt_of_le hi hB) (fun e => by have := hs i e; omega)⟩
theorem Turn.cell {S : Nat → Prop} {w w' : World} (ht : Turn S w w') {p : Addr} {v : Value} (h : w.cell? p = some v) (hn : ¬ S p.block) : w'.cell? p = some v := by
  rw [World.cell?_of_block (w := w) (ht.block p.block (cell_lt h) hn)]; exact h
theorem Turn.obj {S : Nat → Prop} {w w' : World} (ht : Turn S w w') {k : Nat} {o : Obj} (h : w.heap[k]? = some o) (hn : ¬ S k) : w'.heap[k]? = some o :=
  (ht.block k (Array.getElem?_eq_some_iff.1 h).1 hn).trans h
theorem Slab.turn {S : Nat → Prop} {w w' : World} {size n : Nat} {v : Value} {xs : List Value} (h : Slab w size v n xs) (ht : Turn S w w') (hn : ∀ g, v.ownBlock = some g → ¬ S g) : Slab w' size v n xs :=
  h.same fun g hg => ht.block g (h.lt hg) (hn g hg)
theorem set_same {cs : Array Value} {i : Nat} {v : Value} (h : cs[i]? = some v) : cs.setIfInBounds i v = cs := by
  apply Array.ext_getElem?
  intro j
  rw [Array.getElem?_setIfInBounds]
  split
  · rename_i e
    subst e
    split
    · exact h.symm
    · rename_i hlt
      rw [Array.getElem?_eq_none (by omega)]
  · rfl
end Go.Proofs.YtkpickojeghppaaDoor
namespace Go.Proofs.YtkpickojeghppaaDoor
open Go.RowKit
/-- a slice that a struct owns: its element's size, the slice, how many, what it holds (where it is so) -/
structure Part where
  size : Nat
  v : Value
  n : Nat
  xs : List Value
  on : Prop
def apart (a b : Value) : Prop := ∀ g, a.ownBlock = some g → b.ownBlock ≠ some g
theorem apart.symm {a b : Value} (h : apart a b) : apart b a := fun g hb ha => h g ha hb
/-- the struct in block R, with what its slices hold -/
structure StAt (w : World) (R : Nat) (T : TypeId) (cs : Array Value) (ps : List Part) : Prop where
  blk : w.heap[R]? = some (.cells cs T (0, 0))
  slab : ∀ p ∈ ps, p.on → Slab w p.size p.v p.n p.xs
  nR : ∀ p ∈ ps, p.v.ownBlock ≠ some R
  ap : ps.Pairwise (fun p q => apart p.v q.v)
  lt : ∀ p ∈ ps, ∀ g, p.v.ownBlock = some g → g < w.heap.size
/-- its blocks -/
def StF (R : Nat) (ps : List Part) (g : Nat) : Prop := g = R ∨ ∃ p ∈ ps, p.v.ownBlock = some g
section
variable {w : World} {R : Nat} {T : TypeId} {cs : Array Value} {ps : List Part}
theorem StAt.ltR (h : StAt w R T cs ps) : R < w.heap.size := (Array.getElem?_eq_some_iff.1 h.blk).1
theorem StAt.turn (h : StAt w R T cs ps) {S : Nat → Prop} {w' : World} (ht : Turn S w w') (hn : ∀ g, StF R ps g → ¬ S g) : StAt w' R T cs ps :=
  ⟨ht.obj h.blk (hn R (.inl rfl)), fun p hp ho => Slab.turn (h.slab p hp ho) ht (fun g hg => hn g (.inr ⟨p, hp, hg⟩)), h.nR, h.ap, fun p hp g hg => Nat.lt_of_lt_of_le (h.lt p hp g hg) ht.size⟩
theorem StAt.below (h : StAt w R T cs ps) {w' : World} (hb : Below w.heap.size w w') : StAt w' R T cs ps :=
  h.turn (Turn.of_below (S := fun _ => False) hb) (fun _ _ e => e)
/-- only the struct's own block has turned -/
theorem StAt.put (h : StAt w R T cs ps) {w' : World} (ht : Turn (fun g => g = R) w w') {cs' : Array Value} (hb : w'.heap[R]? = some (.cells cs' T (0, 0))) : StAt w' R T cs' ps :=
  ⟨hb, fun p hp ho => Slab.turn (h.slab p hp ho) ht (fun g hg e => h.nR p hp (by rw [← e]; exact hg)), h.nR, h.ap, fun p hp g hg => Nat.lt_of_lt_of_le (h.lt p hp g hg) ht.size⟩
/-- the parts say less, or other than before of what is off -/
theorem StAt.weak (h : StAt w R T cs ps) (ps' : List Part) (hv : ps'.map (·.v) = ps.map (·.v)) (hs : ∀ p ∈ ps', p.on → Slab w p.size p.v p.n p.xs) : StAt w R T cs ps' := by
  have e : ∀ p ∈ ps', ∃ q ∈ ps, q.v = p.v := fun p hp => by
    have : p.v ∈ ps.map (·.v) := by rw [← hv]; exact List.mem_map_of_mem hp
    obtain ⟨q, hq, h⟩ := List.mem_map.1 this
    exact ⟨q, hq, h⟩
  refine ⟨h.blk, hs, fun p hp => ?_, ?_, fun p hp g hg => ?_⟩
  · obtain ⟨q, hq, h1⟩ := e p hp
    rw [← h1]; exact h.nR q hq
  · have h1 : (ps.map (·.v)).Pairwise apart := List.pairwise_map.2 h.ap
    rw [← hv] at h1
    exact List.pairwise_map.1 h1
  · obtain ⟨q, hq, h1⟩ := e p hp
    exact h.lt q hq g (by rw [h1]; exact hg)
theorem stF_map (R : Nat) {ps qs : List Part} (h : qs.map (·.v) = ps.map (·.v)) (g : Nat) : StF R qs g → StF R ps g := fun hg => by
  rcases hg with hg | ⟨p, hp, hg⟩
  · exact .inl hg
  · have : p.v ∈ ps.map (·.v) := by rw [← h]; exact List.mem_map_of_mem hp
    obtain ⟨q, hq, e⟩ := List.mem_map.1 this
    exact .inr ⟨q, hq, by rw [e]; exact hg⟩
/-- one slice is another one, and its block may have turned -/
theorem StAt.repl {as bs : List Part} {p p' : Part} (h : StAt w R T cs (as ++ p :: bs)) {w' : World} (ht : Turn (fun g => g = R ∨ p.v.ownBlock = some g) w w') {cs' : Array Value} (hb : w'.heap[R]? = some (.cells cs' T (0, 0)))
    (hs : p'.on → Slab w' p'.size p'.v p'.n p'.xs) (hl : ∀ g, p'.v.ownBlock = some g → g < w'.heap.size) (hn : ∀ g, p'.v.ownBlock = some g → p.v.ownBlock = some g ∨ w.heap.size ≤ g) :
    StAt w' R T cs' (as ++ p' :: bs) ∧ Turn (StF R (as ++ p :: bs)) w w' ∧ ∀ g, StF R (as ++ p' :: bs) g → StF R (as ++ p :: bs) g ∨ w.heap.size ≤ g := by
  have hR := h.ltR
  have hp : p ∈ as ++ p :: bs := by simp
  have old : ∀ q, q ∈ as ∨ q ∈ bs → q ∈ as ++ p :: bs ∧ apart p.v q.v := fun q hq => by
    have hw := List.pairwise_append.1 h.ap
    rcases hq with hq | hq
    · exact ⟨by simp [hq], (hw.2.2 q hq p (.head _)).symm⟩
    · exact ⟨by simp [hq], (List.pairwise_cons.1 hw.2.1).1 q hq⟩
  have new : ∀ q, q ∈ as ∨ q ∈ bs → apart p'.v q.v := fun q hq g hg => by
    obtain ⟨hm, ha⟩ := old q hq
    rcases hn g hg with e | e
    · exact ha g e
    · intro e2
      have := h.lt q hm g e2
      omega
  refine ⟨⟨hb, fun q hq ho => ?_, fun q hq => ?_, ?_, fun q hq g hg => ?_⟩, ht.weak (fun g hg => hg.elim .inl (fun e => .inr ⟨p, hp, e⟩)), fun g hg => ?_⟩
  · rw [List.mem_append, List.mem_cons] at hq
    have key : q ∈ as ∨ q ∈ bs → Slab w' q.size q.v q.n q.xs := fun hq => by
      obtain ⟨hm, ha⟩ := old q hq
      exact Slab.turn (h.slab q hm ho) ht (fun g hg e => e.elim (fun e => h.nR q hm (by rw [← e]; exact hg)) (fun e => ha g e hg))
    rcases hq with hq | rfl | hq
    · exact key (.inl hq)
    · exact hs ho
    · exact key (.inr hq)
  · rw [List.mem_append, List.mem_cons] at hq
    rcases hq with hq | rfl | hq
    · exact h.nR q (old q (.inl hq)).1
    · intro e
      rcases hn R e with e | e
      · exact h.nR p hp e
      · omega
    · exact h.nR q (old q (.inr hq)).1
  · have hw := List.pairwise_append.1 h.ap
    have hc := List.pairwise_cons.1 hw.2.1
    refine List.pairwise_append.2 ⟨hw.1, List.pairwise_cons.2 ⟨fun q hq => new q (.inr hq), hc.2⟩, fun a ha b hb => ?_⟩
    rcases List.mem_cons.1 hb with rfl | hb
    · exact (new a (.inl ha)).symm
    · exact hw.2.2 a ha b (.tail _ hb)
  · rw [List.mem_append, List.mem_cons] at hq
    rcases hq with hq | rfl | hq
    · exact Nat.lt_of_lt_of_le (h.lt q (old q (.inl hq)).1 g hg) ht.size
    · exact hl g hg
    · exact Nat.lt_of_lt_of_le (h.lt q (old q (.inr hq)).1 g hg) ht.size
  · rcases hg with hg | ⟨q, hq, hg⟩
    · exact .inl (.inl hg)
    · rw [List.mem_append, List.mem_cons] at hq
      rcases hq with hq | rfl | hq
      · exact .inl (.inr ⟨q, (old q (.inl hq)).1, hg⟩)
      · exact (hn g hg).imp (fun e => .inr ⟨p, hp, e⟩) (fun e => e)
      · exact .inl (.inr ⟨q, (old q (.inr hq)).1, hg⟩)
end
/-- a kind of struct: its type, its cells, its slices -/
structure EK (V S : Type) where
  T : TypeId
  cells : Nat → V → S → Array Value
  parts : V → S → List Part
section
variable {V S : Type} (K : EK V S)
def EK.At (w : World) (R : Nat) (v : V) (s : S) : Prop := StAt w R K.T (K.cells R v s) (K.parts v s)
def EK.F (R : Nat) (v : V) (s : S) (g : Nat) : Prop := StF R (K.parts v s) g
/-- a step has ended: what it answers, how the struct stands, what has turned -/
def EK.Post (R : Nat) (v : V) (s : S) (w : World) (s2 : S) (r : Value) (e : Ending) (w' : World) : Prop :=
  ∃ v2, e = .returned r ∧ K.At w' R v2 s2 ∧ Turn (K.F R v s) w w' ∧ ∀ g, K.F R v2 s2 g → K.F R v s g ∨ w.heap.size ≤ g
variable {K}
theorem EK.post_same {w : World} {R : Nat} {v : V} {s : S} (h : K.At w R v s) (r : Value) : K.Post R v s w s r (.returned r) w := ⟨v, rfl, h, Turn.refl _ _, fun _ hg => .inl hg⟩
theorem EK.post_below {w w' : World} {R : Nat} {v : V} {s : S} (h : K.At w R v s) (hb : Below w.heap.size w w') (r : Value) : K.Post R v s w s r (.returned r) w' := ⟨v, rfl, StAt.below h hb, Turn.of_below hb, fun _ hg => .inl hg⟩
theorem EK.seq {R : Nat} {v v1 : V} {s s1 s2 : S} {w w1 w2 : World} {r : Value} {e : Ending} (ht : Turn (K.F R v s) w w1) (hn : ∀ g, K.F R v1 s1 g → K.F R v s g ∨ w.heap.size ≤ g) (hp : K.Post R v1 s1 w1 s2 r e w2) : K.Post R v s w s2 r e w2 := by
  obtain ⟨a, he, h, ht2, hn2⟩ := hp
  exact ⟨a, he, h, ht.trans (ht2.weak hn), fun g hg => (hn2 g hg).elim (hn g) (fun e => .inr (Nat.le_trans ht.size e))⟩
theorem EK.repl {R : Nat} {v v2 : V} {s s2 : S} {w w' : World} (as bs : List Part) (p p' : Part) (e1 : K.parts v s = as ++ p :: bs) (e2 : K.parts v2 s2 = as ++ p' :: bs) (h : K.At w R v s) (ht : Turn (fun g => g = R ∨ p.v.ownBlock = some g) w w') (hb : w'.heap[R]? = some (.cells (K.cells R v2 s2) K.T (0, 0)))
    (hs : p'.on → Slab w' p'.size p'.v p'.n p'.xs) (hl : ∀ g, p'.v.ownBlock = some g → g < w'.heap.size) (hn : ∀ g, p'.v.ownBlock = some g → p.v.ownBlock = some g ∨ w.heap.size ≤ g) :
    K.At w' R v2 s2 ∧ Turn (K.F R v s) w w' ∧ ∀ g, K.F R v2 s2 g → K.F R v s g ∨ w.heap.size ≤ g := by
  unfold EK.At EK.F at *
  rw [e1] at h ⊢
  rw [e2]
  exact StAt.repl h ht hb hs hl hn
theorem EK.put {R : Nat} {v : V} {s s2 : S} {w w' : World} (h : K.At w R v s) (ht : Turn (fun g => g = R) w w') (hb : w'.heap[R]? = some (.cells (K.cells R v s2) K.T (0, 0))) (hv : (K.parts v s2).map (·.v) = (K.parts v s).map (·.v))
    (hs : ∀ p ∈ K.parts v s2, p.on → ∃ q ∈ K.parts v s, q.on ∧ q.size = p.size ∧ q.v = p.v ∧ q.n = p.n ∧ q.xs = p.xs) :
    K.At w' R v s2 ∧ Turn (K.F R v s) w w' ∧ ∀ g, K.F R v s2 g → K.F R v s g ∨ w.heap.size ≤ g := by
  refine ⟨?_, ht.weak (fun g hg => .inl hg), fun g hg => .inl (stF_map R hv g hg)⟩
  have h1 : StAt w' R K.T (K.cells R v s2) (K.parts v s) := StAt.put h ht hb
  refine StAt.weak h1 _ hv (fun p hp ho => ?_)
  obtain ⟨q, hq, hon, a, b, c, d⟩ := hs p hp ho
  rw [← a, ← b, ← c, ← d]
  exact h1.slab q hq hon
end
end Go.Proofs.YtkpickojeghppaaDoor
namespace Go.Proofs.YtkpickojeghppaaDoor
/-- one bit of the sum -/
def crcBit (c : Nat) : Nat := if c % 2 = 1 then (c / 2) ^^^ 2197175160 else c / 2
def crcBits : Nat → Nat → Nat
  | 0, c => c
  | k + 1, c => crcBits k (crcBit c)
def crcByte (c : Nat) (b : UInt8) : Nat := crcBits 8 (c ^^^ b.toNat)
def crcFrom (c : Nat) (l : List UInt8) : Nat := l.foldl crcByte c
def crc (l : List UInt8) : Nat := 4294967295 - crcFrom 4294967295 l
theorem crcBit_lt {c : Nat} (h : c < 4294967296) : crcBit c < 4294967296 := by
  unfold crcBit
  split
  · exact Nat.xor_lt_two_pow (n := 32) (by omega) (by omega)
  · omega
theorem crcBits_lt : ∀ (k : Nat) {c : Nat}, c < 4294967296 → crcBits k c < 4294967296
  | 0, _, h => h
  | k + 1, _, h => crcBits_lt k (crcBit_lt h)
theorem crcByte_lt {c : Nat} (b : UInt8) (h : c < 4294967296) : crcByte c b < 4294967296 := by
  have := b.toNat_lt
  exact crcBits_lt 8 (Nat.xor_lt_two_pow (n := 32) (by omega) (by omega))
theorem crcFrom_lt : ∀ (l : List UInt8) {c : Nat}, c < 4294967296 → crcFrom c l < 4294967296
  | [], _, h => h
  | b :: l, _, h => crcFrom_lt l (crcByte_lt b h)
theorem crcFrom_append (c : Nat) (a b : List UInt8) : crcFrom c (a ++ b) = crcFrom (crcFrom c a) b := List.foldl_append
theorem crc_lt (l : List UInt8) : crc l < 4294967296 := by unfold crc; omega
theorem crcBit_inj {a b : Nat} (ha : a < 4294967296) (hb : b < 4294967296) (h : crcBit a = crcBit b) : a = b := by
  have top : ∀ c : Nat, c < 4294967296 → (crcBit c).testBit 31 = decide (c % 2 = 1) := by
    intro c hc
    have h2 : (c / 2).testBit 31 = false := Nat.testBit_lt_two_pow (by omega)
    unfold crcBit
    split <;> rename_i h
    · rw [Nat.testBit_xor, h2]
      simp [h]
      decide
    · rw [h2]; simp [h]
  have h1 := top a ha
  have h2 := top b hb
  rw [h, h2] at h1
  have e : (a % 2 = 1) ↔ (b % 2 = 1) := by
    have := decide_eq_decide.1 h1
    exact this.symm
  unfold crcBit at h
  by_cases p : a % 2 = 1
  · have q := e.1 p
    rw [if_pos p, if_pos q] at h
    have : a / 2 = b / 2 := by
      have := congrArg (· ^^^ 2197175160) h
      simpa [Nat.xor_assoc] using this
    omega
  · have q : ¬ b % 2 = 1 := fun x => p (e.2 x)
    rw [if_neg p, if_neg q] at h
    omega
theorem crcBits_inj : ∀ (k : Nat) {a b : Nat}, a < 4294967296 → b < 4294967296 → crcBits k a = crcBits k b → a = b
  | 0, _, _, _, _, h => h
  | k + 1, _, _, ha, hb, h => crcBit_inj ha hb (crcBits_inj k (crcBit_lt ha) (crcBit_lt hb) h)
theorem crcByte_inj {a b : Nat} {x y : UInt8} (ha : a < 4294967296) (hb : b < 4294967296) (h : crcByte a x = crcByte b y) : a ^^^ x.toNat = b ^^^ y.toNat := by
  have := x.toNat_lt
  have := y.toNat_lt
  exact crcBits_inj 8 (Nat.xor_lt_two_pow (n := 32) (by omega) (by omega)) (Nat.xor_lt_two_pow (n := 32) (by omega) (by omega)) h
theorem crcFrom_inj : ∀ (l : List UInt8) {a b : Nat}, a < 4294967296 → b < 4294967296 → crcFrom a l = crcFrom b l → a = b
  | [], _, _, _, _, h => h
  | c :: l, a, b, ha, hb, h => by
    have h1 := crcByte_inj ha hb (crcFrom_inj l (crcByte_lt c ha) (crcByte_lt c hb) h)
    have := congrArg (· ^^^ c.toNat) h1
    simpa [Nat.xor_assoc] using this
/-- one byte that is another shows in the sum -/
theorem crc_turned (a : List UInt8) (x y : UInt8) (b : List UInt8) (h : crc (a ++ x :: b) = crc (a ++ y :: b)) : x = y := by
  unfold crc at h
  have l1 := crcFrom_lt (a ++ x :: b) (c := 4294967295) (by omega)
  have l2 := crcFrom_lt (a ++ y :: b) (c := 4294967295) (by omega)
  have h' : crcFrom 4294967295 (a ++ x :: b) = crcFrom 4294967295 (a ++ y :: b) := by omega
  rw [crcFrom_append, crcFrom_append] at h'
  have la := crcFrom_lt a (c := 4294967295) (by omega)
  have h1 := crcFrom_inj b (crcByte_lt x la) (crcByte_lt y la) h'
  have h2 := crcByte_inj la la h1
  have h3 := congrArg (crcFrom 4294967295 a ^^^ ·) h2
  simp only [← Nat.xor_assoc, Nat.xor_self, Nat.zero_xor] at h3
  exact UInt8.toNat_inj.1 h3
/-- a number's four bytes -/
def four (n : Nat) : List UInt8 := [UInt8.ofNat n, UInt8.ofNat (n / 256), UInt8.ofNat (n / 65536), UInt8.ofNat (n / 16777216)]
theorem four_len (n : Nat) : (four n).length = 4 := rfl
/-- the number at a place -/
def bt (l : List UInt8) (k : Nat) : Nat := (l.getD k 0).toNat
def numb (l : List UInt8) (k : Nat) : Nat := bt l k + 256 * bt l (k + 1) + 65536 * bt l (k + 2) + 16777216 * bt l (k + 3)
theorem bt_lt (l : List UInt8) (k : Nat) : bt l k < 256 := UInt8.toNat_lt _
theorem numb_lt (l : List UInt8) (k : Nat) : numb l k < 4294967296 := by
  have := bt_lt l k
  have := bt_lt l (k + 1)
  have := bt_lt l (k + 2)
  have := bt_lt l (k + 3)
  unfold numb
  omega
theorem bt_right (a l : List UInt8) (k : Nat) : bt (a ++ l) (a.length + k) = bt l k := by
  unfold bt
  rw [List.getD_eq_getElem?_getD, List.getD_eq_getElem?_getD, List.getElem?_append_right (by omega), Nat.add_sub_cancel_left]
theorem bt_left (a l : List UInt8) (k : Nat) (h : k < a.length) : bt (a ++ l) k = bt a k := by
  unfold bt
  rw [List.getD_eq_getElem?_getD, List.getD_eq_getElem?_getD, List.getElem?_append_left h]
theorem numb_right (a l : List UInt8) (k : Nat) : numb (a ++ l) (a.length + k) = numb l k := by
  have e : ∀ j, bt (a ++ l) (a.length + k + j) = bt l (k + j) := fun j => by rw [Nat.add_assoc]; exact bt_right a l (k + j)
  unfold numb
  rw [bt_right, e, e, e]
theorem numb_left (a l : List UInt8) (k : Nat) (h : k + 4 ≤ a.length) : numb (a ++ l) k = numb a k := by
  unfold numb
  rw [bt_left _ _ _ (by omega), bt_left _ _ _ (by omega), bt_left _ _ _ (by omega), bt_left _ _ _ (by omega)]
theorem numb_four (n : Nat) (h : n < 4294967296) (r : List UInt8) : numb (four n ++ r) 0 = n := by
  unfold numb bt four
  simp
  omega
/-- a message -/
structure WMsg where
  id : Nat
  to : Nat
  kind : Int
  body : ByteArray
  sum : Bool
def WMsg.size (m : WMsg) : Nat := 24 + m.body.size + (if m.sum then 4 else 0)
/-- its bytes, but for the sum -/
def packA (m : WMsg) : List UInt8 := [100, 107, 116, 49] ++ four m.size ++ four m.id ++ four m.to ++ four m.kind.toNat ++ four (if m.sum then 1 else 0) ++ m.body.data.toList
def packed (m : WMsg) : List UInt8 := if m.sum then packA m ++ four (crc (packA m)) else packA m
def packE (m : WMsg) : Nat := if m.kind < 1 ∨ 6 < m.kind then 281 else if 131072 < m.size then 1 else 0
def packL (m : WMsg) : List UInt8 := if packE m = 0 then packed m else []
/-- what bytes begin with: an error, or a message and how many bytes it has -/
inductive UR where
  | bad (e : Nat)
  | ok (m : WMsg) (n : Nat)
def noMsg : WMsg := ⟨0, 0, 0, ⟨#[]⟩, false⟩
def UR.msg : UR → WMsg | .bad _ => noMsg | .ok m _ => m
def UR.len : UR → Nat | .bad _ => 0 | .ok _ n => n
def UR.err : UR → Nat | .bad e => e | .ok _ _ => 0
def bodyOf (l : List UInt8) (a b : Nat) : ByteArray := ⟨((l.take b).drop a).toArray⟩
def whole (l : List UInt8) (n : Nat) : UR :=
  if numb l 16 < 1 ∨ 6 < numb l 16 then .bad 281
  else if 1 < numb l 20 then .bad 282
  else if numb l 20 = 1 then
    (if n < 28 then .bad 280
     else if crc (l.take (n - 4)) ≠ numb l (n - 4) then .bad 283
     else .ok ⟨numb l 8, numb l 12, numb l 16, bodyOf l 24 (n - 4), true⟩ n)
  else .ok ⟨numb l 8, numb l 12, numb l 16, bodyOf l 24 n, false⟩ n
def unpack (l : List UInt8) : UR :=
  if l.take 4 ≠ ([100, 107, 116, 49] : List UInt8).take l.length then .bad 280
  else if l.length < 8 then .bad 3
  else if 131072 < numb l 4 then .bad 1
  else if numb l 4 < 24 then .bad 280
  else if l.length < numb l 4 then .bad 3
  else whole l (numb l 4)
end Go.Proofs.YtkpickojeghppaaDoor
namespace Go.Proofs.YtkpickojeghppaaDoor
/-- a server's end -/
structure Sv where
  inp : List UInt8
  out : List UInt8
  closed : Bool
  why : Nat
  sums : Bool
  began : Bool
  ending : Bool
  bye : Nat
  held : List (Nat × ByteArray × Bool)
  last : Nat
def sv0 : Sv := ⟨[], [], false, 0, false, false, false, 0, [], 0⟩
def WMsg.summed (m : WMsg) (b : Bool) : WMsg := ⟨m.id, m.to, m.kind, m.body, b⟩
def Sv.send (s : Sv) (m : WMsg) : Sv := { s with out := s.out ++ packL (m.summed s.sums) }
def msgTo (to : Nat) (kind : Int) (body : ByteArray) : WMsg := ⟨0, to, kind, body, false⟩
/-- a number's digits -/
def digitsB (n : Nat) : ByteArray := ⟨(Lib.itoa (n : Int)).toArray⟩
def Sv.fail (s : Sv) (e : Nat) : Sv := { s.send (msgTo 0 6 (digitsB e)) with closed := true, why := e, held := [] }
def Sv.parts (s : Sv) : Sv := if s.ending && s.held.isEmpty && !s.closed then { s.send (msgTo s.bye 5 ⟨#[]⟩) with closed := true } else s
/-- a message is taken; the error -/
def Sv.take (s : Sv) (m : WMsg) : Sv × Nat :=
  if s.began = false then
    (if m.kind ≠ 1 then (s, 284) else ({ s with sums := m.sum, began := true }.send (msgTo m.id 2 m.body), packE ((msgTo m.id 2 m.body).summed m.sum)))
  else if m.kind = 3 then
    (if m.id ≤ s.last then (s, 284) else if 16 ≤ s.held.length then (s, 5) else ({ s with last := m.id, held := s.held ++ [(m.id, m.body, false)] }, 0))
  else if m.kind = 5 then ({ s with bye := m.id, ending := true }.parts, 0)
  else (s, 284)
def Sv.loop : Nat → Sv → Sv
  | 0, s => s
  | n + 1, s => if s.closed || s.ending then s else
    match unpack s.inp with
    | .bad e => if e = 3 then s else s.fail e
    | .ok m k => if (({ s with inp := s.inp.drop k } : Sv).take m).2 = 0 then Sv.loop n (({ s with inp := s.inp.drop k } : Sv).take m).1 else (({ s with inp := s.inp.drop k } : Sv).take m).1.fail (({ s with inp := s.inp.drop k } : Sv).take m).2
def Sv.feed (s : Sv) (p : List UInt8) : Sv := if s.closed || s.ending then s else Sv.loop ((s.inp ++ p).length + 1) { s with inp := s.inp ++ p }
/-- the first that was not told -/
def tell : List (Nat × ByteArray × Bool) → Option (Nat × ByteArray × List (Nat × ByteArray × Bool))
  | [] => none
  | (i, b, false) :: r => some (i, b, (i, b, true) :: r)
  | (i, b, true) :: r => match tell r with | none => none | some (j, c, q) => some (j, c, (i, b, true) :: q)
/-- a client's end; id: the next ask's -/
structure Cl where
  inp : List UInt8
  out : List UInt8
  closed : Bool
  why : Nat
  sums : Bool
  began : Bool
  ending : Bool
  bye : Nat
  id : Nat
  asked : List Nat
  came : List (Nat × ByteArray)
def Cl.send (s : Cl) (m : WMsg) : Cl := { s with out := s.out ++ packL (m.summed s.sums) }
def cl0 (sums : Bool) : Cl := ({ inp := [], out := [], closed := false, why := 0, sums := sums, began := false, ending := false, bye := 0, id := 2, asked := [], came := [] } : Cl).send ⟨1, 0, 1, ⟨#[100, 111, 99, 107, 101, 116]⟩, false⟩
end Go.Proofs.YtkpickojeghppaaDoor
