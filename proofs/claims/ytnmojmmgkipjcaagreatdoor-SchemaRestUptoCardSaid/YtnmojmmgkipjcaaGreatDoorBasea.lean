/- Slices that a call owns; trees of values in memory. Conditions: what the laws name. -/
import Derived.WalkKit
import Derived.Deep.QuietTactic
import Derived.Lib.Hide
import Derived.OwnWalk
import Derived.RegionTactic
import Derived.Deep.AppendLies
namespace Go.Proofs.YtnmojmmgkipjcaaGreatDoor
open Go.RowKit
theorem quietS {P : Program} {f : FuncId} {args : Array Value} {w : World} {n : Nat} {v : Value}
    (h : Calls P f args (w.drewN n) fun e w' => e = .returned v ∧ w' = w.drewN n) : Calls P f args (w.drewN n) fun e w'' => e = .returned v ∧ ∃ m, w'' = w.drewN m :=
  h.mono fun _ _ ⟨he, hm⟩ => ⟨he, n, hm⟩
theorem quietD {P : Program} {f : FuncId} {args : Array Value} {w : World} {n : Nat} {v : Value}
    (h : Calls P f args (w.drewN n) fun e w' => e = .returned v ∧ ∃ m, w' = (w.drewN n).drewN m) : Calls P f args (w.drewN n) fun e w'' => e = .returned v ∧ ∃ m, w'' = w.drewN m :=
  h.mono fun _ _ ⟨he, m, hm⟩ => ⟨he, n + m, by rw [hm, World.drewN_drewN]⟩
theorem quietS2 {P : Program} {f : FuncId} {args : Array Value} {w : World} {a n : Nat} {v : Value}
    (h : Calls P f args (w.drewN (a + n)) fun e w' => e = .returned v ∧ w' = w.drewN (a + n)) : Calls P f args (w.drewN (a + n)) fun e w'' => e = .returned v ∧ ∃ m, w'' = w.drewN (a + m) :=
  h.mono fun _ _ ⟨he, hm⟩ => ⟨he, n, hm⟩
theorem quietD2 {P : Program} {f : FuncId} {args : Array Value} {w : World} {a n : Nat} {v : Value}
    (h : Calls P f args (w.drewN (a + n)) fun e w' => e = .returned v ∧ ∃ m, w' = (w.drewN (a + n)).drewN m) : Calls P f args (w.drewN (a + n)) fun e w'' => e = .returned v ∧ ∃ m, w'' = w.drewN (a + m) :=
  h.mono fun _ _ ⟨he, m, hm⟩ => ⟨he, n + m, by rw [hm, World.drewN_drewN, Nat.add_assoc]⟩
theorem below_drewN {B : Nat} {a w : World} (h : Below B a w) (n : Nat) : Below B a (w.drewN n) := ⟨h.os, h.tape, h.output, h.size, h.block⟩
theorem below_drewN' (w : World) (n : Nat) : Below w.heap.size w (w.drewN n) := below_drewN (Below.refl _ _) n
theorem cell_lt {w : World} {p : Addr} {v : Value} (h : w.cell? p = some v) : p.block < w.heap.size := by
  rcases Nat.lt_or_ge p.block w.heap.size with h' | h'
  · exact h'
  · simp [World.cell?, Array.getElem?_eq_none h'] at h
theorem cell_below {w w' : World} (h : Below w.heap.size w w') {p : Addr} {v : Value} (hc : w.cell? p = some v) : w'.cell? p = some v := by
  rw [h.cell (cell_lt hc)]; exact hc
theorem setO {w : World} {a b : Addr} {v : Value} (h : a ≠ b) : (w.setCell a v).cell? b = w.cell? b := by
  first | exact World.cell?_setCell_other _ _ _ _ h | exact World.cell?_setCell_other _ _ _ h
theorem setS {w : World} {a : Addr} {v u : Value} (h : w.cell? a = some u) : (w.setCell a v).cell? a = some v := World.cell?_setCell_same _ _ _ h
theorem setF {w : World} {a b : Addr} {v : Value} : (w.setCell a v).frozen? b = w.frozen? b := by
  first | exact World.frozen?_setCell | exact World.frozen?_setCell _ _ _ _ | exact World.frozen?_setCell _ _ _ | simp
/-- Nothing that was there has turned. -/
theorem below_trans {a b c : World} (h : Below a.heap.size a b) (k : Below b.heap.size b c) : Below a.heap.size a c :=
  h.trans (k.mono h.size)
theorem ret_int {k : IntKind} {a b : Int} (h : a = b) : Ending.returned (.int k a) = .returned (.int k b) := by rw [h]
theorem ret_bool {a b : Bool} (h : a = b) : Ending.returned (.bool a) = .returned (.bool b) := by rw [h]
end Go.Proofs.YtnmojmmgkipjcaaGreatDoor
namespace Go.Proofs.YtnmojmmgkipjcaaGreatDoor
open Go.RowKit
/-- The types: a slice, its element with zero value, cells, bytes. -/
structure SlTy (P : Program) (S E : TypeId) (z : Value) (size bytes : Nat) : Prop where
  slice : P.underlying S = some (.slice E)
  info : (P.info? E).map (fun i => (i.zero, i.size, i.bytes)) = some (some z, size, bytes)
  cells : z.cells.size = size
  pos : 0 < size
/-- v, of n elements, owns the cells xs. -/
def Row (w : World) (E : TypeId) (size : Nat) (v : Value) (n : Nat) (xs : List Value) : Prop := w.ownsRow 0 E size v n xs
/-- From w to w' only the row r has turned, and what is new; the row is then r'. -/
structure Upd (w w' : World) (r r' : Option Nat) : Prop where
  grown : w.grownBy w' r
  own : r' = r ∨ ∃ g, r' = some g ∧ w.heap.size ≤ g
theorem Upd.refl (w : World) (r : Option Nat) : Upd w w r r := ⟨⟨rfl, rfl, rfl, Nat.le_refl _, fun _ _ _ => rfl⟩, .inl rfl⟩
theorem Upd.trans {a b c : World} {r s t : Option Nat} (h : Upd a b r s) (k : Upd b c s t) : Upd a c r t := by
  refine ⟨⟨k.grown.os.trans h.grown.os, k.grown.tape.trans h.grown.tape, k.grown.output.trans h.grown.output, Nat.le_trans h.grown.size k.grown.size, fun i hi hne => ?_⟩, ?_⟩
  · rw [← h.grown.block i hi hne]
    refine k.grown.block i (Nat.lt_of_lt_of_le hi h.grown.size) ?_
    rcases h.own with e | ⟨g, e, hg⟩
    · rw [e]; exact hne
    · rw [e]; intro he; injection he with he; omega
  · rcases k.own with e | ⟨g, e, hg⟩
    · rw [e]; exact h.own
    · exact .inr ⟨g, e, Nat.le_trans h.grown.size hg⟩
theorem Upd.of_below {w w' : World} (h : Below w.heap.size w w') (r : Option Nat) : Upd w w' r r :=
  ⟨⟨h.os, h.tape, h.output, h.size, fun k hk _ => h.block k hk⟩, .inl rfl⟩
/-- a block that is not the row stays -/
theorem Upd.block {w w' : World} {r r' : Option Nat} (h : Upd w w' r r') {k : Nat} (hk : k < w.heap.size) (hne : r ≠ some k) : w'.heap[k]? = w.heap[k]? :=
  h.grown.block k hk (fun e => hne e.symm)
theorem Upd.cell {w w' : World} {r r' : Option Nat} (h : Upd w w' r r') {p : Addr} {v : Value} (hc : w.cell? p = some v) (hne : r ≠ some p.block) : w'.cell? p = some v := by
  rw [World.cell?_of_block (w := w) (h.block (cell_lt hc) hne)]; exact hc
theorem Upd.frozen {w w' : World} {r r' : Option Nat} (h : Upd w w' r r') {p : Addr} (hp : p.block < w.heap.size) (hne : r ≠ some p.block) : w'.frozen? p = w.frozen? p :=
  World.frozen?_of_block (w := w) (h.block hp hne)
theorem Upd.below {w w' : World} {r r' : Option Nat} {B : Nat} (h : Upd w w' r r') (hB : B ≤ w.heap.size) (hr : ∀ g, r = some g → B ≤ g) : Below B w w' :=
  (Below.refl B w).grown h.grown hB hr
theorem Row.lt {w : World} {E size n : Nat} {v : Value} {xs : List Value} (h : Row w E size v n xs) {g : Nat} (hg : v.ownBlock = some g) : g < w.heap.size := (World.ownsRow.lt h g hg).2
theorem Row.kept {w w' : World} {E size n : Nat} {v : Value} {xs : List Value} {r r' : Option Nat} (h : Row w E size v n xs) (hu : Upd w w' r r') (hne : v.ownBlock = none ∨ v.ownBlock ≠ r) : Row w' E size v n xs :=
  World.ownsRow.kept h hu.grown hne
theorem Row.below {w w' : World} {E size n : Nat} {v : Value} {xs : List Value} (h : Row w E size v n xs) (hb : Below w.heap.size w w') : Row w' E size v n xs := by
  cases e : v.ownBlock with
  | none => exact World.ownsRow.kept h (Upd.of_below hb none).grown (.inl e)
  | some g => exact World.ownsRow.kept h (Upd.of_below hb none).grown (.inr (by rw [e]; simp))
theorem row_nil (w : World) (E size : Nat) : Row w E size (.slice none 0 0) 0 [] := World.ownsRow_nil _ _ _ _
section
variable {P : Program} {S E : TypeId} {z : Value} {size bytes : Nat} {w : World}
theorem run_app (ty : SlTy P S E z size bytes) (tt : TypeId) (v : Value) (n : Nat) (xs : List Value) (hown : Row w E size v n xs) (a : Addr) (m c : Nat) (news : List Value) (hl : news.length = m * size)
    (hnews : ∀ j u, news[j]? = some u → w.cell? (a.add j) = some u) (h1 : ∀ u ∈ news, u.oneCell' = true) (h63 : n + m ≤ maxLen) (hbytes : (n + m) * bytes ≤ 140737488355328) :
    ∃ v' w', (Builtin.append_ #[S, S] tt #[v, .slice (some a) m c]).run P w = .ok v' w' ∧ Row w' E size v' (n + m) (xs ++ news) ∧ Upd w w' v.ownBlock v'.ownBlock := by
  obtain ⟨i0, hi, hz0, hz1, hz2⟩ := info_parts ty.info
  obtain ⟨v', w', hr, h2, h3, h4⟩ := run_append_own (P := P) w 0 S tt E i0 z size bytes ty.slice hi hz0 hz1 hz2 ty.cells ty.pos v n xs hown a m c news hl hnews h1 h63 hbytes (Nat.zero_le _)
  refine ⟨v', w', hr, h2, h3, ?_⟩
  have hsz := hown.1
  rcases hown.2 with ⟨rfl, rfl⟩ | ⟨g, cap, cur, rfl, _, hg, hnc, hcm, hcs, htake⟩
  · by_cases hm : m = 0
    · left; rw [h4.2 ⟨rfl, hm⟩]
    · right
      have hr2 := run_append_nil (P := P) w S tt E i0 z ty.slice hi hz0 a m c news (by rw [hz1]; exact hl) hnews (by omega) (by unfold maxLen at h63; omega) (by rw [hz2]; have hb := hbytes; simp only [Nat.zero_add] at hb; omega)
      rw [hr] at hr2
      injection hr2 with e1 e2
      exact ⟨w.heap.size, by rw [e1]; rfl, Nat.le_refl _⟩
  · by_cases hroom : n + m ≤ cap
    · left
      have hfit : n * i0.size + news.length ≤ cur.size := by rw [hl, hcs, hz1, ← Nat.add_mul]; exact Nat.mul_le_mul_right _ hroom
      have hr2 := run_append_room (P := P) w S tt E i0 ty.slice hi g n cap cur hg a m c news (by rw [hz1]; exact hl) hnews h1 hroom hfit
      rw [hr] at hr2
      injection hr2 with e1 e2
      rw [e1]; rfl
    · right
      have holds : ∀ j u, xs[j]? = some u → w.cell? ((⟨g, 0, none⟩ : Addr).add j) = some u := World.ownsRow.cells hown (g := g) rfl
      have hr2 := run_append_grow (P := P) w S tt E i0 z ty.slice hi hz0 ⟨g, 0, none⟩ n cap xs (by rw [hz1]; exact hsz) holds a m c news (by rw [hz1]; exact hl) hnews (by omega) (by unfold maxLen at h63; omega) (growslice_fits (by omega) (by rw [hz2]; exact hbytes))
      rw [hr] at hr2
      injection hr2 with e1 e2
      exact ⟨w.heap.size, by rw [e1]; rfl, Nat.le_refl _⟩
theorem wpList_app {ops : Array Oper} {rest : List Oper} {o : Oper} {a : Act} {Q : Exit → Act → World → Prop} (ty : SlTy P S E z size bytes) (hgd : o.guard = none) (s x : Operand)
    (ho : o.op = .call { callee := .builtin .append, args := #[s, x], argTypes := #[S, S] })
    (v : Value) (n : Nat) (xs : List Value) (hs : a.eval s = v) (hown : Row w E size v n xs)
    (ad : Addr) (m c : Nat) (news : List Value) (hx : a.eval x = .slice (some ad) m c) (hl : news.length = m * size) (hnews : ∀ j u, news[j]? = some u → w.cell? (ad.add j) = some u) (h1 : ∀ u ∈ news, u.oneCell' = true)
    (h63 : n + m ≤ maxLen) (hbytes : (n + m) * bytes ≤ 140737488355328)
    (h : ∀ v' w', Row w' E size v' (n + m) (xs ++ news) → Upd w w' v.ownBlock v'.ownBlock → wpList P ops Q rest (a.put o.dst v') w') : wpList P ops Q (o :: rest) a w :=
  wpList_plain hgd fun _ hK => by
    obtain ⟨v', w', hr, h2, h3⟩ := run_app (w := w) ty o.type v n xs hown ad m c news hl hnews h1 h63 hbytes
    unfold Oper.wp execOp
    simp only [ho, resolve, invoke, builtin, Sem.run_bind, Sem.run_pure, Result.andThen_ok, List.map_toArray, List.map_cons, List.map_nil, hs, hx, hr]
    exact hK _ _ (h v' w' h2 h3)
end
end Go.Proofs.YtnmojmmgkipjcaaGreatDoor
namespace Go.Proofs.YtnmojmmgkipjcaaGreatDoor
open Go.RowKit
/-- An api.Value, whatever its kind. -/
inductive JV where
  | mk (kind int : Int) (text : ByteArray) (names : List ByteArray) (items : List JV)
def JV.kind : JV → Int | .mk k _ _ _ _ => k
def JV.int : JV → Int | .mk _ n _ _ _ => n
def JV.text : JV → ByteArray | .mk _ _ s _ _ => s
def JV.names : JV → List ByteArray | .mk _ _ _ l _ => l
def JV.items : JV → List JV | .mk _ _ _ _ l => l
mutual
/-- how many values stand in one -/
def JV.size : JV → Nat
  | .mk _ _ _ _ is => 1 + JV.sizes is
def JV.sizes : List JV → Nat
  | [] => 0
  | t :: r => JV.size t + JV.sizes r
end
theorem JV.size_pos (t : JV) : 1 ≤ t.size := by cases t; simp [JV.size]
theorem JV.size_le {t : JV} {l : List JV} (h : t ∈ l) : t.size ≤ JV.sizes l := by
  induction l with
  | nil => cases h
  | cons x r ih =>
    rcases List.mem_cons.1 h with rfl | h
    · simp [JV.sizes]
    · have := ih h; simp only [JV.sizes]; omega
theorem JV.size_item {t u : JV} (h : u ∈ t.items) : u.size < t.size := by
  cases t with
  | mk k n s ns is => have := JV.size_le (l := is) h; simp only [JV.size]; omega
theorem JV.len_le (l : List JV) : l.length ≤ JV.sizes l := by
  induction l with
  | nil => simp
  | cons x r ih => have := JV.size_pos x; simp only [JV.sizes, List.length_cons]; omega
/-- The cells xs lie at an address, in a block that is let. -/
def Lie (w : World) (b off : Nat) (xs : List Value) : Prop := ∀ (j : Nat) (v : Value), xs[j]? = some v → w.cell? ⟨b, off + j, none⟩ = some v
/-- A slice's texts. -/
def StrsAt (w : World) (ok : Nat → Prop) (a : Option Addr) (l : List ByteArray) : Prop :=
  l = [] ∨ ∃ b off, a = some ⟨b, off, none⟩ ∧ ok b ∧ Lie w b off (l.map Value.string)
mutual
/-- The five cells cs hold the tree t; every list of it lies in blocks that are let. -/
def Rep (w : World) (ok : Nat → Prop) : JV → List Value → Prop
  | .mk k n s ns is, cs => (-9223372036854775808 ≤ k ∧ k ≤ 9223372036854775807) ∧ (-9223372036854775808 ≤ n ∧ n ≤ 9223372036854775807) ∧ s.size ≤ maxLen ∧
    ∃ an cn ai ci, cs = [.int .i64 k, .int .i64 n, .string s, .slice an ns.length cn, .slice ai is.length ci] ∧ (ns.length ≤ cn ∧ cn ≤ maxLen) ∧ (is.length ≤ ci ∧ ci ≤ maxLen) ∧
      StrsAt w ok an ns ∧ (is = [] ∨ ∃ b off, ai = some ⟨b, off, none⟩ ∧ ok b ∧ RepAll w ok is b off)
def RepAll (w : World) (ok : Nat → Prop) : List JV → Nat → Nat → Prop
  | [], _, _ => True
  | t :: r, b, off => (∃ cs, Rep w ok t cs ∧ Lie w b off cs) ∧ RepAll w ok r b (off + 5)
end
/-- A slice's values. -/
def ItemsAt (w : World) (ok : Nat → Prop) (a : Option Addr) (l : List JV) : Prop :=
  l = [] ∨ ∃ b off, a = some ⟨b, off, none⟩ ∧ ok b ∧ RepAll w ok l b off
theorem rep_mk {w : World} {ok : Nat → Prop} {k n : Int} {s : ByteArray} {ns : List ByteArray} {is : List JV} {cs : List Value} :
    Rep w ok (.mk k n s ns is) cs ↔ (-9223372036854775808 ≤ k ∧ k ≤ 9223372036854775807) ∧ (-9223372036854775808 ≤ n ∧ n ≤ 9223372036854775807) ∧ s.size ≤ maxLen ∧
    ∃ an cn ai ci, cs = [.int .i64 k, .int .i64 n, .string s, .slice an ns.length cn, .slice ai is.length ci] ∧ (ns.length ≤ cn ∧ cn ≤ maxLen) ∧ (is.length ≤ ci ∧ ci ≤ maxLen) ∧
      StrsAt w ok an ns ∧ ItemsAt w ok ai is := by
  rw [Rep]; rfl
/-- What is held stays held where the let blocks stay as they are. -/
theorem Lie.kept {w w' : World} {b off : Nat} {xs : List Value} (h : Lie w b off xs) (hb : w'.heap[b]? = w.heap[b]?) : Lie w' b off xs := fun j v hj => by
  rw [World.cell?_of_block (w := w) hb]; exact h j v hj
theorem StrsAt.kept {w w' : World} {ok ok' : Nat → Prop} {a : Option Addr} {l : List ByteArray} (h : StrsAt w ok a l) (hk : ∀ b, b < w.heap.size → ok b → ok' b ∧ w'.heap[b]? = w.heap[b]?) : StrsAt w' ok' a l := by
  rcases h with rfl | ⟨b, off, rfl, hb, hl⟩
  · exact .inl rfl
  · cases l with
    | nil => exact .inl rfl
    | cons x r =>
      have hlt : b < w.heap.size := cell_lt (hl 0 (.string x) rfl)
      exact .inr ⟨b, off, rfl, (hk b hlt hb).1, hl.kept (hk b hlt hb).2⟩
mutual
theorem Rep.kept {w w' : World} {ok ok' : Nat → Prop} (hk : ∀ b, b < w.heap.size → ok b → ok' b ∧ w'.heap[b]? = w.heap[b]?) : ∀ (t : JV) (cs : List Value), Rep w ok t cs → Rep w' ok' t cs
  | .mk k n s ns is, cs, h => by
    rw [rep_mk] at h ⊢
    obtain ⟨h1, h2, h3, an, cn, ai, ci, rfl, h4, h5, h6, h7⟩ := h
    refine ⟨h1, h2, h3, an, cn, ai, ci, rfl, h4, h5, h6.kept hk, ?_⟩
    rcases h7 with rfl | ⟨b, off, rfl, hb, hl⟩
    · exact .inl rfl
    · cases is with
      | nil => exact .inl rfl
      | cons x r =>
        have hlt : b < w.heap.size := by
          rw [RepAll] at hl
          obtain ⟨⟨cs, hx, hcs⟩, _⟩ := hl
          cases x with
          | mk k n s ns is =>
            rw [rep_mk] at hx
            obtain ⟨_, _, _, an, cn, ai, ci, rfl, _⟩ := hx
            exact cell_lt (hcs 0 _ rfl)
        exact .inr ⟨b, off, rfl, (hk b hlt hb).1, RepAll.kept hk (x :: r) b off (hk b hlt hb).2 hl⟩
theorem RepAll.kept {w w' : World} {ok ok' : Nat → Prop} (hk : ∀ b, b < w.heap.size → ok b → ok' b ∧ w'.heap[b]? = w.heap[b]?) : ∀ (l : List JV) (b off : Nat), w'.heap[b]? = w.heap[b]? → RepAll w ok l b off → RepAll w' ok' l b off
  | [], _, _, _, _ => by rw [RepAll]; trivial
  | t :: r, b, off, hb, h => by
    rw [RepAll] at h ⊢
    obtain ⟨⟨cs, h1, h2⟩, h3⟩ := h
    exact ⟨⟨cs, Rep.kept hk t cs h1, h2.kept hb⟩, RepAll.kept hk r b (off + 5) hb h3⟩
end
theorem Rep.below {w w' : World} {ok : Nat → Prop} {t : JV} {cs : List Value} (h : Rep w ok t cs) (hb : Below w.heap.size w w') : Rep w' ok t cs :=
  Rep.kept (fun b hlt ho => ⟨ho, hb.block b hlt⟩) t cs h
theorem ItemsAt.kept {w w' : World} {ok ok' : Nat → Prop} {a : Option Addr} {l : List JV} (h : ItemsAt w ok a l) (hk : ∀ b, b < w.heap.size → ok b → ok' b ∧ w'.heap[b]? = w.heap[b]?) : ItemsAt w' ok' a l := by
  rcases h with rfl | ⟨b, off, rfl, hb, hl⟩
  · exact .inl rfl
  · cases l with
    | nil => exact .inl rfl
    | cons x r =>
      have hlt : b < w.heap.size := by
        rw [RepAll] at hl
        obtain ⟨⟨cs, hx, hcs⟩, _⟩ := hl
        cases x with
        | mk k n s ns is =>
          rw [rep_mk] at hx
          obtain ⟨_, _, _, an, cn, ai, ci, rfl, _⟩ := hx
          exact cell_lt (hcs 0 _ rfl)
      exact .inr ⟨b, off, rfl, (hk b hlt hb).1, RepAll.kept hk (x :: r) b off (hk b hlt hb).2 hl⟩
theorem ItemsAt.below {w w' : World} {ok : Nat → Prop} {a : Option Addr} {l : List JV} (h : ItemsAt w ok a l) (hb : Below w.heap.size w w') : ItemsAt w' ok a l :=
  h.kept (fun b hlt ho => ⟨ho, hb.block b hlt⟩)
theorem StrsAt.below {w w' : World} {ok : Nat → Prop} {a : Option Addr} {l : List ByteArray} (h : StrsAt w ok a l) (hb : Below w.heap.size w w') : StrsAt w' ok a l :=
  h.kept (fun b hlt ho => ⟨ho, hb.block b hlt⟩)
/-- The value number i. -/
theorem RepAll.at {w : World} {ok : Nat → Prop} : ∀ {l : List JV} {b off : Nat}, RepAll w ok l b off → ∀ (i : Nat) (h : i < l.length), ∃ cs, Rep w ok l[i] cs ∧ Lie w b (off + i * 5) cs
  | t :: r, b, off, h, 0, _ => by rw [RepAll] at h; simpa using h.1
  | t :: r, b, off, h, i + 1, hi => by
    rw [RepAll] at h
    obtain ⟨cs, h1, h2⟩ := RepAll.at h.2 i (by simpa using hi)
    exact ⟨cs, h1, by rw [show off + (i + 1) * 5 = off + 5 + i * 5 by omega]; exact h2⟩
end Go.Proofs.YtnmojmmgkipjcaaGreatDoor
namespace Go.Proofs.YtnmojmmgkipjcaaGreatDoor
def strsBulk : List ByteArray → Nat
  | [] => 0
  | s :: r => s.size + 1 + strsBulk r
mutual
/-- values and letters -/
def JV.bulk : JV → Nat
  | .mk _ _ s ns is => 1 + s.size + strsBulk ns + JV.bulks is
def JV.bulks : List JV → Nat
  | [] => 0
  | t :: r => JV.bulk t + JV.bulks r
end
theorem strs_len (l : List ByteArray) : l.length ≤ strsBulk l := by
  induction l with
  | nil => simp
  | cons x r ih => simp only [strsBulk, List.length_cons]; omega
theorem JV.bulk_le {t : JV} {l : List JV} (h : t ∈ l) : t.bulk ≤ JV.bulks l := by
  induction l with
  | nil => cases h
  | cons x r ih =>
    rcases List.mem_cons.1 h with rfl | h
    · simp [JV.bulks]
    · have := ih h; simp only [JV.bulks]; omega
theorem JV.bulk_item {t u : JV} (h : u ∈ t.items) : u.bulk ≤ t.bulk := by
  cases t with
  | mk k n s ns is => have := JV.bulk_le (l := is) h; simp only [JV.bulk]; omega
mutual
/-- how many values and names, counted as far as a most -/
def parts : JV → Int → Int
  | .mk _ _ _ ns is, most => partsL is (1 + (ns.length : Int)) most
def partsL : List JV → Int → Int → Int
  | [], n, _ => n
  | t :: r, n, most => if n ≤ most then partsL r (n + parts t (most - n)) most else n
end
mutual
theorem parts_bd : ∀ (t : JV) (most : Int), 1 ≤ parts t most ∧ parts t most ≤ t.bulk
  | .mk _ _ s ns is, most => by
    have h := partsL_bd is (1 + (ns.length : Int)) most (by omega)
    have := strs_len ns
    rw [parts, JV.bulk]
    omega
theorem partsL_bd : ∀ (l : List JV) (n most : Int), 0 ≤ n → n ≤ partsL l n most ∧ partsL l n most ≤ n + JV.bulks l
  | [], n, most, _ => by rw [partsL, JV.bulks]; omega
  | t :: r, n, most, h => by
    rw [partsL, JV.bulks]
    split
    · have h1 := parts_bd t (most - n)
      have h2 := partsL_bd r (n + parts t (most - n)) most (by omega)
      omega
    · omega
end
mutual
/-- are two trees the same? -/
def same : JV → JV → Bool
  | .mk k n s ns is, .mk k' n' s' ns' is' => k == k' && n == n' && s.data.toList == s'.data.toList && ns.map (·.data.toList) == ns'.map (·.data.toList) && sameL is is'
def sameL : List JV → List JV → Bool
  | [], [] => true
  | x :: a, y :: b => same x y && sameL a b
  | _, _ => false
end
mutual
theorem same_self : ∀ t : JV, same t t = true
  | .mk k n s ns is => by rw [same, sameL_self is]; simp
theorem sameL_self : ∀ l : List JV, sameL l l = true
  | [] => rfl
  | t :: r => by rw [sameL, same_self t, sameL_self r]; rfl
end
mutual
theorem same_eq : ∀ t u : JV, same t u = true → t = u
  | .mk k n s ns is, .mk k' n' s' ns' is', h => by
    rw [same] at h
    simp only [Bool.and_eq_true, beq_iff_eq] at h
    obtain ⟨⟨⟨⟨rfl, rfl⟩, h1⟩, h2⟩, h3⟩ := h
    obtain rfl : s = s' := ByteArray.ext (Array.ext' h1)
    obtain rfl : ns = ns' := by
      have hinj : ∀ (a b : List ByteArray), a.map (·.data.toList) = b.map (·.data.toList) → a = b := by
        intro a
        induction a with
        | nil => intro b hb; cases b <;> simp_all
        | cons x a ih =>
          intro b hb
          cases b with
          | nil => simp at hb
          | cons y b =>
            simp only [List.map_cons, List.cons.injEq] at hb
            rw [ih b hb.2, show x = y from ByteArray.ext (Array.ext' hb.1)]
      exact hinj _ _ h2
    rw [sameL_eq is is' h3]
theorem sameL_eq : ∀ a b : List JV, sameL a b = true → a = b
  | [], [], _ => rfl
  | x :: a, y :: b, h => by
    rw [sameL, Bool.and_eq_true] at h
    rw [same_eq x y h.1, sameL_eq a b h.2]
  | [], _ :: _, h => by rw [sameL] at h; exact absurd h (by decide); all_goals (intros; contradiction)
  | _ :: _, [], h => by rw [sameL] at h; exact absurd h (by decide); all_goals (intros; contradiction)
end
theorem same_iff (t u : JV) : same t u = true ↔ t = u := ⟨same_eq t u, fun h => by rw [h]; exact same_self u⟩
end Go.Proofs.YtnmojmmgkipjcaaGreatDoor
namespace Go.Proofs.YtnmojmmgkipjcaaGreatDoor
open Go.RowKit
theorem add_none (g o j : Nat) : (⟨g, o, none⟩ : Addr).add j = ⟨g, o + j, none⟩ := by unfold Addr.add; split <;> simp_all
section
variable {P : Program} {S E : TypeId} {z : Value} {size bytes : Nat} {w : World}
theorem run_app_any (ty : SlTy P S E z size bytes) (tt : TypeId) (v : Value) (n : Nat) (xs : List Value) (hown : Row w E size v n xs) (A : Option Addr) (m c : Nat) (news : List Value) (hl : news.length = m * size)
    (hA : A = none → m = 0) (hnews : ∀ a, A = some a → ∀ j u, news[j]? = some u → w.cell? (a.add j) = some u) (h1 : ∀ u ∈ news, u.oneCell' = true) (h63 : n + m ≤ maxLen) (hbytes : (n + m) * bytes ≤ 140737488355328) :
    ∃ v' w', (Builtin.append_ #[S, S] tt #[v, .slice A m c]).run P w = .ok v' w' ∧ Row w' E size v' (n + m) (xs ++ news) ∧ Upd w w' v.ownBlock v'.ownBlock := by
  cases A with
  | some a => exact run_app ty tt v n xs hown a m c news hl (hnews a rfl) h1 h63 hbytes
  | none =>
    obtain rfl := hA rfl
    obtain rfl : news = [] := List.eq_nil_of_length_eq_zero (by omega)
    obtain ⟨i0, hi, hz0, hz1, hz2⟩ := info_parts ty.info
    refine ⟨v, w, ?_, by simpa using hown, Upd.refl _ _⟩
    rcases hown.2 with ⟨rfl, rfl⟩ | ⟨g, cap, cur, rfl, _, _, hnc, _⟩
    · simp [Builtin.append_, run_underlying ty.slice, sizeOf, typeInfo, hi, Builtin.lenOf, Builtin.firstCells]
    · simp [Builtin.append_, run_underlying ty.slice, sizeOf, typeInfo, hi, Builtin.lenOf, Builtin.firstCells, hnc, storeCells]
theorem wp_app {o : Oper} {a : Act} {K : Act → World → Prop} {Q : Exit → Act → World → Prop} (ty : SlTy P S E z size bytes) (s x : Operand)
    (ho : o.op = .call { callee := .builtin .append, args := #[s, x], argTypes := #[S, S] })
    (v : Value) (n : Nat) (xs : List Value) (hs : a.eval s = v) (hown : Row w E size v n xs)
    (A : Option Addr) (m c : Nat) (news : List Value) (hx : a.eval x = .slice A m c) (hl : news.length = m * size)
    (hA : A = none → m = 0) (hnews : ∀ a, A = some a → ∀ j u, news[j]? = some u → w.cell? (a.add j) = some u) (h1 : ∀ u ∈ news, u.oneCell' = true)
    (h63 : n + m ≤ maxLen) (hbytes : (n + m) * bytes ≤ 140737488355328)
    (h : ∀ v' w', Row w' E size v' (n + m) (xs ++ news) → Upd w w' v.ownBlock v'.ownBlock → K (a.put o.dst v') w') : o.wp P a w K Q := by
  obtain ⟨v', w', hr, h2, h3⟩ := run_app_any (w := w) ty o.type v n xs hown A m c news hl hA hnews h1 h63 hbytes
  unfold Oper.wp execOp
  simp only [ho, resolve, invoke, builtin, Sem.run_bind, Sem.run_pure, Result.andThen_ok, List.map_toArray, List.map_cons, List.map_nil, hs, hx, hr]
  exact h v' w' h2 h3
/-- at a step of a region that draws -/
theorem step_app {ops : Array Oper} {o : Oper} {a : Act} {K : Act → World → Prop} {Q : Exit → Act → World → Prop} {F : Prop} (ty : SlTy P S E z size bytes) (hgd : o.guard = none) (s x : Operand)
    (ho : o.op = .call { callee := .builtin .append, args := #[s, x], argTypes := #[S, S] })
    (v : Value) (n : Nat) (xs : List Value) (hs : a.eval s = v) (hown : Row w E size v n xs)
    (A : Option Addr) (m c : Nat) (news : List Value) (hx : a.eval x = .slice A m c) (hl : news.length = m * size)
    (hA : A = none → m = 0) (hnews : ∀ a, A = some a → ∀ j u, news[j]? = some u → w.cell? (a.add j) = some u) (h1 : ∀ u ∈ news, u.oneCell' = true)
    (h63 : n + m ≤ maxLen) (hbytes : (n + m) * bytes ≤ 140737488355328)
    (h : ∀ v' w', Row w' E size v' (n + m) (xs ++ news) → Upd w w' v.ownBlock v'.ownBlock → K (a.put o.dst v') w') :
    if Region.wanted o (yielded ops a.tmps) = true then Oper.wp P o a w K Q else F := by
  have hw : Region.wanted o (yielded ops a.tmps) = true := by simp [Region.wanted, hgd]
  rw [if_pos hw]
  exact wp_app ty s x ho v n xs hs hown A m c news hx hl hA hnews h1 h63 hbytes h
end
/-- What a row's slice looks like, and where its cells lie. -/
theorem Row.form {w : World} {E : TypeId} {size : Nat} {v : Value} {n : Nat} {xs : List Value} (h : Row w E size v n xs) :
    ∃ a cap, v = .slice a n cap ∧ n ≤ cap ∧ cap ≤ maxLen ∧ ((a = none ∧ n = 0 ∧ xs = []) ∨ ∃ g, a = some ⟨g, 0, none⟩ ∧ v.ownBlock = some g ∧ g < w.heap.size ∧ Lie w g 0 xs) := by
  have h0 := h
  rcases h.2 with ⟨rfl, rfl⟩ | ⟨g, cap, cur, rfl, _, hg, hnc, hcm, hcs, htake⟩
  · exact ⟨none, 0, rfl, Nat.le_refl _, Nat.zero_le _, .inl ⟨rfl, rfl, List.eq_nil_of_length_eq_zero (by rw [h.1]; simp)⟩⟩
  · refine ⟨_, cap, rfl, hnc, hcm, .inr ⟨g, rfl, rfl, ?_, fun j u hj => ?_⟩⟩
    · rcases Nat.lt_or_ge g w.heap.size with hlt | hge
      · exact hlt
      · rw [Array.getElem?_eq_none hge] at hg; cases hg
    · have := World.ownsRow.cells h0 (g := g) rfl j u hj
      rwa [add_none] at this
/-- Trees whose cells stand behind one another in xs. -/
def Reps (w : World) (ok : Nat → Prop) : List JV → List Value → Prop
  | [], xs => xs = []
  | t :: r, xs => ∃ cs ys, xs = cs ++ ys ∧ Rep w ok t cs ∧ Reps w ok r ys
theorem Rep.len {w : World} {ok : Nat → Prop} {t : JV} {cs : List Value} (h : Rep w ok t cs) : cs.length = 5 := by
  cases t with
  | mk k n s ns is =>
    rw [rep_mk] at h
    obtain ⟨_, _, _, _, _, _, _, rfl, _⟩ := h
    rfl
theorem Reps.snoc {w : World} {ok : Nat → Prop} {t : JV} {cs : List Value} (ht : Rep w ok t cs) : ∀ {l : List JV} {xs : List Value}, Reps w ok l xs → Reps w ok (l ++ [t]) (xs ++ cs)
  | [], xs, h => by rw [Reps] at h; subst h; exact ⟨cs, [], by simp, ht, rfl⟩
  | u :: r, xs, h => by
    obtain ⟨c, ys, rfl, h1, h2⟩ := h
    exact ⟨c, ys ++ cs, by simp, h1, Reps.snoc ht h2⟩
theorem Reps.kept {w w' : World} {ok ok' : Nat → Prop} (hk : ∀ b, b < w.heap.size → ok b → ok' b ∧ w'.heap[b]? = w.heap[b]?) : ∀ {l : List JV} {xs : List Value}, Reps w ok l xs → Reps w' ok' l xs
  | [], _, h => h
  | t :: _, _, ⟨c, ys, e, h1, h2⟩ => ⟨c, ys, e, Rep.kept hk t c h1, Reps.kept hk h2⟩
theorem Reps.lie {w : World} {ok : Nat → Prop} {b : Nat} : ∀ {l : List JV} {xs : List Value} {off : Nat}, Reps w ok l xs → Lie w b off xs → RepAll w ok l b off
  | [], _, _, _, _ => by rw [RepAll]; trivial
  | t :: r, xs, off, ⟨c, ys, e, h1, h2⟩, hl => by
    subst e
    rw [RepAll]
    refine ⟨⟨c, h1, fun j v hj => hl j v ?_⟩, Reps.lie h2 fun j v hj => ?_⟩
    · rw [List.getElem?_append_left (by have := (List.getElem?_eq_some_iff.1 hj).1; omega)]; exact hj
    · have := hl (5 + j) v (by rw [List.getElem?_append_right (by rw [h1.len]; omega), h1.len]; simpa using hj)
      rwa [← Nat.add_assoc] at this
/-- A row of trees is a slice of them. -/
theorem Row.items {w : World} {E : TypeId} {v : Value} {xs : List Value} {l : List JV} {ok : Nat → Prop} (h : Row w E 5 v l.length xs) (hr : Reps w ok l xs) (ho : ∀ g, v.ownBlock = some g → ok g) :
    ∃ a cap, v = .slice a l.length cap ∧ (l.length ≤ cap ∧ cap ≤ maxLen) ∧ ItemsAt w ok a l := by
  obtain ⟨a, cap, rfl, h1, h2, h3⟩ := h.form
  refine ⟨a, cap, rfl, ⟨h1, h2⟩, ?_⟩
  rcases h3 with ⟨rfl, h3, _⟩ | ⟨g, rfl, h3, _, h4⟩
  · exact .inl (List.eq_nil_of_length_eq_zero h3)
  · exact .inr ⟨g, 0, rfl, ho g h3, hr.lie h4⟩
/-- A row of strings is a slice of them. -/
theorem Row.strs {w : World} {E : TypeId} {v : Value} {l : List ByteArray} {ok : Nat → Prop} (h : Row w E 1 v l.length (l.map Value.string)) (ho : ∀ g, v.ownBlock = some g → ok g) :
    ∃ a cap, v = .slice a l.length cap ∧ (l.length ≤ cap ∧ cap ≤ maxLen) ∧ StrsAt w ok a l := by
  obtain ⟨a, cap, rfl, h1, h2, h3⟩ := h.form
  refine ⟨a, cap, rfl, ⟨h1, h2⟩, ?_⟩
  rcases h3 with ⟨rfl, h3, _⟩ | ⟨g, rfl, h3, _, h4⟩
  · exact .inl (List.eq_nil_of_length_eq_zero h3)
  · exact .inr ⟨g, 0, rfl, ho g h3, h4⟩
/-- A held tree's cells. -/
theorem Rep.form {w : World} {ok : Nat → Prop} {t : JV} {cs : List Value} (h : Rep w ok t cs) :
    ∃ an cn ai ci, cs = [.int .i64 t.kind, .int .i64 t.int, .string t.text, .slice an t.names.length cn, .slice ai t.items.length ci] := by
  cases t with
  | mk k n s ns is =>
    rw [rep_mk] at h
    obtain ⟨_, _, _, an, cn, ai, ci, rfl, _⟩ := h
    exact ⟨an, cn, ai, ci, rfl⟩
/-- A slice of texts can be appended. -/
theorem StrsAt.news {w : World} {ok : Nat → Prop} {a : Option Addr} {l : List ByteArray} (h : StrsAt w ok a l) : ∀ p, a = some p → ∀ j u, (l.map Value.string)[j]? = some u → w.cell? (p.add j) = some u := by
  intro p hp j u hj
  rcases h with rfl | ⟨b, off, rfl, _, hl⟩
  · simp at hj
  · injection hp with hp
    subst hp
    rw [add_none]
    exact hl j u hj
end Go.Proofs.YtnmojmmgkipjcaaGreatDoor
