/- Rows that a call makes, as values of trees: appends in regions that draw, values behind one another in a row, a slice's form. Over any program. Conditions: what the laws name. -/
import Derived.Test.YtjmhoccikbgigaaDoorTree
import Derived.RegionTactic
import Derived.Deep.AppendLies
namespace Go.Proofs.YtjmhoccikbgigaaDoor
open Go.RowKit
theorem add_none (g o j : Nat) : (⟨g, o, none⟩ : Addr).add j = ⟨g, o + j, none⟩ := by unfold Addr.add; split <;> simp_all
section
variable {P : Program} {S E : TypeId} {z : Value} {size bytes : Nat} {w : World}
theorem run_app_any (ty : SlTy P S E z size bytes) (tt : TypeId) (v : Value) (n : Nat) (xs : List Value) (hown : Row w E size v n xs) (A : Option Addr) (m c : Nat) (news : List Value) (hl : news.length = m * size)
    (hA : A = none → m = 0) (hnews : ∀ a, A = some a → ∀ j u, news[j]? = some u → w.cell? (a.add j) = some u) (h1 : ∀ u ∈ news, u.oneCell' = true) (h63 : n + m ≤ maxLen) (hbytes : (n + m) * bytes ≤ 140737488355328) :
    ∃ v' w', (Builtin.append_ #[S, S] tt #[v, .slice A m c]).run P w = .ok v' w' ∧ Row w' E size v' (n + m) (xs ++ news) ∧ Upd w w' v.ownBlock v'.ownBlock := by
  cases A with
  | some a => exact run_app ty tt v n xs hown a m c news hl (hnews a rfl) h1 h63 hbytes
  | none =>
    obtain rfl := hA rfl
    obtain rfl : news = [] := List.eq_nil_of_length_eq_zero (by omega)
    obtain ⟨i0, hi, hz0, hz1, hz2⟩ := info_parts ty.info
    refine ⟨v, w, ?_, by simpa using hown, Upd.refl _ _⟩
    rcases hown.2 with ⟨rfl, rfl⟩ | ⟨g, cap, cur, rfl, _, _, hnc, _⟩
    · simp [Builtin.append_, run_underlying ty.slice, sizeOf, typeInfo, hi, Builtin.lenOf, Builtin.firstCells]
    · simp [Builtin.append_, run_underlying ty.slice, sizeOf, typeInfo, hi, Builtin.lenOf, Builtin.firstCells, hnc, storeCells]
theorem wp_app {o : Oper} {a : Act} {K : Act → World → Prop} {Q : Exit → Act → World → Prop} (ty : SlTy P S E z size bytes) (s x : Operand)
    (ho : o.op = .call { callee := .builtin .append, args := #[s, x], argTypes := #[S, S] })
    (v : Value) (n : Nat) (xs : List Value) (hs : a.eval s = v) (hown : Row w E size v n xs)
    (A : Option Addr) (m c : Nat) (news : List Value) (hx : a.eval x = .slice A m c) (hl : news.length = m * size)
    (hA : A = none → m = 0) (hnews : ∀ a, A = some a → ∀ j u, news[j]? = some u → w.cell? (a.add j) = some u) (h1 : ∀ u ∈ news, u.oneCell' = true)
    (h63 : n + m ≤ maxLen) (hbytes : (n + m) * bytes ≤ 140737488355328)
    (h : ∀ v' w', Row w' E size v' (n + m) (xs ++ news) → Upd w w' v.ownBlock v'.ownBlock → K (a.put o.dst v') w') : o.wp P a w K Q := by
  obtain ⟨v', w', hr, h2, h3⟩ := run_app_any (w := w) ty o.type v n xs hown A m c news hl hA hnews h1 h63 hbytes
  unfold Oper.wp execOp
  simp only [ho, resolve, invoke, builtin, Sem.run_bind, Sem.run_pure, Result.andThen_ok, List.map_toArray, List.map_cons, List.map_nil, hs, hx, hr]
  exact h v' w' h2 h3
/-- at a step of a region that draws -/
theorem step_app {ops : Array Oper} {o : Oper} {a : Act} {K : Act → World → Prop} {Q : Exit → Act → World → Prop} {F : Prop} (ty : SlTy P S E z size bytes) (hgd : o.guard = none) (s x : Operand)
    (ho : o.op = .call { callee := .builtin .append, args := #[s, x], argTypes := #[S, S] })
    (v : Value) (n : Nat) (xs : List Value) (hs : a.eval s = v) (hown : Row w E size v n xs)
    (A : Option Addr) (m c : Nat) (news : List Value) (hx : a.eval x = .slice A m c) (hl : news.length = m * size)
    (hA : A = none → m = 0) (hnews : ∀ a, A = some a → ∀ j u, news[j]? = some u → w.cell? (a.add j) = some u) (h1 : ∀ u ∈ news, u.oneCell' = true)
    (h63 : n + m ≤ maxLen) (hbytes : (n + m) * bytes ≤ 140737488355328)
    (h : ∀ v' w', Row w' E size v' (n + m) (xs ++ news) → Upd w w' v.ownBlock v'.ownBlock → K (a.put o.dst v') w') :
    if Region.wanted o (yielded ops a.tmps) = true then Oper.wp P o a w K Q else F := by
  have hw : Region.wanted o (yielded ops a.tmps) = true := by simp [Region.wanted, hgd]
  rw [if_pos hw]
  exact wp_app ty s x ho v n xs hs hown A m c news hx hl hA hnews h1 h63 hbytes h
end
/-- What a row's slice looks like, and where its cells lie. -/
theorem Row.form {w : World} {E : TypeId} {size : Nat} {v : Value} {n : Nat} {xs : List Value} (h : Row w E size v n xs) :
    ∃ a cap, v = .slice a n cap ∧ n ≤ cap ∧ cap ≤ maxLen ∧ ((a = none ∧ n = 0 ∧ xs = []) ∨ ∃ g, a = some ⟨g, 0, none⟩ ∧ v.ownBlock = some g ∧ g < w.heap.size ∧ Lie w g 0 xs) := by
  have h0 := h
  rcases h.2 with ⟨rfl, rfl⟩ | ⟨g, cap, cur, rfl, _, hg, hnc, hcm, hcs, htake⟩
  · exact ⟨none, 0, rfl, Nat.le_refl _, Nat.zero_le _, .inl ⟨rfl, rfl, List.eq_nil_of_length_eq_zero (by rw [h.1]; simp)⟩⟩
  · refine ⟨_, cap, rfl, hnc, hcm, .inr ⟨g, rfl, rfl, ?_, fun j u hj => ?_⟩⟩
    · rcases Nat.lt_or_ge g w.heap.size with hlt | hge
      · exact hlt
      · rw [Array.getElem?_eq_none hge] at hg; cases hg
    · have := World.ownsRow.cells h0 (g := g) rfl j u hj
      rwa [add_none] at this
/-- Trees whose cells stand behind one another in xs. -/
def Reps (w : World) (ok : Nat → Prop) : List JV → List Value → Prop
  | [], xs => xs = []
  | t :: r, xs => ∃ cs ys, xs = cs ++ ys ∧ Rep w ok t cs ∧ Reps w ok r ys
theorem Rep.len {w : World} {ok : Nat → Prop} {t : JV} {cs : List Value} (h : Rep w ok t cs) : cs.length = 5 := by
  cases t with
  | mk k n s ns is =>
    rw [rep_mk] at h
    obtain ⟨_, _, _, _, _, _, _, rfl, _⟩ := h
    rfl
theorem Reps.snoc {w : World} {ok : Nat → Prop} {t : JV} {cs : List Value} (ht : Rep w ok t cs) : ∀ {l : List JV} {xs : List Value}, Reps w ok l xs → Reps w ok (l ++ [t]) (xs ++ cs)
  | [], xs, h => by rw [Reps] at h; subst h; exact ⟨cs, [], by simp, ht, rfl⟩
  | u :: r, xs, h => by
    obtain ⟨c, ys, rfl, h1, h2⟩ := h
    exact ⟨c, ys ++ cs, by simp, h1, Reps.snoc ht h2⟩
theorem Reps.kept {w w' : World} {ok ok' : Nat → Prop} (hk : ∀ b, b < w.heap.size → ok b → ok' b ∧ w'.heap[b]? = w.heap[b]?) : ∀ {l : List JV} {xs : List Value}, Reps w ok l xs → Reps w' ok' l xs
  | [], _, h => h
  | t :: _, _, ⟨c, ys, e, h1, h2⟩ => ⟨c, ys, e, Rep.kept hk t c h1, Reps.kept hk h2⟩
theorem Reps.lie {w : World} {ok : Nat → Prop} {b : Nat} : ∀ {l : List JV} {xs : List Value} {off : Nat}, Reps w ok l xs → Lie w b off xs → RepAll w ok l b off
  | [], _, _, _, _ => by rw [RepAll]; trivial
  | t :: r, xs, off, ⟨c, ys, e, h1, h2⟩, hl => by
    subst e
    rw [RepAll]
    refine ⟨⟨c, h1, fun j v hj => hl j v ?_⟩, Reps.lie h2 fun j v hj => ?_⟩
    · rw [List.getElem?_append_left (by have := (List.getElem?_eq_some_iff.1 hj).1; omega)]; exact hj
    · have := hl (5 + j) v (by rw [List.getElem?_append_right (by rw [h1.len]; omega), h1.len]; simpa using hj)
      rwa [← Nat.add_assoc] at this
/-- A row of trees is a slice of them. -/
theorem Row.items {w : World} {E : TypeId} {v : Value} {xs : List Value} {l : List JV} {ok : Nat → Prop} (h : Row w E 5 v l.length xs) (hr : Reps w ok l xs) (ho : ∀ g, v.ownBlock = some g → ok g) :
    ∃ a cap, v = .slice a l.length cap ∧ (l.length ≤ cap ∧ cap ≤ maxLen) ∧ ItemsAt w ok a l := by
  obtain ⟨a, cap, rfl, h1, h2, h3⟩ := h.form
  refine ⟨a, cap, rfl, ⟨h1, h2⟩, ?_⟩
  rcases h3 with ⟨rfl, h3, _⟩ | ⟨g, rfl, h3, _, h4⟩
  · exact .inl (List.eq_nil_of_length_eq_zero h3)
  · exact .inr ⟨g, 0, rfl, ho g h3, hr.lie h4⟩
/-- A row of strings is a slice of them. -/
theorem Row.strs {w : World} {E : TypeId} {v : Value} {l : List ByteArray} {ok : Nat → Prop} (h : Row w E 1 v l.length (l.map Value.string)) (ho : ∀ g, v.ownBlock = some g → ok g) :
    ∃ a cap, v = .slice a l.length cap ∧ (l.length ≤ cap ∧ cap ≤ maxLen) ∧ StrsAt w ok a l := by
  obtain ⟨a, cap, rfl, h1, h2, h3⟩ := h.form
  refine ⟨a, cap, rfl, ⟨h1, h2⟩, ?_⟩
  rcases h3 with ⟨rfl, h3, _⟩ | ⟨g, rfl, h3, _, h4⟩
  · exact .inl (List.eq_nil_of_length_eq_zero h3)
  · exact .inr ⟨g, 0, rfl, ho g h3, h4⟩
/-- A held tree's cells. -/
theorem Rep.form {w : World} {ok : Nat → Prop} {t : JV} {cs : List Value} (h : Rep w ok t cs) :
    ∃ an cn ai ci, cs = [.int .i64 t.kind, .int .i64 t.int, .string t.text, .slice an t.names.length cn, .slice ai t.items.length ci] := by
  cases t with
  | mk k n s ns is =>
    rw [rep_mk] at h
    obtain ⟨_, _, _, an, cn, ai, ci, rfl, _⟩ := h
    exact ⟨an, cn, ai, ci, rfl⟩
/-- A slice of texts can be appended. -/
theorem StrsAt.news {w : World} {ok : Nat → Prop} {a : Option Addr} {l : List ByteArray} (h : StrsAt w ok a l) : ∀ p, a = some p → ∀ j u, (l.map Value.string)[j]? = some u → w.cell? (p.add j) = some u := by
  intro p hp j u hj
  rcases h with rfl | ⟨b, off, rfl, _, hl⟩
  · simp at hj
  · injection hp with hp
    subst hp
    rw [add_none]
    exact hl j u hj
end Go.Proofs.YtjmhoccikbgigaaDoor
