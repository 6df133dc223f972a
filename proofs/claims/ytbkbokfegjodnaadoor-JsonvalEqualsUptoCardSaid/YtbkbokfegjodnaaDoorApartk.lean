/- For apart: a row's first elements are a row. Conditions: none. -/
import Derived.Test.YtbkbokfegjodnaaDoorUnderw
namespace Go.Proofs.YtbkbokfegjodnaaDoor
open Go.RowKit
theorem Row.first {w : World} {E size n m c : Nat} {a : Option Addr} {xs : List Value} (h : Row w E size (.slice a (n + m) c) (n + m) xs) : Row w E size (.slice a n c) n (xs.take (n * size)) := by
  have hl := h.1
  refine ⟨by rw [List.length_take, hl, Nat.add_mul]; omega, ?_⟩
  rcases h.2 with ⟨e, h0⟩ | ⟨g, cap, cur, e, hb, hg, hnc, hcm, hcs, htk⟩
  · injection e with e1 e2 e3
    subst e1; subst e3
    have : n = 0 := by omega
    subst this
    exact .inl ⟨rfl, rfl⟩
  · injection e with e1 _ e3
    subst e1; subst e3
    refine .inr ⟨g, c, cur, rfl, hb, hg, by omega, hcm, hcs, ?_⟩
    rw [← htk, List.take_take, Nat.min_eq_left (Nat.mul_le_mul_right _ (by omega))]
section
variable {P : Program} {S E : TypeId} {z : Value} {size bytes : Nat} {w : World}
/-- an append: the old cells stay -/
theorem run_app2 (ty : SlTy P S E z size bytes) (tt : TypeId) (v : Value) (n : Nat) (xs : List Value) (hown : Row w E size v n xs) (a : Addr) (m c : Nat) (news : List Value) (hl : news.length = m * size)
    (hnews : ∀ j u, news[j]? = some u → w.cell? (a.add j) = some u) (h1 : ∀ u ∈ news, u.oneCell' = true) (h63 : n + m ≤ maxLen) (hbytes : (n + m) * bytes ≤ 140737488355328) :
    ∃ v' w', (Builtin.append_ #[S, S] tt #[v, .slice (some a) m c]).run P w = .ok v' w' ∧ Row w' E size v' (n + m) (xs ++ news) ∧ Upd w w' v.ownBlock v'.ownBlock ∧
      ∀ g, v.ownBlock = some g → ∀ j u, xs[j]? = some u → w'.cell? ⟨g, j, none⟩ = some u := by
  obtain ⟨i0, hi, hz0, hz1, hz2⟩ := info_parts ty.info
  obtain ⟨v', w', hr, h2, h3⟩ := run_app (w := w) ty tt v n xs hown a m c news hl hnews h1 h63 hbytes
  refine ⟨v', w', hr, h2, h3, fun b hb j u hu => ?_⟩
  have hsz := hown.1
  have add0 : ∀ j, (⟨b, 0, none⟩ : Addr).add j = ⟨b, j, none⟩ := fun j => by unfold Addr.add; split <;> simp_all
  rcases hown.2 with ⟨rfl, rfl⟩ | ⟨g, cap, cur, rfl, _, hg, hnc, hcm, hcs, htake⟩
  · cases hb
  · injection hb with hb
    subst hb
    have hold : ∀ j u, xs[j]? = some u → w.cell? ((⟨g, 0, none⟩ : Addr).add j) = some u := World.ownsRow.cells hown (g := g) rfl
    by_cases hroom : n + m ≤ cap
    · have hfit : n * i0.size + news.length ≤ cur.size := by rw [hl, hcs, hz1, ← Nat.add_mul]; exact Nat.mul_le_mul_right _ hroom
      have hr2 := run_append_room (P := P) w S tt E i0 ty.slice hi g n cap cur hg a m c news (by rw [hz1]; exact hl) hnews h1 hroom hfit
      rw [hr] at hr2
      injection hr2 with e1 e2
      have := World.ownsRow.cells h2 (g := g) (by rw [e1]; rfl) j u (by rw [List.getElem?_append_left (List.getElem?_eq_some_iff.1 hu).1]; exact hu)
      rw [add0] at this
      exact this
    · have hr2 := run_append_grow (P := P) w S tt E i0 z ty.slice hi hz0 ⟨g, 0, none⟩ n cap xs (by rw [hz1]; exact hsz) hold a m c news (by rw [hz1]; exact hl) hnews (by omega) (by unfold maxLen at h63; omega) (growslice_fits (by omega) (by rw [hz2]; exact hbytes))
      rw [hr] at hr2
      injection hr2 with e1 e2
      have h0 := hold j u hu
      rw [add0] at h0
      have hlt := cell_lt h0
      have e3 : w'.heap[g]? = w.heap[g]? := by
        rw [e2]
        exact ((Below.drew (Below.refl w.heap.size w)).alloc (Nat.le_refl _) _).block g hlt
      rw [World.cell?_of_block (w := w) e3]
      exact h0
theorem wpList_app2 {ops : Array Oper} {rest : List Oper} {o : Oper} {a : Act} {Q : Exit → Act → World → Prop} (ty : SlTy P S E z size bytes) (hgd : o.guard = none) (s x : Operand)
    (ho : o.op = .call { callee := .builtin .append, args := #[s, x], argTypes := #[S, S] })
    (v : Value) (n : Nat) (xs : List Value) (hs : a.eval s = v) (hown : Row w E size v n xs)
    (ad : Addr) (m c : Nat) (news : List Value) (hx : a.eval x = .slice (some ad) m c) (hl : news.length = m * size) (hnews : ∀ j u, news[j]? = some u → w.cell? (ad.add j) = some u) (h1 : ∀ u ∈ news, u.oneCell' = true)
    (h63 : n + m ≤ maxLen) (hbytes : (n + m) * bytes ≤ 140737488355328)
    (h : ∀ v' w', Row w' E size v' (n + m) (xs ++ news) → Upd w w' v.ownBlock v'.ownBlock → (∀ g, v.ownBlock = some g → ∀ j u, xs[j]? = some u → w'.cell? ⟨g, j, none⟩ = some u) → wpList P ops Q rest (a.put o.dst v') w') : wpList P ops Q (o :: rest) a w :=
  wpList_plain hgd fun _ hK => by
    obtain ⟨v', w', hr, h2, h3, h4⟩ := run_app2 (w := w) ty o.type v n xs hown ad m c news hl hnews h1 h63 hbytes
    unfold Oper.wp execOp
    simp only [ho, resolve, invoke, builtin, Sem.run_bind, Sem.run_pure, Result.andThen_ok, List.map_toArray, List.map_cons, List.map_nil, hs, hx, hr]
    exact hK _ _ (h v' w' h2 h3 h4)
theorem step_app2 {ops : Array Oper} {o : Oper} {a : Act} {K : Act → World → Prop} {Q : Exit → Act → World → Prop} {F : Prop} (ty : SlTy P S E z size bytes) (hgd : o.guard = none) (s x : Operand)
    (ho : o.op = .call { callee := .builtin .append, args := #[s, x], argTypes := #[S, S] })
    (v : Value) (n : Nat) (xs : List Value) (hs : a.eval s = v) (hown : Row w E size v n xs)
    (ad : Addr) (m c : Nat) (news : List Value) (hx : a.eval x = .slice (some ad) m c) (hl : news.length = m * size) (hnews : ∀ j u, news[j]? = some u → w.cell? (ad.add j) = some u) (h1 : ∀ u ∈ news, u.oneCell' = true)
    (h63 : n + m ≤ maxLen) (hbytes : (n + m) * bytes ≤ 140737488355328)
    (h : ∀ v' w', Row w' E size v' (n + m) (xs ++ news) → Upd w w' v.ownBlock v'.ownBlock → (∀ g, v.ownBlock = some g → ∀ j u, xs[j]? = some u → w'.cell? ⟨g, j, none⟩ = some u) → K (a.put o.dst v') w') :
    if Region.wanted o (yielded ops a.tmps) = true then Oper.wp P o a w K Q else F := by
  have hw : Region.wanted o (yielded ops a.tmps) = true := by simp [Region.wanted, hgd]
  rw [if_pos hw]
  obtain ⟨v', w', hr, h2, h3, h4⟩ := run_app2 (w := w) ty o.type v n xs hown ad m c news hl hnews h1 h63 hbytes
  unfold Oper.wp execOp
  simp only [ho, resolve, invoke, builtin, Sem.run_bind, Sem.run_pure, Result.andThen_ok, List.map_toArray, List.map_cons, List.map_nil, hs, hx, hr]
  exact h _ _ h2 h3 h4
end
/-- the value that apart writes -/
def markV (q : Int) : List Value := [.int .i64 0, .int .i64 q, .string ⟨#[]⟩, .slice none 0 0, .slice none 0 0]
def marks (q : Int) : Nat → List Value
  | 0 => []
  | n + 1 => marks q n ++ markV q
theorem marks_len (q : Int) (n : Nat) : (marks q n).length = n * 5 := by
  induction n with
  | zero => rfl
  | succ n ih => rw [marks, List.length_append, ih]; simp only [markV, List.length_cons, List.length_nil]; omega
theorem set5_take {ys ms : List Value} {p : Nat} {a b c d e : Value} (h : ys.take p = ms) (hl : p + 5 ≤ ys.length) :
    (((((ys.set p a).set (p + 1) b).set (p + 2) c).set (p + 3) d).set (p + 4) e).take (p + 5) = ms ++ [a, b, c, d, e] := by
  subst h
  apply List.ext_getElem?
  intro i
  by_cases hi : i < p
  · rw [List.getElem?_take, if_pos (by omega), List.getElem?_append_left (by rw [List.length_take]; omega), List.getElem?_take, if_pos hi]
    rw [List.getElem?_set_ne (by omega), List.getElem?_set_ne (by omega), List.getElem?_set_ne (by omega), List.getElem?_set_ne (by omega), List.getElem?_set_ne (by omega)]
  · rw [List.getElem?_append_right (by rw [List.length_take]; omega), List.length_take, Nat.min_eq_left (by omega)]
    by_cases h5 : i < p + 5
    · rw [List.getElem?_take, if_pos h5]
      have : i = p ∨ i = p + 1 ∨ i = p + 2 ∨ i = p + 3 ∨ i = p + 4 := by omega
      rcases this with rfl | rfl | rfl | rfl | rfl <;> simp [List.getElem?_set] <;> omega
    · rw [List.getElem?_take, if_neg h5, List.getElem?_eq_none (by simp; omega)]
theorem set1_take {ys ms : List Value} {p : Nat} {a : Value} (h : ys.take p = ms) (hl : p + 1 ≤ ys.length) : (ys.set p a).take (p + 1) = ms ++ [a] := by
  subst h
  apply List.ext_getElem?
  intro i
  by_cases hi : i < p
  · rw [List.getElem?_take, if_pos (by omega), List.getElem?_append_left (by rw [List.length_take]; omega), List.getElem?_take, if_pos hi]
    rw [List.getElem?_set_ne (by omega)]
  · rw [List.getElem?_append_right (by rw [List.length_take]; omega), List.length_take, Nat.min_eq_left (by omega)]
    by_cases h5 : i < p + 1
    · rw [List.getElem?_take, if_pos h5]
      obtain rfl : i = p := by omega
      simp [List.getElem?_set]
      omega
    · rw [List.getElem?_take, if_neg h5, List.getElem?_eq_none (by simp; omega)]
/-- the text of a number -/
def dg (q : Nat) : Value := .string ⟨(Lib.itoa (q : Int)).toArray⟩
theorem marks_at (q : Int) : ∀ {n k : Nat}, k < n → (marks q n)[k * 5 + 1]? = some (.int .i64 q)
  | n + 1, k, h => by
    rw [marks]
    by_cases hk : k < n
    · rw [List.getElem?_append_left (by rw [marks_len]; omega)]
      exact marks_at q hk
    · obtain rfl : k = n := by omega
      rw [List.getElem?_append_right (by rw [marks_len]; omega), marks_len, Nat.add_sub_cancel_left]
      rfl
theorem own_dis : ∀ {hs : List Hd}, (hs.flatMap Hd.own).Nodup → ∀ {i j : Nat} {x y : Hd}, hs[i]? = some x → hs[j]? = some y → i ≠ j → ∀ b ∈ x.own, b ∉ y.own
  | [], _, i, _, _, _, hx, _, _ => by simp at hx
  | z :: hs, h, i, j, x, y, hx, hy, hne => by
    rw [List.flatMap_cons, List.nodup_append] at h
    obtain ⟨_, h2, h3⟩ := h
    intro b hb hc
    match i, j with
    | 0, 0 => exact hne rfl
    | 0, j + 1 =>
      simp only [List.getElem?_cons_zero, Option.some.injEq] at hx
      subst hx
      rw [List.getElem?_cons_succ] at hy
      exact h3 b hb b (List.mem_flatMap.2 ⟨y, List.mem_of_getElem? hy, hc⟩) rfl
    | i + 1, 0 =>
      simp only [List.getElem?_cons_zero, Option.some.injEq] at hy
      subst hy
      rw [List.getElem?_cons_succ] at hx
      exact h3 b hc b (List.mem_flatMap.2 ⟨x, List.mem_of_getElem? hx, hb⟩) rfl
    | i + 1, j + 1 =>
      rw [List.getElem?_cons_succ] at hx hy
      exact own_dis h2 hx hy (by omega) b hb hc
theorem own_mem {hs : List Hd} {i : Nat} {x : Hd} (hx : hs[i]? = some x) : ∀ b ∈ x.own, b ∈ hs.flatMap Hd.own :=
  fun _ hb => List.mem_flatMap.2 ⟨x, List.mem_of_getElem? hx, hb⟩
theorem cells_at : ∀ {hs : List Hd} {i : Nat} {x : Hd}, hs[i]? = some x → ∀ (j : Nat) (u : Value), x.cells[j]? = some u → (hs.flatMap Hd.cells)[i * 5 + j]? = some u
  | [], i, x, hx, _, _, _ => by simp at hx
  | z :: hs, 0, x, hx, j, u, hu => by
    simp only [List.getElem?_cons_zero, Option.some.injEq] at hx
    subst hx
    rw [List.flatMap_cons, List.getElem?_append_left (by have := (List.getElem?_eq_some_iff.1 hu).1; omega)]
    simpa using hu
  | z :: hs, i + 1, x, hx, j, u, hu => by
    rw [List.getElem?_cons_succ] at hx
    rw [List.flatMap_cons, List.getElem?_append_right (by simp only [Hd.cells, List.length_cons, List.length_nil]; omega)]
    have := cells_at hx j u hu
    rw [← this]
    congr 1
    simp only [Hd.cells, List.length_cons, List.length_nil]
    omega
/-- the cells of a handle in a row of handles -/
theorem hd_lie {w : World} {hs : List Hd} {a : Option Addr} {n c i : Nat} {x : Hd} (hr : Row w 28 5 (.slice a n c) n (hs.flatMap Hd.cells)) (hx : hs[i]? = some x) :
    ∃ g, a = some ⟨g, 0, none⟩ ∧ Lie w g (i * 5) x.cells := by
  have hl := hr.1
  rw [Hd.len] at hl
  have hi := (List.getElem?_eq_some_iff.1 hx).1
  obtain ⟨a0, c0, hf, _, _, hf3⟩ := hr.form
  injection hf with e1 _ e2
  subst e1; subst e2
  rcases hf3 with ⟨_, h0, _⟩ | ⟨g, hg0, _, hgl, hlie⟩
  · omega
  exact ⟨g, hg0, fun j u hu => by have := hlie (i * 5 + j) u (cells_at hx j u hu); simpa using this⟩
/-- a handle's lists are written whole with the number q -/
def Full (w : World) (q : Nat) (h : Hd) : Prop := Row w 9 1 (.slice h.an h.nn h.cn) h.nn (List.replicate h.nn (dg q)) ∧ Row w 28 5 (.slice h.ai h.mm h.ci) h.mm (marks (q : Int) h.mm)
/-- what of it is read -/
structure Mk (w : World) (q : Nat) (h : Hd) : Prop where
  n : ∀ k, k < h.nn → ∃ g, h.an = some ⟨g, 0, none⟩ ∧ w.cell? ⟨g, k, none⟩ = some (dg q)
  i : ∀ k, k < h.mm → ∃ g, h.ai = some ⟨g, 0, none⟩ ∧ w.cell? ⟨g, k * 5 + 1, none⟩ = some (.int .i64 (q : Int))
theorem own_n {h : Hd} {g : Nat} (e : h.an = some ⟨g, 0, none⟩) : g ∈ h.own := by unfold Hd.own; rw [e]; simp [ownA]
theorem own_i {h : Hd} {g : Nat} (e : h.ai = some ⟨g, 0, none⟩) : g ∈ h.own := by unfold Hd.own; rw [e]; simp [ownA]
theorem Mk.keep {w w' : World} {q : Nat} {h : Hd} (k : Mk w q h) (hb : ∀ b ∈ h.own, b < w.heap.size → w'.heap[b]? = w.heap[b]?) : Mk w' q h := by
  refine ⟨fun j hj => ?_, fun j hj => ?_⟩
  · obtain ⟨g, e, hc⟩ := k.n j hj
    exact ⟨g, e, by rw [World.cell?_of_block (w := w) (hb g (own_n e) (cell_lt hc))]; exact hc⟩
  · obtain ⟨g, e, hc⟩ := k.i j hj
    exact ⟨g, e, by rw [World.cell?_of_block (w := w) (hb g (own_i e) (cell_lt hc))]; exact hc⟩
theorem Mk.below {w w' : World} {q : Nat} {h : Hd} (k : Mk w q h) (hb : Below w.heap.size w w') : Mk w' q h := k.keep (fun b _ hl => hb.block b hl)
theorem row_at {w : World} {E size n c : Nat} {a : Option Addr} {xs : List Value} (h : Row w E size (.slice a n c) n xs) (hp : 0 < n) : ∃ g, a = some ⟨g, 0, none⟩ ∧ Lie w g 0 xs := by
  obtain ⟨a0, c0, hf, _, _, hf3⟩ := h.form
  injection hf with e1 _ e2
  subst e1; subst e2
  rcases hf3 with ⟨_, h0, _⟩ | ⟨g, hg0, _, hgl, hlie⟩
  · omega
  exact ⟨g, hg0, hlie⟩
theorem mk_of {w : World} {q : Nat} {h : Hd} {xs ys : List Value} (hn : ∀ k, k < h.nn → ∃ g, h.an = some ⟨g, 0, none⟩ ∧ Lie w g 0 xs) (hx : ∀ k, k < h.nn → xs[k]? = some (dg q))
    (hi : ∀ k, k < h.mm → ∃ g, h.ai = some ⟨g, 0, none⟩ ∧ Lie w g 0 ys) (hy : ∀ k, k < h.mm → ys[k * 5 + 1]? = some (.int .i64 (q : Int))) : Mk w q h := by
  refine ⟨fun k hk => ?_, fun k hk => ?_⟩
  · obtain ⟨g, e, hl⟩ := hn k hk
    have := hl k _ (hx k hk)
    exact ⟨g, e, by simpa using this⟩
  · obtain ⟨g, e, hl⟩ := hi k hk
    have := hl (k * 5 + 1) _ (hy k hk)
    exact ⟨g, e, by simpa using this⟩
theorem Full.mk {w : World} {q : Nat} {h : Hd} (k : Full w q h) : Mk w q h :=
  mk_of (fun j hj => row_at k.1 (by omega)) (fun j hj => by rw [List.getElem?_replicate, if_pos hj]) (fun j hj => row_at k.2 (by omega)) (fun j hj => marks_at _ hj)
theorem Full.keep {w w' : World} {q : Nat} {h : Hd} (k : Full w q h) (hb : ∀ b ∈ h.own, b < w.heap.size → w'.heap[b]? = w.heap[b]?) : Full w' q h :=
  ⟨k.1.same (fun g hg => hb g (by simp [Hd.own, ownA_mem hg]) (k.1.lt hg)), k.2.same (fun g hg => hb g (by simp [Hd.own, ownA_mem hg]) (k.2.lt hg))⟩
theorem Hd.ok.keep {w w' : World} {h : Hd} (k : h.ok w) (hb : ∀ b ∈ h.own, b < w.heap.size → w'.heap[b]? = w.heap[b]?) : h.ok w' := by
  obtain ⟨⟨xs, hx⟩, ⟨ys, hy⟩, hl⟩ := k
  exact ⟨⟨xs, hx.same (fun g hg => hb g (by simp [Hd.own, ownA_mem hg]) (hx.lt hg))⟩, ⟨ys, hy.same (fun g hg => hb g (by simp [Hd.own, ownA_mem hg]) (hy.lt hg))⟩, hl⟩
/-- the first loop of apart: the handles ahead of i are written -/
structure ApA (w0 : World) (hs : List Hd) (a : Option Addr) (c i : Nat) (w : World) : Prop where
  turn : Turn (fun g => g ∈ hs.flatMap Hd.own) w0 w
  row : Row w 28 5 (.slice a hs.length c) hs.length (hs.flatMap Hd.cells)
  done : ∀ q x, hs[q]? = some x → q < i → Full w q x
  ok : ∀ q x, hs[q]? = some x → i ≤ q → x.ok w
theorem ApA.next {w0 w w' : World} {hs : List Hd} {a : Option Addr} {c i : Nat} {x : Hd} (h : ApA w0 hs a c i w) (hx : hs[i]? = some x) (hnd : (hs.flatMap Hd.own).Nodup) (ha : ∀ b ∈ ownA a, b ∉ hs.flatMap Hd.own)
    (ht : Turn (fun g => g ∈ x.own) w w') (hf : Full w' i x) : ApA w0 hs a c (i + 1) w' := by
  refine ⟨h.turn.trans (ht.weak (fun g hg => .inl (own_mem hx g hg))), h.row.same (fun g hg => ht.block g (h.row.lt hg) (fun e => ha g (ownA_mem hg) (own_mem hx g e))), fun q y hy hq => ?_, fun q y hy hq => ?_⟩
  · by_cases e : q = i
    · subst e
      rw [hx] at hy
      injection hy with hy
      subst hy
      exact hf
    · exact (h.done q y hy (by omega)).keep (fun b hb hl => ht.block b hl (fun e2 => own_dis hnd hy hx e b hb e2))
  · exact (h.ok q y hy (by omega)).keep (fun b hb hl => ht.block b hl (fun e2 => own_dis hnd hy hx (by omega) b hb e2))
/-- the items of one handle are written, ahead of k -/
structure ApI (w0 : World) (x : Hd) (q k : Nat) (w : World) : Prop where
  turn : Turn (fun g => g ∈ x.own) w0 w
  nrow : ∃ xs, Row w 9 1 (.slice x.an x.nn x.cn) x.nn xs
  irow : ∃ ys, Row w 28 5 (.slice x.ai x.mm x.ci) x.mm ys ∧ ys.take (k * 5) = marks (q : Int) k
theorem ApI.set {w0 w : World} {x : Hd} {q k g : Nat} (h : ApI w0 x q k w) (hg : x.ai = some ⟨g, 0, none⟩) (hk : k < x.mm) :
    ApI w0 x q (k + 1) (((((w.setCell ⟨g, k * 5, none⟩ (.int .i64 0)).setCell ⟨g, k * 5 + 1, none⟩ (.int .i64 (q : Int))).setCell ⟨g, k * 5 + 2, none⟩ (.string ⟨#[]⟩)).setCell ⟨g, k * 5 + 3, none⟩ (.slice none 0 0)).setCell ⟨g, k * 5 + 4, none⟩ (.slice none 0 0)) := by
  obtain ⟨xs, hx⟩ := h.nrow
  obtain ⟨ys, hy, htk⟩ := h.irow
  have ho := own_i hg
  have hyl := hy.1
  rw [hg] at hy
  have hy5 := (World.ownsRow.stored (World.ownsRow.stored (World.ownsRow.stored (World.ownsRow.stored (World.ownsRow.stored hy (k * 5) (.int .i64 0)).1 (k * 5 + 1) (.int .i64 (q : Int))).1 (k * 5 + 2) (.string ⟨#[]⟩)).1 (k * 5 + 3) (.slice none 0 0)).1 (k * 5 + 4) (.slice none 0 0)).1
  refine ⟨((((h.turn.set (.inl ho) _ _).set (.inl ho) _ _).set (.inl ho) _ _).set (.inl ho) _ _).set (.inl ho) _ _, ⟨xs, hx.same (fun b hb => ?_)⟩, _, by rw [hg]; exact hy5, ?_⟩
  · have hne : b ≠ g := fun e => own_ty hx hy (by decide) hb (by rw [e]; rfl)
    rw [heap_setCell_other _ ⟨g, _, none⟩ b _ hne, heap_setCell_other _ ⟨g, _, none⟩ b _ hne, heap_setCell_other _ ⟨g, _, none⟩ b _ hne, heap_setCell_other _ ⟨g, _, none⟩ b _ hne, heap_setCell_other _ ⟨g, _, none⟩ b _ hne]
  · rw [Nat.add_mul, marks]
    exact set5_take htk (by omega)
/-- the names of one handle are written, ahead of k; its items are -/
structure ApN (w0 : World) (x : Hd) (q k : Nat) (w : World) : Prop where
  turn : Turn (fun g => g ∈ x.own) w0 w
  nrow : ∃ xs, Row w 9 1 (.slice x.an x.nn x.cn) x.nn xs ∧ xs.take k = List.replicate k (dg q)
  irow : Row w 28 5 (.slice x.ai x.mm x.ci) x.mm (marks (q : Int) x.mm)
theorem ApI.names {w0 w : World} {x : Hd} {q : Nat} (h : ApI w0 x q x.mm w) : ApN w0 x q 0 w := by
  obtain ⟨xs, hx⟩ := h.nrow
  obtain ⟨ys, hy, htk⟩ := h.irow
  have hl := hy.1
  refine ⟨h.turn, ⟨xs, hx, rfl⟩, ?_⟩
  rw [List.take_of_length_le (by omega)] at htk
  rw [← htk]
  exact hy
theorem ApN.set {w0 w w1 : World} {x : Hd} {q k g : Nat} (h : ApN w0 x q k w) (hg : x.an = some ⟨g, 0, none⟩) (hk : k < x.nn) (hb : Below w.heap.size w w1) : ApN w0 x q (k + 1) (w1.setCell ⟨g, k, none⟩ (dg q)) := by
  obtain ⟨xs, hx, htk⟩ := h.nrow
  have hi := h.irow.below hb
  have hx := hx.below hb
  have hl := hx.1
  have ho := own_n hg
  rw [hg] at hx
  refine ⟨(h.turn.trans (Turn.of_below hb)).set (.inl ho) _ _, ⟨_, by rw [hg]; exact (World.ownsRow.stored hx k (dg q)).1, ?_⟩, hi.same (fun b hb => heap_setCell_other _ ⟨g, k, none⟩ b _ (fun e => own_ty hx hi (by decide) (by rw [e]; rfl) hb))⟩
  rw [List.replicate_succ']
  exact set1_take htk (by omega)
theorem ApN.full {w0 w : World} {x : Hd} {q : Nat} (h : ApN w0 x q x.nn w) : Full w q x := by
  obtain ⟨xs, hx, htk⟩ := h.nrow
  have hl := hx.1
  rw [List.take_of_length_le (by omega)] at htk
  exact ⟨by rw [← htk]; exact hx, h.irow⟩
end Go.Proofs.YtbkbokfegjodnaaDoor
