/- The walk of apart. Conditions: what the laws name. -/
import Derived.Test.YtbkbokfegjodnaaDoorUnder
import Derived.Test.YtbkbokfegjodnaaDoorDigw
namespace Go.Proofs.YtbkbokfegjodnaaDoor
open Go.RowKit
theorem Row.first {w : World} {E size n m c : Nat} {a : Option Addr} {xs : List Value} (h : Row w E size (.slice a (n + m) c) (n + m) xs) : Row w E size (.slice a n c) n (xs.take (n * size)) := by
  have hl := h.1
  refine ⟨by rw [List.length_take, hl, Nat.add_mul]; omega, ?_⟩
  rcases h.2 with ⟨e, h0⟩ | ⟨g, cap, cur, e, hb, hg, hnc, hcm, hcs, htk⟩
  · injection e with e1 e2 e3
    subst e1; subst e3
    have : n = 0 := by omega
    subst this
    exact .inl ⟨rfl, rfl⟩
  · injection e with e1 _ e3
    subst e1; subst e3
    refine .inr ⟨g, c, cur, rfl, hb, hg, by omega, hcm, hcs, ?_⟩
    rw [← htk, List.take_take, Nat.min_eq_left (Nat.mul_le_mul_right _ (by omega))]
section
variable {P : Program} {S E : TypeId} {z : Value} {size bytes : Nat} {w : World}
/-- an append: the old cells stay -/
theorem run_app2 (ty : SlTy P S E z size bytes) (tt : TypeId) (v : Value) (n : Nat) (xs : List Value) (hown : Row w E size v n xs) (a : Addr) (m c : Nat) (news : List Value) (hl : news.length = m * size)
    (hnews : ∀ j u, news[j]? = some u → w.cell? (a.add j) = some u) (h1 : ∀ u ∈ news, u.oneCell' = true) (h63 : n + m ≤ maxLen) (hbytes : (n + m) * bytes ≤ 140737488355328) :
    ∃ v' w', (Builtin.append_ #[S, S] tt #[v, .slice (some a) m c]).run P w = .ok v' w' ∧ Row w' E size v' (n + m) (xs ++ news) ∧ Upd w w' v.ownBlock v'.ownBlock ∧
      ∀ g, v.ownBlock = some g → ∀ j u, xs[j]? = some u → w'.cell? ⟨g, j, none⟩ = some u := by
  obtain ⟨i0, hi, hz0, hz1, hz2⟩ := info_parts ty.info
  obtain ⟨v', w', hr, h2, h3⟩ := run_app (w := w) ty tt v n xs hown a m c news hl hnews h1 h63 hbytes
  refine ⟨v', w', hr, h2, h3, fun b hb j u hu => ?_⟩
  have hsz := hown.1
  have add0 : ∀ j, (⟨b, 0, none⟩ : Addr).add j = ⟨b, j, none⟩ := fun j => by unfold Addr.add; split <;> simp_all
  rcases hown.2 with ⟨rfl, rfl⟩ | ⟨g, cap, cur, rfl, _, hg, hnc, hcm, hcs, htake⟩
  · cases hb
  · injection hb with hb
    subst hb
    have hold : ∀ j u, xs[j]? = some u → w.cell? ((⟨g, 0, none⟩ : Addr).add j) = some u := World.ownsRow.cells hown (g := g) rfl
    by_cases hroom : n + m ≤ cap
    · have hfit : n * i0.size + news.length ≤ cur.size := by rw [hl, hcs, hz1, ← Nat.add_mul]; exact Nat.mul_le_mul_right _ hroom
      have hr2 := run_append_room (P := P) w S tt E i0 ty.slice hi g n cap cur hg a m c news (by rw [hz1]; exact hl) hnews h1 hroom hfit
      rw [hr] at hr2
      injection hr2 with e1 e2
      have := World.ownsRow.cells h2 (g := g) (by rw [e1]; rfl) j u (by rw [List.getElem?_append_left (List.getElem?_eq_some_iff.1 hu).1]; exact hu)
      rw [add0] at this
      exact this
    · have hr2 := run_append_grow (P := P) w S tt E i0 z ty.slice hi hz0 ⟨g, 0, none⟩ n cap xs (by rw [hz1]; exact hsz) hold a m c news (by rw [hz1]; exact hl) hnews (by omega) (by unfold maxLen at h63; omega) (growslice_fits (by omega) (by rw [hz2]; exact hbytes))
      rw [hr] at hr2
      injection hr2 with e1 e2
      have h0 := hold j u hu
      rw [add0] at h0
      have hlt := cell_lt h0
      have e3 : w'.heap[g]? = w.heap[g]? := by
        rw [e2]
        exact ((Below.drew (Below.refl w.heap.size w)).alloc (Nat.le_refl _) _).block g hlt
      rw [World.cell?_of_block (w := w) e3]
      exact h0
theorem wpList_app2 {ops : Array Oper} {rest : List Oper} {o : Oper} {a : Act} {Q : Exit → Act → World → Prop} (ty : SlTy P S E z size bytes) (hgd : o.guard = none) (s x : Operand)
    (ho : o.op = .call { callee := .builtin .append, args := #[s, x], argTypes := #[S, S] })
    (v : Value) (n : Nat) (xs : List Value) (hs : a.eval s = v) (hown : Row w E size v n xs)
    (ad : Addr) (m c : Nat) (news : List Value) (hx : a.eval x = .slice (some ad) m c) (hl : news.length = m * size) (hnews : ∀ j u, news[j]? = some u → w.cell? (ad.add j) = some u) (h1 : ∀ u ∈ news, u.oneCell' = true)
    (h63 : n + m ≤ maxLen) (hbytes : (n + m) * bytes ≤ 140737488355328)
    (h : ∀ v' w', Row w' E size v' (n + m) (xs ++ news) → Upd w w' v.ownBlock v'.ownBlock → (∀ g, v.ownBlock = some g → ∀ j u, xs[j]? = some u → w'.cell? ⟨g, j, none⟩ = some u) → wpList P ops Q rest (a.put o.dst v') w') : wpList P ops Q (o :: rest) a w :=
  wpList_plain hgd fun _ hK => by
    obtain ⟨v', w', hr, h2, h3, h4⟩ := run_app2 (w := w) ty o.type v n xs hown ad m c news hl hnews h1 h63 hbytes
    unfold Oper.wp execOp
    simp only [ho, resolve, invoke, builtin, Sem.run_bind, Sem.run_pure, Result.andThen_ok, List.map_toArray, List.map_cons, List.map_nil, hs, hx, hr]
    exact hK _ _ (h v' w' h2 h3 h4)
theorem step_app2 {ops : Array Oper} {o : Oper} {a : Act} {K : Act → World → Prop} {Q : Exit → Act → World → Prop} {F : Prop} (ty : SlTy P S E z size bytes) (hgd : o.guard = none) (s x : Operand)
    (ho : o.op = .call { callee := .builtin .append, args := #[s, x], argTypes := #[S, S] })
    (v : Value) (n : Nat) (xs : List Value) (hs : a.eval s = v) (hown : Row w E size v n xs)
    (ad : Addr) (m c : Nat) (news : List Value) (hx : a.eval x = .slice (some ad) m c) (hl : news.length = m * size) (hnews : ∀ j u, news[j]? = some u → w.cell? (ad.add j) = some u) (h1 : ∀ u ∈ news, u.oneCell' = true)
    (h63 : n + m ≤ maxLen) (hbytes : (n + m) * bytes ≤ 140737488355328)
    (h : ∀ v' w', Row w' E size v' (n + m) (xs ++ news) → Upd w w' v.ownBlock v'.ownBlock → (∀ g, v.ownBlock = some g → ∀ j u, xs[j]? = some u → w'.cell? ⟨g, j, none⟩ = some u) → K (a.put o.dst v') w') :
    if Region.wanted o (yielded ops a.tmps) = true then Oper.wp P o a w K Q else F := by
  have hw : Region.wanted o (yielded ops a.tmps) = true := by simp [Region.wanted, hgd]
  rw [if_pos hw]
  obtain ⟨v', w', hr, h2, h3, h4⟩ := run_app2 (w := w) ty o.type v n xs hown ad m c news hl hnews h1 h63 hbytes
  unfold Oper.wp execOp
  simp only [ho, resolve, invoke, builtin, Sem.run_bind, Sem.run_pure, Result.andThen_ok, List.map_toArray, List.map_cons, List.map_nil, hs, hx, hr]
  exact h _ _ h2 h3 h4
end
/-- the value that apart writes -/
def markV (q : Int) : List Value := [.int .i64 0, .int .i64 q, .string ⟨#[]⟩, .slice none 0 0, .slice none 0 0]
def marks (q : Int) : Nat → List Value
  | 0 => []
  | n + 1 => marks q n ++ markV q
theorem marks_len (q : Int) (n : Nat) : (marks q n).length = n * 5 := by
  induction n with
  | zero => rfl
  | succ n ih => rw [marks, List.length_append, ih]; simp only [markV, List.length_cons, List.length_nil]; omega
theorem set5_take {ys ms : List Value} {p : Nat} {a b c d e : Value} (h : ys.take p = ms) (hl : p + 5 ≤ ys.length) :
    (((((ys.set p a).set (p + 1) b).set (p + 2) c).set (p + 3) d).set (p + 4) e).take (p + 5) = ms ++ [a, b, c, d, e] := by
  subst h
  apply List.ext_getElem?
  intro i
  by_cases hi : i < p
  · rw [List.getElem?_take, if_pos (by omega), List.getElem?_append_left (by rw [List.length_take]; omega), List.getElem?_take, if_pos hi]
    rw [List.getElem?_set_ne (by omega), List.getElem?_set_ne (by omega), List.getElem?_set_ne (by omega), List.getElem?_set_ne (by omega), List.getElem?_set_ne (by omega)]
  · rw [List.getElem?_append_right (by rw [List.length_take]; omega), List.length_take, Nat.min_eq_left (by omega)]
    by_cases h5 : i < p + 5
    · rw [List.getElem?_take, if_pos h5]
      have : i = p ∨ i = p + 1 ∨ i = p + 2 ∨ i = p + 3 ∨ i = p + 4 := by omega
      rcases this with rfl | rfl | rfl | rfl | rfl <;> simp [List.getElem?_set] <;> omega
    · rw [List.getElem?_take, if_neg h5, List.getElem?_eq_none (by simp; omega)]
theorem set1_take {ys ms : List Value} {p : Nat} {a : Value} (h : ys.take p = ms) (hl : p + 1 ≤ ys.length) : (ys.set p a).take (p + 1) = ms ++ [a] := by
  subst h
  apply List.ext_getElem?
  intro i
  by_cases hi : i < p
  · rw [List.getElem?_take, if_pos (by omega), List.getElem?_append_left (by rw [List.length_take]; omega), List.getElem?_take, if_pos hi]
    rw [List.getElem?_set_ne (by omega)]
  · rw [List.getElem?_append_right (by rw [List.length_take]; omega), List.length_take, Nat.min_eq_left (by omega)]
    by_cases h5 : i < p + 1
    · rw [List.getElem?_take, if_pos h5]
      obtain rfl : i = p := by omega
      simp [List.getElem?_set]
      omega
    · rw [List.getElem?_take, if_neg h5, List.getElem?_eq_none (by simp; omega)]
/-- the text of a number -/
def dg (q : Nat) : Value := .string ⟨(Lib.itoa (q : Int)).toArray⟩
theorem marks_at (q : Int) : ∀ {n k : Nat}, k < n → (marks q n)[k * 5 + 1]? = some (.int .i64 q)
  | n + 1, k, h => by
    rw [marks]
    by_cases hk : k < n
    · rw [List.getElem?_append_left (by rw [marks_len]; omega)]
      exact marks_at q hk
    · obtain rfl : k = n := by omega
      rw [List.getElem?_append_right (by rw [marks_len]; omega), marks_len, Nat.add_sub_cancel_left]
      rfl
theorem own_dis : ∀ {hs : List Hd}, (hs.flatMap Hd.own).Nodup → ∀ {i j : Nat} {x y : Hd}, hs[i]? = some x → hs[j]? = some y → i ≠ j → ∀ b ∈ x.own, b ∉ y.own
  | [], _, i, _, _, _, hx, _, _ => by simp at hx
  | z :: hs, h, i, j, x, y, hx, hy, hne => by
    rw [List.flatMap_cons, List.nodup_append] at h
    obtain ⟨_, h2, h3⟩ := h
    intro b hb hc
    match i, j with
    | 0, 0 => exact hne rfl
    | 0, j + 1 =>
      simp only [List.getElem?_cons_zero, Option.some.injEq] at hx
      subst hx
      rw [List.getElem?_cons_succ] at hy
      exact h3 b hb b (List.mem_flatMap.2 ⟨y, List.mem_of_getElem? hy, hc⟩) rfl
    | i + 1, 0 =>
      simp only [List.getElem?_cons_zero, Option.some.injEq] at hy
      subst hy
      rw [List.getElem?_cons_succ] at hx
      exact h3 b hc b (List.mem_flatMap.2 ⟨x, List.mem_of_getElem? hx, hb⟩) rfl
    | i + 1, j + 1 =>
      rw [List.getElem?_cons_succ] at hx hy
      exact own_dis h2 hx hy (by omega) b hb hc
theorem own_mem {hs : List Hd} {i : Nat} {x : Hd} (hx : hs[i]? = some x) : ∀ b ∈ x.own, b ∈ hs.flatMap Hd.own :=
  fun _ hb => List.mem_flatMap.2 ⟨x, List.mem_of_getElem? hx, hb⟩
theorem cells_at : ∀ {hs : List Hd} {i : Nat} {x : Hd}, hs[i]? = some x → ∀ (j : Nat) (u : Value), x.cells[j]? = some u → (hs.flatMap Hd.cells)[i * 5 + j]? = some u
  | [], i, x, hx, _, _, _ => by simp at hx
  | z :: hs, 0, x, hx, j, u, hu => by
    simp only [List.getElem?_cons_zero, Option.some.injEq] at hx
    subst hx
    rw [List.flatMap_cons, List.getElem?_append_left (by have := (List.getElem?_eq_some_iff.1 hu).1; omega)]
    simpa using hu
  | z :: hs, i + 1, x, hx, j, u, hu => by
    rw [List.getElem?_cons_succ] at hx
    rw [List.flatMap_cons, List.getElem?_append_right (by simp only [Hd.cells, List.length_cons, List.length_nil]; omega)]
    have := cells_at hx j u hu
    rw [← this]
    congr 1
    simp only [Hd.cells, List.length_cons, List.length_nil]
    omega
/-- the cells of a handle in a row of handles -/
theorem hd_lie {w : World} {hs : List Hd} {a : Option Addr} {n c i : Nat} {x : Hd} (hr : Row w 28 5 (.slice a n c) n (hs.flatMap Hd.cells)) (hx : hs[i]? = some x) :
    ∃ g, a = some ⟨g, 0, none⟩ ∧ Lie w g (i * 5) x.cells := by
  have hl := hr.1
  rw [Hd.len] at hl
  have hi := (List.getElem?_eq_some_iff.1 hx).1
  obtain ⟨a0, c0, hf, _, _, hf3⟩ := hr.form
  injection hf with e1 _ e2
  subst e1; subst e2
  rcases hf3 with ⟨_, h0, _⟩ | ⟨g, hg0, _, hgl, hlie⟩
  · omega
  exact ⟨g, hg0, fun j u hu => by have := hlie (i * 5 + j) u (cells_at hx j u hu); simpa using this⟩
/-- a handle's lists are written whole with the number q -/
def Full (w : World) (q : Nat) (h : Hd) : Prop := Row w 9 1 (.slice h.an h.nn h.cn) h.nn (List.replicate h.nn (dg q)) ∧ Row w 28 5 (.slice h.ai h.mm h.ci) h.mm (marks (q : Int) h.mm)
/-- what of it is read -/
structure Mk (w : World) (q : Nat) (h : Hd) : Prop where
  n : ∀ k, k < h.nn → ∃ g, h.an = some ⟨g, 0, none⟩ ∧ w.cell? ⟨g, k, none⟩ = some (dg q)
  i : ∀ k, k < h.mm → ∃ g, h.ai = some ⟨g, 0, none⟩ ∧ w.cell? ⟨g, k * 5 + 1, none⟩ = some (.int .i64 (q : Int))
theorem own_n {h : Hd} {g : Nat} (e : h.an = some ⟨g, 0, none⟩) : g ∈ h.own := by unfold Hd.own; rw [e]; simp [ownA]
theorem own_i {h : Hd} {g : Nat} (e : h.ai = some ⟨g, 0, none⟩) : g ∈ h.own := by unfold Hd.own; rw [e]; simp [ownA]
theorem Mk.keep {w w' : World} {q : Nat} {h : Hd} (k : Mk w q h) (hb : ∀ b ∈ h.own, b < w.heap.size → w'.heap[b]? = w.heap[b]?) : Mk w' q h := by
  refine ⟨fun j hj => ?_, fun j hj => ?_⟩
  · obtain ⟨g, e, hc⟩ := k.n j hj
    exact ⟨g, e, by rw [World.cell?_of_block (w := w) (hb g (own_n e) (cell_lt hc))]; exact hc⟩
  · obtain ⟨g, e, hc⟩ := k.i j hj
    exact ⟨g, e, by rw [World.cell?_of_block (w := w) (hb g (own_i e) (cell_lt hc))]; exact hc⟩
theorem Mk.below {w w' : World} {q : Nat} {h : Hd} (k : Mk w q h) (hb : Below w.heap.size w w') : Mk w' q h := k.keep (fun b _ hl => hb.block b hl)
theorem row_at {w : World} {E size n c : Nat} {a : Option Addr} {xs : List Value} (h : Row w E size (.slice a n c) n xs) (hp : 0 < n) : ∃ g, a = some ⟨g, 0, none⟩ ∧ Lie w g 0 xs := by
  obtain ⟨a0, c0, hf, _, _, hf3⟩ := h.form
  injection hf with e1 _ e2
  subst e1; subst e2
  rcases hf3 with ⟨_, h0, _⟩ | ⟨g, hg0, _, hgl, hlie⟩
  · omega
  exact ⟨g, hg0, hlie⟩
theorem mk_of {w : World} {q : Nat} {h : Hd} {xs ys : List Value} (hn : ∀ k, k < h.nn → ∃ g, h.an = some ⟨g, 0, none⟩ ∧ Lie w g 0 xs) (hx : ∀ k, k < h.nn → xs[k]? = some (dg q))
    (hi : ∀ k, k < h.mm → ∃ g, h.ai = some ⟨g, 0, none⟩ ∧ Lie w g 0 ys) (hy : ∀ k, k < h.mm → ys[k * 5 + 1]? = some (.int .i64 (q : Int))) : Mk w q h := by
  refine ⟨fun k hk => ?_, fun k hk => ?_⟩
  · obtain ⟨g, e, hl⟩ := hn k hk
    have := hl k _ (hx k hk)
    exact ⟨g, e, by simpa using this⟩
  · obtain ⟨g, e, hl⟩ := hi k hk
    have := hl (k * 5 + 1) _ (hy k hk)
    exact ⟨g, e, by simpa using this⟩
theorem Full.mk {w : World} {q : Nat} {h : Hd} (k : Full w q h) : Mk w q h :=
  mk_of (fun j hj => row_at k.1 (by omega)) (fun j hj => by rw [List.getElem?_replicate, if_pos hj]) (fun j hj => row_at k.2 (by omega)) (fun j hj => marks_at _ hj)
theorem Full.keep {w w' : World} {q : Nat} {h : Hd} (k : Full w q h) (hb : ∀ b ∈ h.own, b < w.heap.size → w'.heap[b]? = w.heap[b]?) : Full w' q h :=
  ⟨k.1.same (fun g hg => hb g (by simp [Hd.own, ownA_mem hg]) (k.1.lt hg)), k.2.same (fun g hg => hb g (by simp [Hd.own, ownA_mem hg]) (k.2.lt hg))⟩
theorem Hd.ok.keep {w w' : World} {h : Hd} (k : h.ok w) (hb : ∀ b ∈ h.own, b < w.heap.size → w'.heap[b]? = w.heap[b]?) : h.ok w' := by
  obtain ⟨⟨xs, hx⟩, ⟨ys, hy⟩, hl⟩ := k
  exact ⟨⟨xs, hx.same (fun g hg => hb g (by simp [Hd.own, ownA_mem hg]) (hx.lt hg))⟩, ⟨ys, hy.same (fun g hg => hb g (by simp [Hd.own, ownA_mem hg]) (hy.lt hg))⟩, hl⟩
/-- the first loop of apart: the handles ahead of i are written -/
structure ApA (w0 : World) (hs : List Hd) (a : Option Addr) (c i : Nat) (w : World) : Prop where
  turn : Turn (fun g => g ∈ hs.flatMap Hd.own) w0 w
  row : Row w 28 5 (.slice a hs.length c) hs.length (hs.flatMap Hd.cells)
  done : ∀ q x, hs[q]? = some x → q < i → Full w q x
  ok : ∀ q x, hs[q]? = some x → i ≤ q → x.ok w
theorem ApA.next {w0 w w' : World} {hs : List Hd} {a : Option Addr} {c i : Nat} {x : Hd} (h : ApA w0 hs a c i w) (hx : hs[i]? = some x) (hnd : (hs.flatMap Hd.own).Nodup) (ha : ∀ b ∈ ownA a, b ∉ hs.flatMap Hd.own)
    (ht : Turn (fun g => g ∈ x.own) w w') (hf : Full w' i x) : ApA w0 hs a c (i + 1) w' := by
  refine ⟨h.turn.trans (ht.weak (fun g hg => .inl (own_mem hx g hg))), h.row.same (fun g hg => ht.block g (h.row.lt hg) (fun e => ha g (ownA_mem hg) (own_mem hx g e))), fun q y hy hq => ?_, fun q y hy hq => ?_⟩
  · by_cases e : q = i
    · subst e
      rw [hx] at hy
      injection hy with hy
      subst hy
      exact hf
    · exact (h.done q y hy (by omega)).keep (fun b hb hl => ht.block b hl (fun e2 => own_dis hnd hy hx e b hb e2))
  · exact (h.ok q y hy (by omega)).keep (fun b hb hl => ht.block b hl (fun e2 => own_dis hnd hy hx (by omega) b hb e2))
/-- the items of one handle are written, ahead of k -/
structure ApI (w0 : World) (x : Hd) (q k : Nat) (w : World) : Prop where
  turn : Turn (fun g => g ∈ x.own) w0 w
  nrow : ∃ xs, Row w 9 1 (.slice x.an x.nn x.cn) x.nn xs
  irow : ∃ ys, Row w 28 5 (.slice x.ai x.mm x.ci) x.mm ys ∧ ys.take (k * 5) = marks (q : Int) k
theorem ApI.set {w0 w : World} {x : Hd} {q k g : Nat} (h : ApI w0 x q k w) (hg : x.ai = some ⟨g, 0, none⟩) (hk : k < x.mm) :
    ApI w0 x q (k + 1) (((((w.setCell ⟨g, k * 5, none⟩ (.int .i64 0)).setCell ⟨g, k * 5 + 1, none⟩ (.int .i64 (q : Int))).setCell ⟨g, k * 5 + 2, none⟩ (.string ⟨#[]⟩)).setCell ⟨g, k * 5 + 3, none⟩ (.slice none 0 0)).setCell ⟨g, k * 5 + 4, none⟩ (.slice none 0 0)) := by
  obtain ⟨xs, hx⟩ := h.nrow
  obtain ⟨ys, hy, htk⟩ := h.irow
  have ho := own_i hg
  have hyl := hy.1
  rw [hg] at hy
  have hy5 := (World.ownsRow.stored (World.ownsRow.stored (World.ownsRow.stored (World.ownsRow.stored (World.ownsRow.stored hy (k * 5) (.int .i64 0)).1 (k * 5 + 1) (.int .i64 (q : Int))).1 (k * 5 + 2) (.string ⟨#[]⟩)).1 (k * 5 + 3) (.slice none 0 0)).1 (k * 5 + 4) (.slice none 0 0)).1
  refine ⟨((((h.turn.set (.inl ho) _ _).set (.inl ho) _ _).set (.inl ho) _ _).set (.inl ho) _ _).set (.inl ho) _ _, ⟨xs, hx.same (fun b hb => ?_)⟩, _, by rw [hg]; exact hy5, ?_⟩
  · have hne : b ≠ g := fun e => own_ty hx hy (by decide) hb (by rw [e]; rfl)
    rw [heap_setCell_other _ ⟨g, _, none⟩ b _ hne, heap_setCell_other _ ⟨g, _, none⟩ b _ hne, heap_setCell_other _ ⟨g, _, none⟩ b _ hne, heap_setCell_other _ ⟨g, _, none⟩ b _ hne, heap_setCell_other _ ⟨g, _, none⟩ b _ hne]
  · rw [Nat.add_mul, marks]
    exact set5_take htk (by omega)
/-- the names of one handle are written, ahead of k; its items are -/
structure ApN (w0 : World) (x : Hd) (q k : Nat) (w : World) : Prop where
  turn : Turn (fun g => g ∈ x.own) w0 w
  nrow : ∃ xs, Row w 9 1 (.slice x.an x.nn x.cn) x.nn xs ∧ xs.take k = List.replicate k (dg q)
  irow : Row w 28 5 (.slice x.ai x.mm x.ci) x.mm (marks (q : Int) x.mm)
theorem ApI.names {w0 w : World} {x : Hd} {q : Nat} (h : ApI w0 x q x.mm w) : ApN w0 x q 0 w := by
  obtain ⟨xs, hx⟩ := h.nrow
  obtain ⟨ys, hy, htk⟩ := h.irow
  have hl := hy.1
  refine ⟨h.turn, ⟨xs, hx, rfl⟩, ?_⟩
  rw [List.take_of_length_le (by omega)] at htk
  rw [← htk]
  exact hy
theorem ApN.set {w0 w w1 : World} {x : Hd} {q k g : Nat} (h : ApN w0 x q k w) (hg : x.an = some ⟨g, 0, none⟩) (hk : k < x.nn) (hb : Below w.heap.size w w1) : ApN w0 x q (k + 1) (w1.setCell ⟨g, k, none⟩ (dg q)) := by
  obtain ⟨xs, hx, htk⟩ := h.nrow
  have hi := h.irow.below hb
  have hx := hx.below hb
  have hl := hx.1
  have ho := own_n hg
  rw [hg] at hx
  refine ⟨(h.turn.trans (Turn.of_below hb)).set (.inl ho) _ _, ⟨_, by rw [hg]; exact (World.ownsRow.stored hx k (dg q)).1, ?_⟩, hi.same (fun b hb => heap_setCell_other _ ⟨g, k, none⟩ b _ (fun e => own_ty hx hi (by decide) (by rw [e]; rfl) hb))⟩
  rw [List.replicate_succ']
  exact set1_take htk (by omega)
theorem ApN.full {w0 w : World} {x : Hd} {q : Nat} (h : ApN w0 x q x.nn w) : Full w q x := by
  obtain ⟨xs, hx, htk⟩ := h.nrow
  have hl := hx.1
  rw [List.take_of_length_le (by omega)] at htk
  exact ⟨by rw [← htk]; exact hx, h.irow⟩
end Go.Proofs.YtbkbokfegjodnaaDoor
namespace Go.Proofs.YtbkbokfegjodnaaDoor
open Go.RowKit
/-- g, at X, holds the handle's lists, the names grown by kn, the items by ki -/
structure GrAt (w0 : World) (x : Hd) (q X kn ki : Nat) (gn : Option Addr) (gc : Nat) (gi : Option Addr) (gd : Nat) (w : World) : Prop where
  turn : Turn (fun g => g ∈ x.own) w0 w
  hX : w0.heap.size ≤ X
  lt : ∀ b ∈ x.own, b < w0.heap.size
  dis : ∀ b ∈ ownA x.an, b ∉ ownA x.ai
  c0 : w.cell? ⟨X, 0, none⟩ = some (.int .i64 0)
  c1 : w.cell? ⟨X, 1, none⟩ = some (.int .i64 0)
  c2 : w.cell? ⟨X, 2, none⟩ = some (.string ⟨#[]⟩)
  c3 : w.cell? ⟨X, 3, none⟩ = some (.slice gn (x.nn + kn) gc)
  c4 : w.cell? ⟨X, 4, none⟩ = some (.slice gi (x.mm + ki) gd)
  f3 : w.frozen? ⟨X, 3, none⟩ = false
  f4 : w.frozen? ⟨X, 4, none⟩ = false
  nrow : Row w 9 1 (.slice gn (x.nn + kn) gc) (x.nn + kn) (List.replicate (x.nn + kn) (dg q))
  irow : Row w 28 5 (.slice gi (x.mm + ki) gd) (x.mm + ki) (marks (q : Int) (x.mm + ki))
  on : ∀ b ∈ ownA gn, (b ∈ ownA x.an ∨ w0.heap.size ≤ b) ∧ b ≠ X
  oi : ∀ b ∈ ownA gi, (b ∈ ownA x.ai ∨ w0.heap.size ≤ b) ∧ b ≠ X
  old : Mk w q x
theorem GrAt.below {w0 w w' : World} {x : Hd} {q X kn ki : Nat} {gn : Option Addr} {gc : Nat} {gi : Option Addr} {gd : Nat} (h : GrAt w0 x q X kn ki gn gc gi gd w) (hb : Below w.heap.size w w') : GrAt w0 x q X kn ki gn gc gi gd w' :=
  ⟨h.turn.trans (Turn.of_below hb), h.hX, h.lt, h.dis, cell_below hb h.c0, cell_below hb h.c1, cell_below hb h.c2, cell_below hb h.c3, cell_below hb h.c4, by rw [World.frozen?_of_block (w := w) (hb.block X (cell_lt h.c3))]; exact h.f3, by rw [World.frozen?_of_block (w := w) (hb.block X (cell_lt h.c4))]; exact h.f4,
    h.nrow.below hb, h.irow.below hb, h.on, h.oi, h.old.below hb⟩
theorem marks_app (q : Int) (n : Nat) : marks q n ++ markV q = marks q (n + 1) := rfl
/-- an item has come -/
theorem GrAt.iapp {w0 w w' : World} {x : Hd} {q X kn ki : Nat} {gn : Option Addr} {gc : Nat} {gi gi' : Option Addr} {gd gd' : Nat} (h : GrAt w0 x q X kn ki gn gc gi gd w)
    (hu : Upd w w' (Value.slice gi (x.mm + ki) gd).ownBlock (Value.slice gi' (x.mm + ki + 1) gd').ownBlock) (hr : Row w' 28 5 (.slice gi' (x.mm + ki + 1) gd') (x.mm + ki + 1) (marks (q : Int) (x.mm + ki) ++ markV (q : Int)))
    (hst : ∀ g, (Value.slice gi (x.mm + ki) gd).ownBlock = some g → ∀ j u, (marks (q : Int) (x.mm + ki))[j]? = some u → w'.cell? ⟨g, j, none⟩ = some u) :
    w'.cell? ⟨X, 4, none⟩ = some (.slice gi (x.mm + ki) gd) ∧ w'.frozen? ⟨X, 4, none⟩ = false ∧ GrAt w0 x q X kn (ki + 1) gn gc gi' gd' (w'.setCell ⟨X, 4, none⟩ (.slice gi' (x.mm + ki + 1) gd')) := by
  have hne : (Value.slice gi (x.mm + ki) gd).ownBlock ≠ some X := fun e => (h.oi X (ownA_mem e)).2 rfl
  have hXw : X < w.heap.size := cell_lt h.c4
  have e : w'.heap[X]? = w.heap[X]? := hu.block hXw hne
  have kc : ∀ j, w'.cell? ⟨X, j, none⟩ = w.cell? ⟨X, j, none⟩ := fun j => World.cell?_of_block e
  have kf : ∀ j, w'.frozen? ⟨X, j, none⟩ = w.frozen? ⟨X, j, none⟩ := fun j => World.frozen?_of_block e
  have ne4 : ∀ {j}, j ≠ 4 → (⟨X, 4, none⟩ : Addr) ≠ ⟨X, j, none⟩ := fun hj e => hj (by injection e with _ e; exact e.symm)
  have hs0 := h.turn.size
  have hsu := hu.grown.size
  have hoi : ∀ b ∈ ownA gi', (b ∈ ownA x.ai ∨ w0.heap.size ≤ b) ∧ b ≠ X := fun b hb => by
    have hb' := ownA_elim (n := x.mm + ki + 1) (c := gd') hb
    rcases hu.own with e | ⟨p, e, hp⟩
    · exact h.oi b (ownA_mem (by rw [← e]; exact hb'))
    · rw [e] at hb'; injection hb' with hb'; subst hb'; exact ⟨.inr (by omega), by omega⟩
  have hgi : ∀ b, (Value.slice gi (x.mm + ki) gd).ownBlock = some b → b ∈ x.own ∨ w0.heap.size ≤ b := fun b hb => (h.oi b (ownA_mem hb)).1.imp (fun k => by simp [Hd.own, k]) id
  have hset : ∀ b, b ≠ X → (w'.setCell ⟨X, 4, none⟩ (.slice gi' (x.mm + ki + 1) gd')).heap[b]? = w'.heap[b]? := fun b hb => heap_setCell_other w' ⟨X, 4, none⟩ b _ hb
  have hrown : Row w' 9 1 (.slice gn (x.nn + kn) gc) (x.nn + kn) (List.replicate (x.nn + kn) (dg q)) := h.nrow.same (fun b hb => hu.block (h.nrow.lt hb) (fun e => own_ty h.nrow h.irow (by decide) hb e))
  refine ⟨(kc 4).trans h.c4, (kf 4).trans h.f4, ?_, h.hX, h.lt, h.dis, ?_, ?_, ?_, ?_, setS ((kc 4).trans h.c4), ?_, ?_, ?_, ?_, h.on, hoi, ?_⟩
  · exact (h.turn.upd hu hgi).set (.inr h.hX) 4 _
  · rw [setO (ne4 (by decide)), kc]; exact h.c0
  · rw [setO (ne4 (by decide)), kc]; exact h.c1
  · rw [setO (ne4 (by decide)), kc]; exact h.c2
  · rw [setO (ne4 (by decide)), kc]; exact h.c3
  · rw [setF, kf]; exact h.f3
  · rw [setF, kf]; exact h.f4
  · exact hrown.same (fun b hb => hset b (h.on b (ownA_mem hb)).2)
  · exact hr.same (fun b hb => hset b (hoi b (ownA_mem hb)).2)
  · refine ⟨fun k hk => ?_, fun k hk => ?_⟩
    · obtain ⟨g, ea, hc⟩ := h.old.n k hk
      have hga : g ∈ ownA x.an := by rw [ea]; simp [ownA]
      have hlt := h.lt g (own_n ea)
      have hX := h.hX
      refine ⟨g, ea, ?_⟩
      rw [setO (fun e => by injection e with e; omega)]
      refine hu.cell hc (fun e => ?_)
      rcases (h.oi g (ownA_mem e)).1 with k1 | k1
      · exact h.dis g hga k1
      · omega
    · obtain ⟨g, ea, hc⟩ := h.old.i k hk
      have hlt := h.lt g (own_i ea)
      have hX := h.hX
      refine ⟨g, ea, ?_⟩
      rw [setO (fun e => by injection e with e; omega)]
      by_cases hg : (Value.slice gi (x.mm + ki) gd).ownBlock = some g
      · exact hst g hg _ _ (marks_at _ (by omega))
      · exact hu.cell hc hg
/-- a name has come -/
theorem GrAt.napp {w0 w w' : World} {x : Hd} {q X kn ki : Nat} {gn gn' : Option Addr} {gc gc' : Nat} {gi : Option Addr} {gd : Nat} (h : GrAt w0 x q X kn ki gn gc gi gd w)
    (hu : Upd w w' (Value.slice gn (x.nn + kn) gc).ownBlock (Value.slice gn' (x.nn + kn + 1) gc').ownBlock) (hr : Row w' 9 1 (.slice gn' (x.nn + kn + 1) gc') (x.nn + kn + 1) (List.replicate (x.nn + kn) (dg q) ++ [dg q]))
    (hst : ∀ g, (Value.slice gn (x.nn + kn) gc).ownBlock = some g → ∀ j u, (List.replicate (x.nn + kn) (dg q))[j]? = some u → w'.cell? ⟨g, j, none⟩ = some u) :
    w'.cell? ⟨X, 3, none⟩ = some (.slice gn (x.nn + kn) gc) ∧ w'.frozen? ⟨X, 3, none⟩ = false ∧ GrAt w0 x q X (kn + 1) ki gn' gc' gi gd (w'.setCell ⟨X, 3, none⟩ (.slice gn' (x.nn + kn + 1) gc')) := by
  have hne : (Value.slice gn (x.nn + kn) gc).ownBlock ≠ some X := fun e => (h.on X (ownA_mem e)).2 rfl
  have hXw : X < w.heap.size := cell_lt h.c3
  have e : w'.heap[X]? = w.heap[X]? := hu.block hXw hne
  have kc : ∀ j, w'.cell? ⟨X, j, none⟩ = w.cell? ⟨X, j, none⟩ := fun j => World.cell?_of_block e
  have kf : ∀ j, w'.frozen? ⟨X, j, none⟩ = w.frozen? ⟨X, j, none⟩ := fun j => World.frozen?_of_block e
  have ne3 : ∀ {j}, j ≠ 3 → (⟨X, 3, none⟩ : Addr) ≠ ⟨X, j, none⟩ := fun hj e => hj (by injection e with _ e; exact e.symm)
  have hs0 := h.turn.size
  have hsu := hu.grown.size
  have hon : ∀ b ∈ ownA gn', (b ∈ ownA x.an ∨ w0.heap.size ≤ b) ∧ b ≠ X := fun b hb => by
    have hb' := ownA_elim (n := x.nn + kn + 1) (c := gc') hb
    rcases hu.own with e | ⟨p, e, hp⟩
    · exact h.on b (ownA_mem (by rw [← e]; exact hb'))
    · rw [e] at hb'; injection hb' with hb'; subst hb'; exact ⟨.inr (by omega), by omega⟩
  have hgn : ∀ b, (Value.slice gn (x.nn + kn) gc).ownBlock = some b → b ∈ x.own ∨ w0.heap.size ≤ b := fun b hb => (h.on b (ownA_mem hb)).1.imp (fun k => by simp [Hd.own, k]) id
  have hset : ∀ b, b ≠ X → (w'.setCell ⟨X, 3, none⟩ (.slice gn' (x.nn + kn + 1) gc')).heap[b]? = w'.heap[b]? := fun b hb => heap_setCell_other w' ⟨X, 3, none⟩ b _ hb
  have hrowi : Row w' 28 5 (.slice gi (x.mm + ki) gd) (x.mm + ki) (marks (q : Int) (x.mm + ki)) := h.irow.same (fun b hb => hu.block (h.irow.lt hb) (fun e => own_ty h.nrow h.irow (by decide) e hb))
  refine ⟨(kc 3).trans h.c3, (kf 3).trans h.f3, ?_, h.hX, h.lt, h.dis, ?_, ?_, ?_, setS ((kc 3).trans h.c3), ?_, ?_, ?_, ?_, ?_, hon, h.oi, ?_⟩
  · exact (h.turn.upd hu hgn).set (.inr h.hX) 3 _
  · rw [setO (ne3 (by decide)), kc]; exact h.c0
  · rw [setO (ne3 (by decide)), kc]; exact h.c1
  · rw [setO (ne3 (by decide)), kc]; exact h.c2
  · rw [setO (ne3 (by decide)), kc]; exact h.c4
  · rw [setF, kf]; exact h.f3
  · rw [setF, kf]; exact h.f4
  · rw [show x.nn + (kn + 1) = x.nn + kn + 1 from rfl, List.replicate_succ']
    exact hr.same (fun b hb => hset b (hon b (ownA_mem hb)).2)
  · exact hrowi.same (fun b hb => hset b (h.oi b (ownA_mem hb)).2)
  · refine ⟨fun k hk => ?_, fun k hk => ?_⟩
    · obtain ⟨g, ea, hc⟩ := h.old.n k hk
      have hlt := h.lt g (own_n ea)
      have hX := h.hX
      refine ⟨g, ea, ?_⟩
      rw [setO (fun e => by injection e with e; omega)]
      by_cases hg : (Value.slice gn (x.nn + kn) gc).ownBlock = some g
      · exact hst g hg _ _ (by rw [List.getElem?_replicate, if_pos (by omega)])
      · exact hu.cell hc hg
    · obtain ⟨g, ea, hc⟩ := h.old.i k hk
      have hga : g ∈ ownA x.ai := by rw [ea]; simp [ownA]
      have hlt := h.lt g (own_i ea)
      have hX := h.hX
      refine ⟨g, ea, ?_⟩
      rw [setO (fun e => by injection e with e; omega)]
      refine hu.cell hc (fun e => ?_)
      rcases (h.on g (ownA_mem e)).1 with k1 | k1
      · exact h.dis g k1 hga
      · omega
/-- the handle that has grown -/
def grown (x : Hd) (gn : Option Addr) (gc : Nat) (gi : Option Addr) (gd : Nat) : Hd := ⟨0, 0, ⟨#[]⟩, gn, x.nn + 16, gc, gi, x.mm + 16, gd⟩
theorem GrAt.whole {w0 w : World} {x : Hd} {q X : Nat} {gn : Option Addr} {gc : Nat} {gi : Option Addr} {gd : Nat} (h : GrAt w0 x q X 16 16 gn gc gi gd w) : Mk w q (grown x gn gc gi gd) :=
  Full.mk (h := grown x gn gc gi gd) ⟨h.nrow, h.irow⟩
/-- the fourth loop: the handles ahead of i have grown -/
structure ApG (w0 : World) (hs : List Hd) (a : Option Addr) (c i : Nat) (ga : Option Addr) (gc : Nat) (gs : List Hd) (w : World) : Prop where
  turn : Turn (fun g => g ∈ hs.flatMap Hd.own) w0 w
  row : Row w 28 5 (.slice a hs.length c) hs.length (hs.flatMap Hd.cells)
  gl : gs.length = i
  grow : Row w 28 5 (.slice ga i gc) i (gs.flatMap Hd.cells)
  gfr : ∀ b ∈ ownA ga, w0.heap.size ≤ b ∧ b ∉ ownA a
  done : ∀ q x y, hs[q]? = some x → gs[q]? = some y → Mk w q x ∧ Mk w q y ∧ y.nn = x.nn + 16 ∧ y.mm = x.mm + 16 ∧ ∀ b ∈ y.own, b < w.heap.size ∧ b ∉ ownA ga ∧ (b ∈ x.own ∨ w0.heap.size ≤ b)
  full : ∀ q x, hs[q]? = some x → i ≤ q → Full w q x
theorem ApA.grow {w0 w : World} {hs : List Hd} {a : Option Addr} {c : Nat} (h : ApA w0 hs a c hs.length w) : ApG w0 hs a c 0 none 0 [] w :=
  ⟨h.turn, h.row, rfl, row_nil _ _ _, fun b hb => by simp [ownA] at hb, fun q x y _ hy => by simp at hy, fun q x hx _ => h.done q x hx (List.getElem?_eq_some_iff.1 hx).1⟩
theorem ApG.below {w0 w w' : World} {hs : List Hd} {a : Option Addr} {c i : Nat} {ga : Option Addr} {gc : Nat} {gs : List Hd} (h : ApG w0 hs a c i ga gc gs w) (hb : Below w.heap.size w w') : ApG w0 hs a c i ga gc gs w' :=
  ⟨h.turn.trans (Turn.of_below hb), h.row.below hb, h.gl, h.grow.below hb, h.gfr, fun q x y hx hy => by
    obtain ⟨k1, k2, k3, k4, k5⟩ := h.done q x y hx hy
    exact ⟨k1.below hb, k2.below hb, k3, k4, fun b hm => ⟨Nat.lt_of_lt_of_le (k5 b hm).1 hb.size, (k5 b hm).2⟩⟩, fun q x hx hi => (h.full q x hx hi).keep (fun b _ hl => hb.block b hl)⟩
theorem ApG.start {w0 w : World} {hs : List Hd} {a : Option Addr} {c i : Nat} {ga : Option Addr} {gc : Nat} {gs : List Hd} (h : ApG w0 hs a c i ga gc gs w) {x : Hd} (hx : hs[i]? = some x) (hlt : ∀ b ∈ hs.flatMap Hd.own, b < w0.heap.size)
    {w' : World} {X : Nat} (hb : Below w.heap.size w w') (hX : w.heap.size ≤ X) (hbx : w'.heap[X]? = some (.cells #[.int .i64 0, .int .i64 0, .string ⟨#[]⟩, .slice x.an x.nn x.cn, .slice x.ai x.mm x.ci] 28 (0, 0))) :
    GrAt w x i X 0 0 x.an x.cn x.ai x.ci w' := by
  have hf := h.full i x hx (Nat.le_refl _)
  obtain ⟨⟨z0, z1, z2, z3, z4⟩, f0, f1, f2, f3, f4⟩ := cellsOf5 hbx
  have hl : ∀ b ∈ x.own, b < w.heap.size := fun b hb => Nat.lt_of_lt_of_le (hlt b (own_mem hx b hb)) h.turn.size
  refine ⟨Turn.of_below hb, hX, hl, fun b h1 h2 => ?_, z0, z1, z2, z3, z4, f3, f4, hf.1.below hb, hf.2.below hb, fun b hm => ⟨.inl hm, ?_⟩, fun b hm => ⟨.inl hm, ?_⟩, hf.mk.below hb⟩
  · exact own_ty (hf.1) (hf.2) (by decide) (ownA_elim (n := x.nn) (c := x.cn) h1) (ownA_elim (n := x.mm) (c := x.ci) h2)
  · have := hl b (by simp [Hd.own, hm]); omega
  · have := hl b (by simp [Hd.own, hm]); omega
theorem ApG.next {w0 w w1 w2 w3 : World} {hs : List Hd} {a : Option Addr} {c i X : Nat} {ga ga' : Option Addr} {gc gc' : Nat} {gs : List Hd} (h : ApG w0 hs a c i ga gc gs w) {x : Hd} (hx : hs[i]? = some x) (hnd : (hs.flatMap Hd.own).Nodup) (hlt : ∀ b ∈ hs.flatMap Hd.own, b < w0.heap.size)
    (ha : ∀ b ∈ ownA a, b ∉ hs.flatMap Hd.own)
    {gn gi : Option Addr} {gnc gic : Nat} (hg : GrAt w x i X 16 16 gn gnc gi gic w1) (hb : Below w1.heap.size w1 w2) (hu : Upd w2 w3 (Value.slice ga i gc).ownBlock (Value.slice ga' (i + 1) gc').ownBlock)
    (hr : Row w3 28 5 (.slice ga' (i + 1) gc') (i + 1) (gs.flatMap Hd.cells ++ [.int .i64 0, .int .i64 0, .string ⟨#[]⟩, .slice gn (x.nn + 16) gnc, .slice gi (x.mm + 16) gic])) :
    ApG w0 hs a c (i + 1) ga' gc' (gs ++ [grown x gn gnc gi gic]) w3 := by
  have s0 := h.turn.size
  have s1 := hg.turn.size
  have s2 := hb.size
  have s3 := hu.grown.size
  have hgl := h.gl
  have hga : ∀ b, (Value.slice ga i gc).ownBlock = some b → w0.heap.size ≤ b ∧ b < w.heap.size ∧ b ∉ ownA a := fun b hm => ⟨(h.gfr b (ownA_mem hm)).1, h.grow.lt hm, (h.gfr b (ownA_mem hm)).2⟩
  have stay : ∀ b, b < w.heap.size → b ∉ x.own → b ∉ ownA ga → w3.heap[b]? = w.heap[b]? := fun b hl h1 h2 =>
    (hu.block (by omega) (fun e => h2 (ownA_mem e))).trans ((hb.block b (by omega)).trans (hg.turn.block b hl h1))
  have stay1 : ∀ b, b < w1.heap.size → b ∉ ownA ga → w3.heap[b]? = w1.heap[b]? := fun b hl h2 =>
    (hu.block (by omega) (fun e => h2 (ownA_mem e))).trans (hb.block b hl)
  have hoF : ∀ b ∈ hs.flatMap Hd.own, b < w.heap.size ∧ b ∉ ownA ga := fun b hm => ⟨by have := hlt b hm; omega, fun e => by have := (h.gfr b e).1; have := hlt b hm; omega⟩
  have hga' : ∀ b ∈ ownA ga', b ∈ ownA ga ∨ w2.heap.size ≤ b := fun b hm => by
    have hm' := ownA_elim (n := i + 1) (c := gc') hm
    rcases hu.own with e | ⟨p, e, hp⟩
    · exact .inl (ownA_mem (n := i) (c := gc) (by rw [← e]; exact hm'))
    · rw [e] at hm'; injection hm' with hm'; subst hm'; exact .inr hp
  have hnew : ∀ b ∈ (grown x gn gnc gi gic).own, b < w1.heap.size ∧ b ∉ ownA ga ∧ (b ∈ x.own ∨ w.heap.size ≤ b) := fun b hm => by
    have hm2 : b ∈ ownA gn ++ ownA gi := hm
    have k1 : b < w1.heap.size := by
      rcases List.mem_append.1 hm2 with k | k
      · exact hg.nrow.own_lt b k
      · exact hg.irow.own_lt b k
    have k2 : b ∈ x.own ∨ w.heap.size ≤ b := by
      rcases List.mem_append.1 hm2 with k | k
      · exact (hg.on b k).1.imp (fun k => by simp [Hd.own, k]) id
      · exact (hg.oi b k).1.imp (fun k => by simp [Hd.own, k]) id
    refine ⟨k1, fun e => ?_, k2⟩
    have := hga b (ownA_elim e)
    rcases k2 with k2 | k2
    · have := hlt b (own_mem hx b k2); omega
    · omega
  refine ⟨?_, ?_, by rw [List.length_append, hgl]; rfl, by rw [List.flatMap_append]; exact hr, fun b hm => ?_, fun q y z hy hz => ?_, fun q y hy hq => ?_⟩
  · exact ((h.turn.trans (hg.turn.weak (fun g k => .inl (own_mem hx g k)))).trans (Turn.of_below hb)).upd hu (fun g k => .inr (hga g k).1)
  · exact h.row.same (fun b hm => stay b (h.row.lt hm) (fun e => ha b (ownA_mem hm) (own_mem hx b e)) (fun e => (hga b (ownA_elim e)).2.2 (ownA_mem hm)))
  · rcases hga' b hm with k | k
    · exact h.gfr b k
    · exact ⟨by omega, fun e => by have := h.row.own_lt b e; omega⟩
  · by_cases hqi : q < i
    · rw [List.getElem?_append_left (by omega)] at hz
      obtain ⟨k1, k2, k3, k4, k5⟩ := h.done q y z hy hz
      have nx : ∀ b ∈ y.own, b ∉ x.own := own_dis hnd hy hx (by omega)
      have nz : ∀ b ∈ z.own, b ∉ x.own := fun b hm e => by
        rcases (k5 b hm).2.2 with k | k
        · exact nx b k e
        · have := hlt b (own_mem hx b e); omega
      refine ⟨k1.keep (fun b hm _ => stay b (hoF b (own_mem hy b hm)).1 (nx b hm) (hoF b (own_mem hy b hm)).2), k2.keep (fun b hm _ => stay b (k5 b hm).1 (nz b hm) (k5 b hm).2.1), k3, k4, fun b hm => ⟨by have := (k5 b hm).1; omega, fun e => ?_, (k5 b hm).2.2⟩⟩
      rcases hga' b e with k | k
      · exact (k5 b hm).2.1 k
      · have := (k5 b hm).1; omega
    · have hq := (List.getElem?_eq_some_iff.1 hz).1
      rw [List.length_append, hgl] at hq
      simp only [List.length_cons, List.length_nil] at hq
      obtain rfl : q = i := by omega
      rw [hx] at hy
      injection hy with hy
      subst hy
      rw [List.getElem?_append_right (by omega), hgl, Nat.sub_self] at hz
      simp only [List.getElem?_cons_zero, Option.some.injEq] at hz
      subst hz
      refine ⟨hg.old.keep (fun b hm hl => stay1 b hl (hoF b (own_mem hx b hm)).2), hg.whole.keep (fun b hm hl => stay1 b hl (hnew b hm).2.1), rfl, rfl, fun b hm => ⟨by have := (hnew b hm).1; omega, fun e => ?_, (hnew b hm).2.2.imp id (fun k => by omega)⟩⟩
      rcases hga' b e with k | k
      · exact (hnew b hm).2.1 k
      · have := (hnew b hm).1; omega
  · have nx : ∀ b ∈ y.own, b ∉ x.own := own_dis hnd hy hx (by omega)
    exact (h.full q y hy (by omega)).keep (fun b hm _ => stay b (hoF b (own_mem hy b hm)).1 (nx b hm) (hoF b (own_mem hy b hm)).2)
theorem ApG.growTurn {w0 w w1 : World} {hs : List Hd} {a : Option Addr} {c i : Nat} {ga : Option Addr} {gc : Nat} {gs : List Hd} (h : ApG w0 hs a c i ga gc gs w) {x : Hd} (hx : hs[i]? = some x) (hlt : ∀ b ∈ hs.flatMap Hd.own, b < w0.heap.size)
    (ht : Turn (fun g => g ∈ x.own) w w1) : Row w1 28 5 (.slice ga i gc) i (gs.flatMap Hd.cells) :=
  h.grow.same (fun b hb => ht.block b (h.grow.lt hb) (fun e => by have := hlt b (own_mem hx b e); have := (h.gfr b (ownA_mem hb)).1; omega))
end Go.Proofs.YtbkbokfegjodnaaDoor
namespace Go.Proofs.YtbkbokfegjodnaaDoor
open Go.RowKit
set_option maxRecDepth 20000 in
set_option maxHeartbeats 16000000 in
theorem apart_c (t : JV) (cs : List Value) (F : List Nat) (w : World) (hr : RepF w t cs F) (hnd : F.Nodup) (hbk : t.bulk ≤ 1099511627776) :
    Calls Tryd.prog 23 #[.agg cs.toArray] w fun e w' => e = .returned (.bool true) ∧ Turn (fun g => g ∈ F) w w' := by
  have hFl := RepF.lt _ _ _ hr
  obtain ⟨pan, pcn, pai, pci, rfl⟩ := hr.form
  have hb0 : Below w.heap.size w (w.alloc (.cells #[.int .i64 t.kind, .int .i64 t.int, .string t.text, .slice pan t.names.length pcn, .slice pai t.items.length pci] 28)) := (Below.refl _ _).alloc (Nat.le_refl _) _
  obtain ⟨⟨z0, z1, z2, z3, z4⟩, zf⟩ := cellsOf5 (heap_alloc_new w (.cells #[.int .i64 t.kind, .int .i64 t.int, .string t.text, .slice pan t.names.length pcn, .slice pai t.items.length pci] 28))
  have hu := under_c t _ F _ (hr.below hb0) hbk
  have HB0 := Lib.hid hb0
  clear hb0 hr zf
  go_enter Tryd.func23, Tryd.ntmps23
  go_wp2_with fail
  clear z0 z1 z2 z3 z4
  refine hu.mono ?_; rintro e w1 ⟨a, c, hs, rfl, hrow, hfr, rfl, hok, hlen, hpos, hbl⟩
  have hbl1 : Below w.heap.size w w1 := below_trans HB0.out hbl
  have hle : hs.length ≤ 1099511627776 := by omega
  have hsz0 := HB0.out.size
  have ha : ∀ b ∈ ownA a, b ∉ hs.flatMap Hd.own := fun b hb hm => by have := hfr b hb; have := hFl b hm; omega
  have hnb : ∀ (q : Nat) (x : Hd), hs[q]? = some x → x.nn ≤ 1099511627776 ∧ x.mm ≤ 1099511627776 := fun q x hx => (hok x (List.mem_of_getElem? hx)).2.2
  have H0 := Lib.hid (show ApA w hs a c 0 w1 from ⟨Turn.of_below hbl1, hrow, fun q x _ hq => absurd hq (Nat.not_lt_zero _), fun q x hx _ => hok x (List.mem_of_getElem? hx)⟩)
  clear hu hrow hfr hok hbl hbl1 hsz0 HB0 hbk hlen
  go_wp2_with fail
  go_loopw [4, 5, 6] (fun i _ _ wr => ∃ j : Nat, j ≤ hs.length ∧ i = .int .i64 j ∧ Hid (ApA w hs a c j wr)) (fun i _ _ _ => hs.length - (intOf i).toNat)
  case atStart => exact ⟨0, by omega, rfl, H0⟩
  case round =>
    clear H0
    obtain ⟨i, hi, rfl, H⟩ := hrel
    by_cases hlt : i < hs.length
    · obtain ⟨x, hx⟩ : ∃ x, hs[i]? = some x := ⟨_, List.getElem?_eq_getElem hlt⟩
      obtain ⟨wA, rfl⟩ : ∃ wA, wA = wr := ⟨wr, rfl⟩
      obtain ⟨g, hg, hlie⟩ := hd_lie H.out.row hx
      have hgo : g ∉ x.own := fun e => ha g (by rw [hg]; simp [ownA]) (own_mem hx g e)
      subst hg
      obtain ⟨hn1, hm1⟩ := hnb i x hx
      have okx := H.out.ok i x hx (Nat.le_refl _)
      have HI := Lib.hid (show ApI wA x i 0 wA from ⟨Turn.refl _ _, okx.1, okx.2.1.elim fun ys hy => ⟨ys, hy, by rw [Nat.zero_mul]; rfl⟩⟩)
      have HL := Lib.hid hlie
      clear okx hlie
      go_wp2_with fail
      go_loopw [5] (fun k wq => ∃ j : Nat, j ≤ x.mm ∧ k = .int .i64 j ∧ Hid (ApI wA x i j wq)) (fun k _ => x.mm - (intOf k).toNat)
      case atStart => exact ⟨0, by omega, rfl, HI⟩
      case round =>
        clear HI
        obtain ⟨j, hj, rfl, HI⟩ := hrel
        have l4 := cell_turn HI.out.turn (HL.out 4 _ rfl) hgo
        have l3 := cell_turn HI.out.turn (HL.out 3 _ rfl) hgo
        by_cases hlt2 : j < x.mm
        · obtain ⟨ys, hy, _⟩ := HI.out.irow
          obtain ⟨gi, hai, _⟩ := row_at hy (by omega)
          rw [hai] at hy l4
          obtain ⟨u0, q0⟩ := hy.cellAt (j * 5) (by omega)
          obtain ⟨u1, q1⟩ := hy.cellAt (j * 5 + 1) (by omega)
          obtain ⟨u2, q2⟩ := hy.cellAt (j * 5 + 2) (by omega)
          obtain ⟨u3, q3⟩ := hy.cellAt (j * 5 + 3) (by omega)
          obtain ⟨u4, q4⟩ := hy.cellAt (j * 5 + 4) (by omega)
          have fr := World.ownsRow.frozenAt hy
          have HS := Lib.hid (HI.out.set hai hlt2)
          clear hy HI hai l3
          go_wp2
          refine ⟨⟨j + 1, by omega, by simp, HS⟩, ?_⟩
          simp only [intOf]; omega
        · obtain rfl : j = x.mm := by omega
          have HN := Lib.hid HI.out.names
          go_wp2
          clear HI l3 l4
          go_loopw [6] (fun k wq => ∃ j : Nat, j ≤ x.nn ∧ k = .int .i64 j ∧ Hid (ApN wA x i j wq)) (fun k _ => x.nn - (intOf k).toNat)
          case atStart => exact ⟨0, by omega, rfl, HN⟩
          case round =>
            clear HN
            obtain ⟨j, hj, rfl, HI⟩ := hrel
            have l3 := cell_turn HI.out.turn (HL.out 3 _ rfl) hgo
            by_cases hlt3 : j < x.nn
            · obtain ⟨ys, hy, _⟩ := HI.out.nrow
              obtain ⟨gi, hai, _⟩ := row_at hy (by omega)
              have HR := Lib.hid hy
              rw [hai] at l3
              have hcall := digits_c (i : Int) (by omega) wr.drew
              clear hy
              go_wp2_with fail
              go_region_law (go_simp; go_at_call 51; refine hcall.mono ?_; rintro e w2 ⟨rfl, hb2⟩; have hb3 : Below wr.heap.size wr w2 := Below.trans (Below.drew (Below.refl wr.heap.size wr)) hb2; have l3b := cell_below hb3 l3; have hyb := HR.out.below hb3; rw [hai] at hyb; obtain ⟨u0, q0⟩ := hyb.cellAt j (by omega); have fr := World.ownsRow.frozenAt hyb; have HS := Lib.hid (HI.out.set hai hlt3 hb3); clear hyb hb2 hb3)
              all_goals clear l3 l3b q0 fr u0
              all_goals go_wp2
              all_goals go_roundw
              all_goals first | exact ⟨j + 1, by omega, by go_num, HS⟩ | (simp [intOf]; omega)
            · obtain rfl : j = x.nn := by omega
              have HN := Lib.hid (H.out.next hx hnd ha HI.out.turn HI.out.full)
              clear HI H
              go_wp2
              exact ⟨⟨i + 1, by omega, by simp, HN⟩, by simp only [intOf]; omega⟩
    · obtain rfl : i = hs.length := by omega
      have HG := Lib.hid H.out.grow
      clear H
      go_wp2
      go_loopw [7, 8, 9, 10] (fun l i _ _ wq => ∃ j : Nat, j ≤ hs.length ∧ i = .int .i64 j ∧ ∃ ga gc gs, l = .slice ga j gc ∧ Hid (ApG w hs a c j ga gc gs wq)) (fun _ i _ _ _ => hs.length - (intOf i).toNat)
      case atStart => exact ⟨0, by omega, rfl, none, 0, [], rfl, HG⟩
      case round =>
        clear HG
        obtain ⟨i, hi, rfl, ga, gc, gs, rfl, H⟩ := hrel
        by_cases hlt : i < hs.length
        · obtain ⟨x, hx⟩ : ∃ x, hs[i]? = some x := ⟨_, List.getElem?_eq_getElem hlt⟩
          obtain ⟨wA, rfl⟩ : ∃ wA, wA = wr := ⟨wr, rfl⟩
          obtain ⟨g, hg, hlie⟩ := hd_lie H.out.row hx
          subst hg
          obtain ⟨hn1, hm1⟩ := hnb i x hx
          have l3 := hlie 3 _ rfl
          have l4 := hlie 4 _ rfl
          clear hlie
          go_wp2_with fail
          have hSS : ∀ W', Below wA.heap.size wA W' → (fun w' => w'.cell? ⟨g, i * 5 + 3, none⟩ = some (.slice x.an x.nn x.cn) ∧ w'.cell? ⟨g, i * 5 + 4, none⟩ = some (.slice x.ai x.mm x.ci)) W' := fun W' hW => ⟨cell_below hW l3, cell_below hW l4⟩
          have HSS := Lib.hid hSS
          clear hSS l3 l4
          go_region_held3 (fun w' => w'.cell? ⟨g, i * 5 + 3, none⟩ = some (.slice x.an x.nn x.cn) ∧ w'.cell? ⟨g, i * 5 + 4, none⟩ = some (.slice x.ai x.mm x.ci)) (exact HSS.out _ (by repeat (first | with_reducible exact Below.refl _ _ | with_reducible refine Below.drew ?_ | with_reducible refine Below.alloc ?_ (by simp) _))) (fail)
          have hbW : Below wA.heap.size wA (wA.alloc (.cells #[.int .i64 0, .int .i64 0, .string ⟨#[]⟩, .slice x.an x.nn x.cn, .slice x.ai x.mm x.ci] 28)).drew := Below.drew ((Below.refl _ _).alloc (Nat.le_refl _) _)
          have HG := Lib.hid (H.out.start hx hFl hbW (Nat.le_refl _) (heap_alloc_new wA (.cells #[.int .i64 0, .int .i64 0, .string ⟨#[]⟩, .slice x.an x.nn x.cn, .slice x.ai x.mm x.ci] 28)))
          clear hbW HSS
          generalize (wA.alloc (.cells #[.int .i64 0, .int .i64 0, .string ⟨#[]⟩, .slice x.an x.nn x.cn, .slice x.ai x.mm x.ci] 28)).drew = wB at *
          go_wp2
          go_loopw [10] (fun k wq => ∃ j : Nat, j ≤ 16 ∧ k = .int .i64 j ∧ ∃ gn gnc gi gic, Hid (GrAt wA x i wA.heap.size j j gn gnc gi gic wq)) (fun k _ => 16 - (intOf k).toNat)
          case atStart => exact ⟨0, by omega, rfl, _, _, _, _, HG⟩
          case round =>
            clear HG
            obtain ⟨j, hj, rfl, gn, gnc, gi, gic, HG⟩ := hrel
            have c3 := HG.out.c3
            have c4 := HG.out.c4
            by_cases hlt5 : j < 16
            · go_wp2_with (at_builtin; refine wpList_app2 valTy rfl _ _ rfl (.slice gi (x.mm + j) gic) (x.mm + j) (marks (i : Int) (x.mm + j)) rfl (HG.out.irow.below ((Below.refl _ _).alloc (Nat.le_refl _) _)) ⟨wr.heap.size, 0, none⟩ 1 1 [.int .i64 0, .int .i64 (i : Int), .string ⟨#[]⟩, .slice none 0 0, .slice none 0 0] rfl rfl (World.news_of_block (heap_alloc_new wr _)) (by simp [Value.oneCell']) (by unfold maxLen; omega) (by omega) ?_; intro iv' w1 hr1 hu1 hst1 ; obtain ⟨ga', gc', hv1, _⟩ := hr1.form ; subst hv1 ; obtain ⟨k4, g4, HG2⟩ := (HG.out.below ((Below.refl wr.heap.size wr).alloc (Nat.le_refl _) _)).iapp hu1 hr1 hst1 ; have HG3 := Lib.hid HG2 ; clear hu1 hr1 hst1 HG c3 c4 HG2)
              have c3 := HG3.out.c3
              have f3 := HG3.out.f3
              have hcall := digits_c (i : Int) (by omega) (w1.setCell ⟨wA.heap.size, 4, none⟩ (.slice ga' (x.mm + j + 1) gc')).drew
              generalize (w1.setCell ⟨wA.heap.size, 4, none⟩ (.slice ga' (x.mm + j + 1) gc')) = w2 at *
              clear k4 g4
              go_wp2_with fail
              go_region_law (first
                | (refine step_app2 strTy (by rfl) _ _ (by rfl) (.slice gn (x.nn + j) gnc) (x.nn + j) (List.replicate (x.nn + j) (dg i)) (by rfl) (HG4.out.nrow.below ((Below.refl w3.heap.size w3).alloc (Nat.le_refl _) _)) ⟨w3.heap.size, 0, none⟩ 1 1 [.string ⟨(Lib.itoa (i : Int)).toArray⟩] (by rfl) (by rfl) (World.news_of_block (heap_alloc_new w3 _)) (by simp [Value.oneCell']) (by unfold maxLen; omega) (by omega) ?_; intro nv' w4 hr4 hu4 hst4; obtain ⟨gb', gd', hv4, _⟩ := hr4.form; subst hv4; obtain ⟨k3, g3, HG5⟩ := (HG4.out.below ((Below.refl w3.heap.size w3).alloc (Nat.le_refl _) _)).napp hu4 hr4 hst4; have HG6 := Lib.hid HG5; clear hu4 hr4 hst4 HG5)
                | (go_simp; go_at_call 51; refine hcall.mono ?_; rintro e w3 ⟨rfl, hb3⟩; have HG4 := Lib.hid (HG3.out.below (Below.trans (Below.drew (Below.refl w2.heap.size w2)) hb3)); have c3b := HG4.out.c3; have c3c := cell_below ((Below.refl w3.heap.size w3).alloc (Nat.le_refl _) (.cells #[.string ⟨(Lib.itoa (i : Int)).toArray⟩] 9)) c3b; clear hb3))
              all_goals clear c3 c3b c3c f3 k3 g3
              all_goals go_wp2
              all_goals go_roundw
              all_goals first | exact ⟨j + 1, by omega, by go_num, _, _, _, _, HG6⟩ | (simp [intOf]; omega)
            · obtain rfl : j = 16 := by omega
              have HGW := Lib.hid (H.out.growTurn hx hFl HG.out.turn)
              obtain ⟨⟨z0, z1, z2, z3, z4⟩, zz⟩ := And.intro (And.intro HG.out.c0 (And.intro HG.out.c1 (And.intro HG.out.c2 (And.intro c3 c4)))) True.intro
              go_wp2_with (at_builtin; refine wpList_app valTy rfl _ _ rfl (.slice ga i gc) i (gs.flatMap Hd.cells) rfl ((HGW.out).below ((Below.refl _ _).alloc (Nat.le_refl _) _)) ⟨wr.heap.size, 0, none⟩ 1 1 [.int .i64 0, .int .i64 0, .string ⟨#[]⟩, .slice gn (x.nn + 16) gnc, .slice gi (x.mm + 16) gic] rfl rfl (World.news_of_block (heap_alloc_new wr _)) (by simp [Value.oneCell']) (by unfold maxLen; omega) (by omega) ?_; intro v' w2 hr2 hu2; obtain ⟨ga', gc', hv2, _⟩ := hr2.form; subst hv2; have HN := Lib.hid (H.out.next hx hnd hFl ha HG.out ((Below.refl wr.heap.size wr).alloc (Nat.le_refl _) _) hu2 hr2); clear hu2 hr2)
              exact ⟨⟨i + 1, by omega, by simp, _, _, _, rfl, HN⟩, by simp only [intOf]; omega⟩
        · obtain rfl : i = hs.length := by omega
          have HG := H
          clear H
          go_wp2
          go_loopw [11, 12, 13] (fun i _ _ wq => ∃ j : Nat, j ≤ hs.length ∧ i = .int .i64 j ∧ Hid (ApG w hs a c hs.length ga gc gs wq)) (fun i _ _ _ => hs.length - (intOf i).toNat)
          case atStart => exact ⟨0, by omega, rfl, HG⟩
          case round =>
            clear HG
            obtain ⟨i, hi, rfl, H⟩ := hrel
            by_cases hlt : i < hs.length
            · obtain ⟨x, hx⟩ : ∃ x, hs[i]? = some x := ⟨_, List.getElem?_eq_getElem hlt⟩
              obtain ⟨y, hy⟩ : ∃ y, gs[i]? = some y := ⟨_, List.getElem?_eq_getElem (by rw [H.out.gl]; exact hlt)⟩
              obtain ⟨wA, rfl⟩ : ∃ wA, wA = wr := ⟨wr, rfl⟩
              obtain ⟨g, hg, hlie⟩ := hd_lie H.out.row hx
              obtain ⟨g2, hg2, hlie2⟩ := hd_lie H.out.grow hy
              subst hg
              subst hg2
              obtain ⟨hn1, hm1⟩ := hnb i x hx
              obtain ⟨kx, ky, e1, e2, _⟩ := H.out.done i x y hx hy
              have HL := Lib.hid (And.intro hlie hlie2)
              have HK := Lib.hid (And.intro kx ky)
              have HW := Lib.hid (Below.refl wA.heap.size wA)
              have hyn : y.nn ≤ 1099511627792 := by omega
              have hym : y.mm ≤ 1099511627792 := by omega
              clear hlie hlie2 kx ky e1 e2
              go_wp2_with fail
              go_loopw [12] (fun k wq => ∃ j : Nat, j ≤ y.mm ∧ k = .int .i64 j ∧ Hid (Below wA.heap.size wA wq)) (fun k _ => y.mm - (intOf k).toNat)
              case atStart => exact ⟨0, by omega, rfl, HW⟩
              case round =>
                clear HW
                obtain ⟨j, hj, rfl, HW⟩ := hrel
                have l4 := cell_below HW.out (HL.out.1 4 _ rfl)
                have m4 := cell_below HW.out (HL.out.2 4 _ rfl)
                by_cases hlt2 : j < y.mm
                · obtain ⟨gy, ey, cy⟩ := HK.out.2.i j hlt2
                  have cy := cell_below HW.out cy
                  rw [ey] at m4
                  by_cases hlt3 : j < x.mm
                  · obtain ⟨gx, ex, cx⟩ := HK.out.1.i j hlt3
                    have cx := cell_below HW.out cx
                    rw [ex] at l4
                    go_wp2
                    exact ⟨⟨j + 1, by omega, by simp, HW⟩, by simp only [intOf]; omega⟩
                  · go_wp2
                    exact ⟨⟨j + 1, by omega, by simp, HW⟩, by simp only [intOf]; omega⟩
                · obtain rfl : j = y.mm := by omega
                  go_wp2
                  clear l4 m4
                  have HW0 := HW
                  clear HW
                  go_loopw [13] (fun k wq => ∃ j : Nat, j ≤ y.nn ∧ k = .int .i64 j ∧ Hid (Below wA.heap.size wA wq)) (fun k _ => y.nn - (intOf k).toNat)
                  case atStart => exact ⟨0, by omega, rfl, HW0⟩
                  case round =>
                    clear HW0
                    obtain ⟨j, hj, rfl, HW⟩ := hrel
                    have l3 := cell_below HW.out (HL.out.1 3 _ rfl)
                    have m3 := cell_below HW.out (HL.out.2 3 _ rfl)
                    by_cases hlt2 : j < y.nn
                    · obtain ⟨gy, ey, cy⟩ := HK.out.2.n j hlt2
                      have cy := cell_below HW.out cy
                      unfold dg at cy
                      rw [ey] at m3
                      have hdr := Lib.hid (Below.drew (Below.refl wr.heap.size wr))
                      have hcall := fun (W : World) => digits_c (i : Int) (by omega) W
                      by_cases hlt3 : j < x.nn
                      · obtain ⟨gx, ex, cx⟩ := HK.out.1.n j hlt3
                        have cx := cell_below HW.out cx
                        unfold dg at cx
                        rw [ex] at l3
                        have P1 := cell_regrown (w := wr) l3
                        have P2 := cell_regrown (w := wr) m3
                        have P3 := cell_regrown (w := wr) cx
                        have P4 := cell_regrown (w := wr) cy
                        have k := fun (d : Nat) (os : Array Obj) => regB (digits_c (i : Int) (by omega) (Sort.grow (redrawn wr d) os))
                        go_wp2_with fail
                        clear l3 m3 cx cy hcall hdr
                        refine wp_region_quiet_below (by kernel_rfl) (by kernel_rfl) ?_
                        repeat (go_big_quiet_step ((go_at_call 51; with_reducible exact k _ _)))
                        refine wpQuiet_nil ?_
                        intro _ hw'
                        obtain ⟨⟨dq, osq⟩, hw''⟩ := hw'
                        subst hw''
                        have HW2 := Lib.hid (HW.out.trans ((below_regrown wr dq osq).mono HW.out.size))
                        clear HW k
                        go_wp2
                        exact ⟨⟨j + 1, by omega, by simp, HW2⟩, by simp only [intOf]; omega⟩
                      · have hd : decide ((j : Int) < (x.nn : Int)) = false := by rw [decide_eq_false_iff_not]; omega
                        have P1 := cell_regrown (w := wr) l3
                        have P2 := cell_regrown (w := wr) m3
                        have P4 := cell_regrown (w := wr) cy
                        have k := fun (d : Nat) (os : Array Obj) => regB (digits_c (i : Int) (by omega) (Sort.grow (redrawn wr d) os))
                        go_wp2_with fail
                        clear l3 m3 cy hcall hdr
                        refine wp_region_quiet_below (by kernel_rfl) (by kernel_rfl) ?_
                        repeat (go_big_quiet_step ((go_at_call 51; with_reducible exact k _ _)))
                        refine wpQuiet_nil ?_
                        intro _ hw'
                        obtain ⟨⟨dq, osq⟩, hw''⟩ := hw'
                        subst hw''
                        have HW2 := Lib.hid (HW.out.trans ((below_regrown wr dq osq).mono HW.out.size))
                        clear HW k
                        go_wp2
                        exact ⟨⟨j + 1, by omega, by simp, HW2⟩, by simp only [intOf]; omega⟩
                    · obtain rfl : j = y.nn := by omega
                      have HN := Lib.hid (H.out.below HW.out)
                      clear H
                      go_wp2
                      exact ⟨⟨i + 1, by omega, by simp, HN⟩, by simp only [intOf]; omega⟩
            · obtain rfl : i = hs.length := by omega
              have HT := Lib.hid H.out.turn
              clear H
              go_wp2
              go_ret
              exact ⟨rfl, HT.out⟩
end Go.Proofs.YtbkbokfegjodnaaDoor
