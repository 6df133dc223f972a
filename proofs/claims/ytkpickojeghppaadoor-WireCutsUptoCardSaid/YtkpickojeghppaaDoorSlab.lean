/- Slices that a struct owns: cells in a block of its own, from some place on; appends to them. Over any program. Conditions: what the laws name. -/
import Derived.Test.YtkpickojeghppaaDoorOwn
import Derived.Deep.AppendSrc
import Derived.Deep.MidRow
namespace Go.Proofs.YtkpickojeghppaaDoor
open Go.RowKit
/-- v, of n elements, lies in a block of its own, from some place on, and holds the cells xs -/
def Slab (w : World) (size : Nat) (v : Value) (n : Nat) (xs : List Value) : Prop :=
  xs.length = n * size ∧ ((v = .slice none 0 0 ∧ n = 0) ∨ ∃ g off cap, v = .slice (some ⟨g, off, none⟩) n cap ∧ n ≤ cap ∧ cap ≤ maxLen ∧ g < w.heap.size ∧ w.rangeAt g off xs ∧ w.there g off (cap * size))
theorem slab_nil (w : World) (size : Nat) : Slab w size (.slice none 0 0) 0 [] := ⟨by simp, .inl ⟨rfl, rfl⟩⟩
theorem rangeAt_same {w w' : World} {g o : Nat} {xs : List Value} (h : w.rangeAt g o xs) (hb : w'.heap[g]? = w.heap[g]?) : w'.rangeAt g o xs := fun j v hj => by
  rw [World.cell?_of_block (w := w) hb]; exact h j v hj
theorem there_same {w w' : World} {g o n : Nat} (h : w.there g o n) (hb : w'.heap[g]? = w.heap[g]?) : w'.there g o n := fun j hj => by
  rw [World.cell?_of_block (w := w) hb, World.frozen?_of_block (w := w) hb]; exact h j hj
theorem lt_of_same {w w' : World} {g : Nat} (h : g < w.heap.size) (hb : w'.heap[g]? = w.heap[g]?) : g < w'.heap.size := by
  rcases Nat.lt_or_ge g w'.heap.size with h' | h'
  · exact h'
  · rw [Array.getElem?_eq_none h'] at hb
    rw [Array.getElem?_eq_getElem h] at hb
    cases hb
theorem Slab.same {w w' : World} {size n : Nat} {v : Value} {xs : List Value} (h : Slab w size v n xs) (hb : ∀ g, v.ownBlock = some g → w'.heap[g]? = w.heap[g]?) : Slab w' size v n xs := by
  refine ⟨h.1, ?_⟩
  rcases h.2 with h | ⟨g, off, cap, rfl, h1, h2, h3, h4, h5⟩
  · exact .inl h
  · have e := hb g rfl
    exact .inr ⟨g, off, cap, rfl, h1, h2, lt_of_same h3 e, rangeAt_same h4 e, there_same h5 e⟩
theorem Slab.lt {w : World} {size n : Nat} {v : Value} {xs : List Value} (h : Slab w size v n xs) {g : Nat} (hg : v.ownBlock = some g) : g < w.heap.size := by
  rcases h.2 with ⟨rfl, _⟩ | ⟨g', off, cap, rfl, h1, h2, h3, _⟩
  · cases hg
  · have : g' = g := Option.some.inj hg
    rw [← this]; exact h3
theorem Slab.below {w w' : World} {size n : Nat} {v : Value} {xs : List Value} (h : Slab w size v n xs) (hb : Below w.heap.size w w') : Slab w' size v n xs :=
  h.same fun g hg => hb.block g (h.lt hg)
theorem Slab.kept {w w' : World} {size n : Nat} {v : Value} {xs : List Value} {r r' : Option Nat} (h : Slab w size v n xs) (hu : Upd w w' r r') (hne : ∀ g, v.ownBlock = some g → r ≠ some g) : Slab w' size v n xs :=
  h.same fun g hg => hu.block (h.lt hg) (hne g hg)
/-- what a slab's slice looks like -/
theorem Slab.form {w : World} {size n : Nat} {v : Value} {xs : List Value} (h : Slab w size v n xs) : ∃ A cap, v = .slice A n cap ∧ n ≤ cap ∧ cap ≤ maxLen ∧
    ((A = none ∧ n = 0 ∧ cap = 0 ∧ xs = []) ∨ ∃ g off, A = some ⟨g, off, none⟩ ∧ v.ownBlock = some g ∧ g < w.heap.size ∧ w.rangeAt g off xs ∧ w.there g off (cap * size)) := by
  rcases h.2 with ⟨rfl, rfl⟩ | ⟨g, off, cap, rfl, h1, h2, h3, h4, h5⟩
  · exact ⟨none, 0, rfl, Nat.le_refl _, Nat.zero_le _, .inl ⟨rfl, rfl, rfl, List.eq_nil_of_length_eq_zero (by rw [h.1]; simp)⟩⟩
  · exact ⟨_, cap, rfl, h1, h2, .inr ⟨g, off, rfl, rfl, h3, h4, h5⟩⟩
theorem rangeAt_append {w : World} {g o : Nat} {a b : List Value} (ha : w.rangeAt g o a) (hb : w.rangeAt g (o + a.length) b) : w.rangeAt g o (a ++ b) := fun j v hj => by
  rcases Nat.lt_or_ge j a.length with h | h
  · rw [List.getElem?_append_left h] at hj; exact ha j v hj
  · rw [List.getElem?_append_right h] at hj
    have := hb _ v hj
    rwa [Nat.add_assoc, Nat.add_sub_cancel' h] at this
theorem rangeAt_left {w : World} {g o : Nat} {a b : List Value} (h : w.rangeAt g o (a ++ b)) : w.rangeAt g o a := fun j v hj => h j v (by rw [List.getElem?_append_left (List.getElem?_eq_some_iff.1 hj).1]; exact hj)
theorem rangeAt_drop {w : World} {g o : Nat} {a : List Value} (h : w.rangeAt g o a) (k : Nat) : w.rangeAt g (o + k) (a.drop k) := fun j v hj => by
  rw [List.getElem?_drop] at hj
  rw [Nat.add_assoc]; exact h _ v hj
theorem rangeAt_take {w : World} {g o : Nat} {a : List Value} (h : w.rangeAt g o a) (k : Nat) : w.rangeAt g o (a.take k) := fun j v hj => by
  rw [List.getElem?_take] at hj
  split at hj
  · exact h j v hj
  · cases hj
theorem rangeAt_of_block {w : World} {g : Nat} {cs : Array Value} {E : TypeId} {xs ys : List Value} (hh : w.heap[g]? = some (.cells cs E (0, 0))) (h : cs.toList = xs ++ ys) : w.rangeAt g 0 xs := fun j v hj => by
  simp only [World.cell?, hh, Nat.zero_add]
  have : cs.toList[j]? = some v := by rw [h, List.getElem?_append_left (List.getElem?_eq_some_iff.1 hj).1]; exact hj
  simpa using this
theorem there_of_block {w : World} {g : Nat} {cs : Array Value} {E : TypeId} {n : Nat} (hh : w.heap[g]? = some (.cells cs E (0, 0))) (h : n ≤ cs.size) : w.there g 0 n := fun j hj => by
  refine ⟨?_, frozen_of_row _ _ _ _ _ hh⟩
  simp only [World.cell?, hh, Nat.zero_add]
  rw [Array.getElem?_eq_getElem (by omega)]
  rfl
theorem Upd.of_setCell (w : World) (p : Addr) (u : Value) : Upd w (w.setCell p u) (some p.block) (some p.block) :=
  ⟨⟨rfl, rfl, rfl, by simp, fun k _ hne => heap_setCell_other _ _ _ _ (fun e => hne (by rw [e]))⟩, .inl rfl⟩
theorem upd_setCells (g : Nat) : ∀ (vs : List Value) (w : World) (o : Nat), Upd w (w.setCells g o vs) (some g) (some g)
  | [], w, _ => Upd.refl w _
  | v :: r, w, o => by
    rw [World.setCells]
    exact (Upd.of_setCell w ⟨g, o, none⟩ v).trans (upd_setCells g r _ (o + 1))
section
variable {P : Program} {S E : TypeId} {z : Value} {size bytes : Nat} {w : World}
/-- append, whatever is appended -/
theorem run_app_slab (ty : SlTy P S E z size bytes) (tx tt : TypeId) (v : Value) (n : Nat) (xs : List Value) (hown : Slab w size v n xs) (x : Value) (m : Nat) (news : List Value) (hs : Src P size tx x m news w) (h63 : n + m ≤ maxLen) (hbytes : (n + m) * bytes ≤ 140737488355328) :
    ∃ v' w', (Builtin.append_ #[S, tx] tt #[v, x]).run P w = .ok v' w' ∧ Slab w' size v' (n + m) (xs ++ news) ∧ Upd w w' v.ownBlock v'.ownBlock := by
  obtain ⟨i0, hi, hz0, hz1, hz2⟩ := info_parts ty.info
  have hlen : (xs ++ news).length = (n + m) * size := by rw [List.length_append, hown.1, hs.newsLen, Nat.add_mul]
  have hml : maxLen ≤ 9223372036854775807 := by unfold maxLen; omega
  have grow : ∀ (base : Option Addr) (cap : Nat), (Builtin.firstCells i0.size n (.slice base n cap)).run P w.drew = .ok xs.toArray w.drew → cap < n + m → v = .slice base n cap →
      ∃ v' w', (Builtin.append_ #[S, tx] tt #[v, x]).run P w = .ok v' w' ∧ Slab w' size v' (n + m) (xs ++ news) ∧ Upd w w' v.ownBlock v'.ownBlock := by
    intro base cap hold hg hv
    have hr := run_append_grow_src (P := P) w S tx tt E i0 z ty.slice hi hz0 base n cap xs hold x m news (by rw [hz1]; exact hs) hg (by omega) (growslice_fits hg (by rw [hz2]; exact hbytes))
    have hge := grownCap_ge w (n + m) cap E
    have hle := grownCap_le_maxLen w (n + m) cap E h63
    generalize grownCap w (n + m) cap E = K at *
    have hh := heap_alloc_new w.drew (.cells ((xs ++ news).toArray ++ Builtin.zeroCells z.cells (K - (n + m))) E)
    have hzl : (Builtin.zeroCells z.cells (K - (n + m))).size = (K - (n + m)) * size := by rw [size_zeroCells, ty.cells]
    rw [hv]
    refine ⟨_, _, hr, ⟨hlen, .inr ⟨_, 0, K, rfl, hge, hle, by simp, rangeAt_of_block hh (ys := (Builtin.zeroCells z.cells (K - (n + m))).toList) (by simp), there_of_block hh ?_⟩⟩, ?_⟩
    · rw [Array.size_append, hzl, List.size_toArray, hlen, ← Nat.add_mul]
      exact Nat.le_of_eq (by congr 1; omega)
    · have hb : Below w.heap.size w (w.drew.alloc (.cells ((xs ++ news).toArray ++ Builtin.zeroCells z.cells (K - (n + m))) E)) := (Below.drew (Below.refl _ _)).alloc (by simp) _
      exact ⟨(Upd.of_below hb (v.ownBlock)).grown |> fun h => by rw [hv] at h; exact h, .inr ⟨_, rfl, by simp⟩⟩
  rcases hown.2 with ⟨rfl, rfl⟩ | ⟨g, off, cap, rfl, h1, h2, h3, h4, h5⟩
  · obtain rfl : xs = [] := List.eq_nil_of_length_eq_zero (by rw [hown.1]; simp)
    by_cases hm : m = 0
    · subst hm
      obtain rfl : news = [] := List.eq_nil_of_length_eq_zero (by rw [hs.newsLen]; simp)
      refine ⟨.slice none 0 0, w, ?_, by simpa using slab_nil w size, Upd.refl _ _⟩
      have hl := hs.len
      have hc := hs.cells
      rw [← hz1] at hc
      rcases hs.kind with ⟨e', hk⟩ | hk <;>
        simp [Builtin.append_, run_underlying ty.slice, run_underlying hk, sizeOf, typeInfo, hi, hl, hc]
    · exact grow none 0 (run_firstCells_none _ _ _ _ _) (by omega) rfl
  · by_cases hroom : n + m ≤ cap
    · have hin : ∀ j, j < news.length → off + n * size + j < off + cap * size := fun j hj => by
        rw [hs.newsLen] at hj
        have : (n + m) * size ≤ cap * size := Nat.mul_le_mul_right _ hroom
        rw [Nat.add_mul] at this
        omega
      have hr := run_append_room_src (P := P) w S tx tt E i0 ty.slice hi g off n cap x m news (by rw [hz1]; exact hs) hroom (fun j hj => by
        have := (h5 (n * size + j) (by have := hin j hj; omega)).1
        rw [hz1, Nat.add_assoc]; exact this) (fun j hj => by
        have := (h5 (n * size + j) (by have := hin j hj; omega)).2
        rw [hz1, Nat.add_assoc]; exact this)
      rw [hz1] at hr
      refine ⟨_, _, hr, ⟨hlen, .inr ⟨g, off, cap, rfl, hroom, h2, ?_, rangeAt_append ?_ ?_, World.there_setCells h5 _ _ _⟩⟩, upd_setCells g _ _ _⟩
      · exact Nat.lt_of_lt_of_le h3 (upd_setCells g _ _ _).grown.size
      · refine World.rangeAt_setCells_apart h4 _ _ _ (.inr (.inl ?_))
        rw [hown.1]; exact Nat.le_refl _
      · rw [hown.1]
        refine World.rangeAt_setCells_same w g _ news fun j hj => ?_
        have := h5 (n * size + j) (by have := hin j hj; omega)
        rw [Nat.add_assoc]; exact this
    · refine grow _ cap ?_ (by omega) rfl
      refine run_firstCells_some _ _ _ _ _ _ _ (by rw [hz1]; exact hown.1) fun j u hj => ?_
      rw [Addr.add_mid]
      have := h4 j u hj
      simpa using this
theorem wpList_slab {ops : Array Oper} {rest : List Oper} {o : Oper} {a : Act} {Q : Exit → Act → World → Prop} (ty : SlTy P S E z size bytes) (tx : TypeId) (hgd : o.guard = none) (s y : Operand)
    (ho : o.op = .call { callee := .builtin .append, args := #[s, y], argTypes := #[S, tx] })
    (v : Value) (n : Nat) (xs : List Value) (hv : a.eval s = v) (hown : Slab w size v n xs) (x : Value) (hx : a.eval y = x) (m : Nat) (news : List Value) (hs : Src P size tx x m news w)
    (h63 : n + m ≤ maxLen) (hbytes : (n + m) * bytes ≤ 140737488355328)
    (h : ∀ v' w', Slab w' size v' (n + m) (xs ++ news) → Upd w w' v.ownBlock v'.ownBlock → wpList P ops Q rest (a.put o.dst v') w') : wpList P ops Q (o :: rest) a w :=
  wpList_plain hgd fun _ hK => by
    obtain ⟨v', w', hr, h2, h3⟩ := run_app_slab (w := w) ty tx o.type v n xs hown x m news hs h63 hbytes
    unfold Oper.wp execOp
    simp only [ho, resolve, invoke, builtin, Sem.run_bind, Sem.run_pure, Result.andThen_ok, List.map_toArray, List.map_cons, List.map_nil, hv, hx, hr]
    exact hK _ _ (h v' w' h2 h3)
end
end Go.Proofs.YtkpickojeghppaaDoor
