/- A value whose lists lie each in a block of its own: which blocks. Conditions: none. -/
import Derived.Test.YtnmojmmgkipjcaaGreatDoorCopyl
namespace Go.Proofs.YtnmojmmgkipjcaaGreatDoor
open Go.RowKit
/-- a slice's block -/
def ownA (a : Option Addr) : List Nat := match a with | some p => [p.block] | none => []
theorem ownA_own (a : Option Addr) (n c : Nat) : (Value.slice a n c).ownBlock.toList = ownA a := by cases a <;> rfl
mutual
/-- The five cells cs hold the tree t; every list of it is a row of its own; F: the rows' blocks. -/
def RepF (w : World) : JV → List Value → List Nat → Prop
  | .mk k n s ns is, cs, F => (-9223372036854775808 ≤ k ∧ k ≤ 9223372036854775807) ∧ (-9223372036854775808 ≤ n ∧ n ≤ 9223372036854775807) ∧ s.size ≤ maxLen ∧
    ∃ an cn ai ci xs Fs, cs = [.int .i64 k, .int .i64 n, .string s, .slice an ns.length cn, .slice ai is.length ci] ∧ Row w 9 1 (.slice an ns.length cn) ns.length (ns.map Value.string) ∧
      Row w 25 5 (.slice ai is.length ci) is.length xs ∧ RepsF w is xs Fs ∧ F = ownA an ++ (ownA ai ++ Fs)
def RepsF (w : World) : List JV → List Value → List Nat → Prop
  | [], xs, F => xs = [] ∧ F = []
  | t :: r, xs, F => ∃ cs ys Ft Fr, xs = cs ++ ys ∧ F = Ft ++ Fr ∧ RepF w t cs Ft ∧ RepsF w r ys Fr
end
theorem repF_mk {w : World} {k n : Int} {s : ByteArray} {ns : List ByteArray} {is : List JV} {cs : List Value} {F : List Nat} : RepF w (.mk k n s ns is) cs F ↔ (-9223372036854775808 ≤ k ∧ k ≤ 9223372036854775807) ∧ (-9223372036854775808 ≤ n ∧ n ≤ 9223372036854775807) ∧ s.size ≤ maxLen ∧
    ∃ an cn ai ci xs Fs, cs = [.int .i64 k, .int .i64 n, .string s, .slice an ns.length cn, .slice ai is.length ci] ∧ Row w 9 1 (.slice an ns.length cn) ns.length (ns.map Value.string) ∧
      Row w 25 5 (.slice ai is.length ci) is.length xs ∧ RepsF w is xs Fs ∧ F = ownA an ++ (ownA ai ++ Fs) := by rw [RepF]
theorem Row.same {w w' : World} {E size n : Nat} {v : Value} {xs : List Value} (h : Row w E size v n xs) (hb : ∀ g, v.ownBlock = some g → w'.heap[g]? = w.heap[g]?) : Row w' E size v n xs := by
  refine ⟨h.1, ?_⟩
  rcases h.2 with e | ⟨g, cap, cur, rfl, h0, hg, rest⟩
  · exact .inl e
  · exact .inr ⟨g, cap, cur, rfl, h0, (hb g rfl).trans hg, rest⟩
theorem ownA_mem {a : Option Addr} {n c g : Nat} (h : (Value.slice a n c).ownBlock = some g) : g ∈ ownA a := by
  rw [← ownA_own a n c, h]; simp
mutual
theorem RepF.kept {w w' : World} : ∀ (t : JV) (cs : List Value) (F : List Nat), RepF w t cs F → (∀ b ∈ F, w'.heap[b]? = w.heap[b]?) → RepF w' t cs F
  | .mk k n s ns is, cs, F, h, hb => by
    rw [repF_mk] at h ⊢
    obtain ⟨h1, h2, h3, an, cn, ai, ci, xs, Fs, rfl, r1, r2, r3, rfl⟩ := h
    exact ⟨h1, h2, h3, an, cn, ai, ci, xs, Fs, rfl, r1.same (fun g hg => hb g (by simp [ownA_mem hg])), r2.same (fun g hg => hb g (by simp [ownA_mem hg])), RepsF.kept is xs Fs r3 (fun b hm => hb b (by simp [hm])), rfl⟩
theorem RepsF.kept {w w' : World} : ∀ (l : List JV) (xs : List Value) (F : List Nat), RepsF w l xs F → (∀ b ∈ F, w'.heap[b]? = w.heap[b]?) → RepsF w' l xs F
  | [], xs, F, h, _ => by rw [RepsF] at h ⊢; exact h
  | t :: r, xs, F, h, hb => by
    rw [RepsF] at h ⊢
    obtain ⟨cs, ys, Ft, Fr, rfl, rfl, h1, h2⟩ := h
    exact ⟨cs, ys, Ft, Fr, rfl, rfl, RepF.kept t cs Ft h1 (fun b hm => hb b (by simp [hm])), RepsF.kept r ys Fr h2 (fun b hm => hb b (by simp [hm]))⟩
end
theorem Row.own_lt {w : World} {E size n : Nat} {a : Option Addr} {m c : Nat} {xs : List Value} (h : Row w E size (.slice a m c) n xs) : ∀ b ∈ ownA a, b < w.heap.size := by
  intro b hb
  cases a with
  | none => simp [ownA] at hb
  | some p =>
    simp only [ownA, List.mem_cons, List.not_mem_nil, or_false] at hb
    subst hb
    exact h.lt rfl
mutual
theorem RepF.lt {w : World} : ∀ (t : JV) (cs : List Value) (F : List Nat), RepF w t cs F → ∀ b ∈ F, b < w.heap.size
  | .mk k n s ns is, cs, F, h, b, hb => by
    rw [repF_mk] at h
    obtain ⟨_, _, _, an, cn, ai, ci, xs, Fs, _, r1, r2, r3, rfl⟩ := h
    simp only [List.mem_append] at hb
    rcases hb with hb | hb | hb
    · exact r1.own_lt b hb
    · exact r2.own_lt b hb
    · exact RepsF.lt is xs Fs r3 b hb
theorem RepsF.lt {w : World} : ∀ (l : List JV) (xs : List Value) (F : List Nat), RepsF w l xs F → ∀ b ∈ F, b < w.heap.size
  | [], xs, F, h, b, hb => by rw [RepsF] at h; rw [h.2] at hb; cases hb
  | t :: r, xs, F, h, b, hb => by
    rw [RepsF] at h
    obtain ⟨cs, ys, Ft, Fr, rfl, rfl, h1, h2⟩ := h
    rcases List.mem_append.1 hb with hb | hb
    · exact RepF.lt t cs Ft h1 b hb
    · exact RepsF.lt r ys Fr h2 b hb
end
theorem RepF.below {w w' : World} {t : JV} {cs : List Value} {F : List Nat} (h : RepF w t cs F) (hb : Below w.heap.size w w') : RepF w' t cs F :=
  RepF.kept t cs F h (fun b hm => hb.block b (RepF.lt t cs F h b hm))
theorem RepF.form {w : World} {t : JV} {cs : List Value} {F : List Nat} (h : RepF w t cs F) :
    ∃ an cn ai ci, cs = [.int .i64 t.kind, .int .i64 t.int, .string t.text, .slice an t.names.length cn, .slice ai t.items.length ci] := by
  cases t with
  | mk k n s ns is =>
    rw [repF_mk] at h
    obtain ⟨_, _, _, an, cn, ai, ci, _, _, rfl, _⟩ := h
    exact ⟨an, cn, ai, ci, rfl⟩
theorem RepF.len {w : World} {t : JV} {cs : List Value} {F : List Nat} (h : RepF w t cs F) : cs.length = 5 := by
  obtain ⟨an, cn, ai, ci, rfl⟩ := h.form; rfl
mutual
theorem RepF.rep {w : World} {ok : Nat → Prop} : ∀ (t : JV) (cs : List Value) (F : List Nat), RepF w t cs F → (∀ b ∈ F, ok b) → Rep w ok t cs
  | .mk k n s ns is, cs, F, h, hb => by
    rw [repF_mk] at h
    obtain ⟨h1, h2, h3, an, cn, ai, ci, xs, Fs, rfl, r1, r2, r3, rfl⟩ := h
    obtain ⟨an', cn', he1, hc1, hst⟩ := r1.strs (ok := ok) (fun g hg => hb g (by simp [ownA_mem hg]))
    injection he1 with e1 _ e2
    subst e1; subst e2
    obtain ⟨ai', ci', he2, hc2, hit⟩ := r2.items (ok := ok) (RepsF.rep is xs Fs r3 (fun b hm => hb b (by simp [hm]))) (fun g hg => hb g (by simp [ownA_mem hg]))
    injection he2 with e3 _ e4
    subst e3; subst e4
    exact rep_mk.2 ⟨h1, h2, h3, an, cn, ai, ci, rfl, hc1, hc2, hst, hit⟩
theorem RepsF.rep {w : World} {ok : Nat → Prop} : ∀ (l : List JV) (xs : List Value) (F : List Nat), RepsF w l xs F → (∀ b ∈ F, ok b) → Reps w ok l xs
  | [], xs, F, h, _ => by rw [RepsF] at h; rw [Reps]; exact h.1
  | t :: r, xs, F, h, hb => by
    rw [RepsF] at h
    obtain ⟨cs, ys, Ft, Fr, rfl, rfl, h1, h2⟩ := h
    exact ⟨cs, ys, rfl, RepF.rep t cs Ft h1 (fun b hm => hb b (by simp [hm])), RepsF.rep r ys Fr h2 (fun b hm => hb b (by simp [hm]))⟩
end
theorem RepsF.snoc {w : World} {t : JV} {cs : List Value} {Ft : List Nat} (ht : RepF w t cs Ft) : ∀ {l : List JV} {xs : List Value} {F : List Nat}, RepsF w l xs F → RepsF w (l ++ [t]) (xs ++ cs) (F ++ Ft)
  | [], xs, F, h => by
    rw [RepsF] at h
    obtain ⟨rfl, rfl⟩ := h
    rw [List.nil_append, RepsF]
    exact ⟨cs, [], Ft, [], by simp, by simp, ht, by rw [RepsF]; exact ⟨rfl, rfl⟩⟩
  | u :: r, xs, F, h => by
    rw [RepsF] at h
    obtain ⟨c, ys, Fu, Fr, rfl, rfl, h1, h2⟩ := h
    rw [List.cons_append, RepsF]
    exact ⟨c, ys ++ cs, Fu, Fr ++ Ft, by simp, by simp, h1, RepsF.snoc ht h2⟩
/-- A new value at B, its names copied, the items is copied so far into the row v; each list of its own; the block X is as it was. -/
structure MidF (w0 : World) (B X : Nat) (oX : Obj) (k n : Int) (s : ByteArray) (a : Option Addr) (ns : List ByteArray) (c : Nat) (is : List JV) (v : Value) (xs : List Value) (Fs : List Nat) (wr : World) : Prop where
  below : Below w0.heap.size w0 wr
  hB : w0.heap.size ≤ B
  hlt : B < wr.heap.size
  c0 : wr.cell? ⟨B, 0, none⟩ = some (.int .i64 k)
  c1 : wr.cell? ⟨B, 1, none⟩ = some (.int .i64 n)
  c2 : wr.cell? ⟨B, 2, none⟩ = some (.string s)
  c3 : wr.cell? ⟨B, 3, none⟩ = some (.slice a ns.length c)
  c4 : wr.cell? ⟨B, 4, none⟩ = some v
  f4 : wr.frozen? ⟨B, 4, none⟩ = false
  hX : X ≠ B
  xX : wr.heap[X]? = some oX
  names : Row wr 9 1 (.slice a ns.length c) ns.length (ns.map Value.string)
  row : Row wr 25 5 v is.length xs
  reps : RepsF wr is xs Fs
  dis : (ownA a ++ (v.ownBlock.toList ++ Fs)).Nodup
  fresh : ∀ b ∈ ownA a ++ (v.ownBlock.toList ++ Fs), w0.heap.size ≤ b ∧ b ≠ B ∧ b ≠ X
theorem MidF.lt {w0 : World} {B X : Nat} {oX : Obj} {k n : Int} {s : ByteArray} {a : Option Addr} {ns : List ByteArray} {c : Nat} {is : List JV} {v : Value} {xs : List Value} {Fs : List Nat} {wr : World} (h : MidF w0 B X oX k n s a ns c is v xs Fs wr) : ∀ b ∈ ownA a ++ (v.ownBlock.toList ++ Fs), b < wr.heap.size := by
  intro b hb
  simp only [List.mem_append] at hb
  rcases hb with hb | hb | hb
  · exact h.names.own_lt b hb
  · exact h.row.lt (by cases e : v.ownBlock with | none => rw [e] at hb; cases hb | some g => rw [e] at hb; simp at hb; rw [hb])
  · exact RepsF.lt is xs Fs h.reps b hb
theorem MidF.start {w0 wx : World} {B X : Nat} {oX : Obj} {k n : Int} {s : ByteArray} {a : Option Addr} {ns : List ByteArray} {c : Nat} (h1 : Below w0.heap.size w0 wx) (h2 : w0.heap.size ≤ B) (h3 : B < wx.heap.size)
    (c0 : wx.cell? ⟨B, 0, none⟩ = some (.int .i64 k)) (c1 : wx.cell? ⟨B, 1, none⟩ = some (.int .i64 n)) (c2 : wx.cell? ⟨B, 2, none⟩ = some (.string s)) (c3 : wx.cell? ⟨B, 3, none⟩ = some (.slice a ns.length c)) (c4 : wx.cell? ⟨B, 4, none⟩ = some (.slice none 0 0)) (f4 : wx.frozen? ⟨B, 4, none⟩ = false)
    (hX : X ≠ B) (xX : wx.heap[X]? = some oX) (hn : Row wx 9 1 (.slice a ns.length c) ns.length (ns.map Value.string)) (hf : ∀ b ∈ ownA a, w0.heap.size ≤ b ∧ b ≠ B ∧ b ≠ X) :
    MidF w0 B X oX k n s a ns c [] (.slice none 0 0) [] [] wx :=
  ⟨h1, h2, h3, c0, c1, c2, c3, c4, f4, hX, xX, hn, row_nil _ _ _, by rw [RepsF]; exact ⟨rfl, rfl⟩, by cases a <;> simp [ownA, Value.ownBlock], by simpa [Value.ownBlock] using hf⟩
theorem own_toList {v : Value} {g : Nat} : g ∈ v.ownBlock.toList ↔ v.ownBlock = some g := by cases v.ownBlock <;> simp [eq_comm]
theorem MidF.step {w0 : World} {B X : Nat} {oX : Obj} {k n : Int} {s : ByteArray} {a : Option Addr} {ns : List ByteArray} {c : Nat} {is : List JV} {v : Value} {xs : List Value} {Fs : List Nat} {wr : World} (h : MidF w0 B X oX k n s a ns c is v xs Fs wr)
    {t : JV} {cs : List Value} {Ft : List Nat} {w1 w2 w3 : World} {v' : Value} (hb : Below wr.heap.size wr w1) (ht : RepF w1 t cs Ft) (hd : Ft.Nodup) (hfr : ∀ b ∈ Ft, wr.heap.size ≤ b) (hb2 : Below w1.heap.size w1 w2)
    (hrow : Row w3 25 5 v' (is.length + 1) (xs ++ cs)) (hu : Upd w2 w3 v.ownBlock v'.ownBlock) :
    MidF w0 B X oX k n s a ns c (is ++ [t]) v' (xs ++ cs) (Fs ++ Ft) (w3.setCell ⟨B, 4, none⟩ v') := by
  have hB := h.hB
  have hlt := h.hlt
  have hXlt : X < wr.heap.size := (Array.getElem?_eq_some_iff.1 h.xX).1
  have hb3 : Below wr.heap.size wr w2 := hb.trans (hb2.mono hb.size)
  have hsz := hb.size
  have hsz2 := hb2.size
  have hsz3 := hu.grown.size
  have hw0 := h.below.size
  have hltF := h.lt
  have hftlt := RepF.lt t cs Ft ht
  have hownv : ∀ g, v.ownBlock = some g → w0.heap.size ≤ g ∧ g ≠ B ∧ g ≠ X ∧ g < wr.heap.size := fun g hg => by
    have hm : g ∈ ownA a ++ (v.ownBlock.toList ++ Fs) := by simp [own_toList.2 hg]
    have := h.fresh g hm
    exact ⟨this.1, this.2.1, this.2.2, hltF g hm⟩
  have hownB : v.ownBlock ≠ some B := fun e => (hownv B e).2.1 rfl
  have hownX : v.ownBlock ≠ some X := fun e => (hownv X e).2.2.1 rfl
  have hown' : ∀ g, v'.ownBlock = some g → (v.ownBlock = some g ∨ w2.heap.size ≤ g) := by
    intro g hg
    rcases hu.own with e | ⟨g', e, hg'⟩
    · rw [e] at hg; exact .inl hg
    · rw [e] at hg; obtain rfl := Option.some.inj hg; exact .inr hg'
  have hother : ∀ b, b < wr.heap.size → v.ownBlock ≠ some b → w3.heap[b]? = wr.heap[b]? := fun b hbl hne => (hu.block (by omega) hne).trans (hb3.block b hbl)
  have hset : ∀ b, b ≠ B → (w3.setCell ⟨B, 4, none⟩ v').heap[b]? = w3.heap[b]? := fun b hne => heap_setCell_other _ _ _ _ hne
  have hcell : ∀ (i : Nat) (u : Value), wr.cell? ⟨B, i, none⟩ = some u → w3.cell? ⟨B, i, none⟩ = some u := fun i u hc => by
    rw [World.cell?_of_block (w := wr) (hother B hlt hownB)]; exact hc
  have ne : ∀ {i : Nat}, i ≠ 4 → (⟨B, 4, none⟩ : Addr) ≠ ⟨B, i, none⟩ := fun h e => h (by injection e with _ e; exact e.symm)
  have hd0 := h.dis
  rw [List.nodup_append, List.nodup_append] at hd0
  obtain ⟨d1, ⟨d2, d3, d4⟩, d5⟩ := hd0
  have hnv : ∀ b ∈ ownA a, v.ownBlock ≠ some b := fun b hm e => d5 b hm b (by simp [own_toList.2 e]) rfl
  have hsv : ∀ b ∈ Fs, v.ownBlock ≠ some b := fun b hm e => d4 b (own_toList.2 e) b hm rfl
  have hF : ∀ b ∈ Fs, w0.heap.size ≤ b ∧ b ≠ B ∧ b ≠ X ∧ b < wr.heap.size := fun b hm => by
    have hm2 : b ∈ ownA a ++ (v.ownBlock.toList ++ Fs) := by simp [hm]
    exact ⟨(h.fresh b hm2).1, (h.fresh b hm2).2.1, (h.fresh b hm2).2.2, hltF b hm2⟩
  have hA : ∀ b ∈ ownA a, w0.heap.size ≤ b ∧ b ≠ B ∧ b ≠ X ∧ b < wr.heap.size := fun b hm => by
    have hm2 : b ∈ ownA a ++ (v.ownBlock.toList ++ Fs) := by simp [hm]
    exact ⟨(h.fresh b hm2).1, (h.fresh b hm2).2.1, (h.fresh b hm2).2.2, hltF b hm2⟩
  have hT : ∀ b ∈ Ft, wr.heap.size ≤ b ∧ b < w1.heap.size ∧ v.ownBlock ≠ some b := fun b hm => ⟨hfr b hm, hftlt b hm, fun e => by have := hownv b e; have := hfr b hm; omega⟩
  have hv'f : ∀ g, v'.ownBlock = some g → w0.heap.size ≤ g ∧ g ≠ B ∧ g ≠ X ∧ (∀ b ∈ ownA a, b ≠ g) ∧ (∀ b ∈ Fs, b ≠ g) ∧ (∀ b ∈ Ft, b ≠ g) := by
    intro g hg
    rcases hown' g hg with e | e
    · have := hownv g e
      exact ⟨this.1, this.2.1, this.2.2.1, fun b hm e2 => hnv b hm (e2 ▸ e), fun b hm e2 => hsv b hm (e2 ▸ e), fun b hm e2 => by have := hT b hm; omega⟩
    · exact ⟨by omega, by omega, by omega, fun b hm e2 => by have := hA b hm; omega, fun b hm e2 => by have := hF b hm; omega, fun b hm e2 => by have := hT b hm; omega⟩
  refine ⟨?_, hB, by simp; omega, ?_, ?_, ?_, ?_, ?_, ?_, h.hX, ?_, ?_, ?_, ?_, ?_, ?_⟩
  · have h1 : Below w0.heap.size w0 w2 := h.below.trans (hb3.mono h.below.size)
    exact (h1.trans (hu.below (Nat.le_trans h.below.size (by omega)) (fun g hg => (hownv g hg).1))).setCell (hB) _
  · rw [setO (ne (by decide))]; exact hcell _ _ h.c0
  · rw [setO (ne (by decide))]; exact hcell _ _ h.c1
  · rw [setO (ne (by decide))]; exact hcell _ _ h.c2
  · rw [setO (ne (by decide))]; exact hcell _ _ h.c3
  · rw [setS (hcell _ _ h.c4)]
  · rw [setF, World.frozen?_of_block (w := wr) (hother B hlt hownB)]; exact h.f4
  · rw [hset X h.hX, hother X hXlt hownX]; exact h.xX
  · exact h.names.same (fun g hg => by have hm := ownA_mem hg; rw [hset g (hA g hm).2.1, hother g (hA g hm).2.2.2 (hnv g hm)])
  · rw [List.length_append]
    exact hrow.same (fun g hg => hset g (hv'f g hg).2.1)
  · refine RepsF.snoc (RepF.kept t cs Ft ht (fun b hm => ?_)) (RepsF.kept is xs Fs h.reps (fun b hm => ?_))
    · have := hT b hm
      rw [hset b (by omega)]
      exact (hu.block (by omega) this.2.2).trans (hb2.block b this.2.1)
    · rw [hset b (hF b hm).2.1, hother b (hF b hm).2.2.2 (hsv b hm)]
  · rw [List.nodup_append, List.nodup_append]
    refine ⟨d1, ⟨by cases v'.ownBlock <;> simp, ?_, fun x hx y hy e => ?_⟩, fun x hx y hy e => ?_⟩
    · rw [List.nodup_append]
      exact ⟨d3, hd, fun x hx y hy e => by have := hF x hx; have := hT y hy; omega⟩
    · have := hv'f x (own_toList.1 hx)
      rcases List.mem_append.1 hy with hy | hy
      · exact this.2.2.2.2.1 y hy e.symm
      · exact this.2.2.2.2.2 y hy e.symm
    · simp only [List.mem_append] at hy
      rcases hy with hy | hy | hy
      · exact (hv'f y (own_toList.1 hy)).2.2.2.1 x hx e
      · exact d5 x hx y (by simp [hy]) e
      · have := hA x hx; have := hT y hy; omega
  · intro b hm
    simp only [List.mem_append] at hm
    rcases hm with hm | hm | hm | hm
    · have := hA b hm; exact ⟨this.1, this.2.1, this.2.2.1⟩
    · have := hv'f b (own_toList.1 hm); exact ⟨this.1, this.2.1, this.2.2.1⟩
    · have := hF b hm; exact ⟨this.1, this.2.1, this.2.2.1⟩
    · have := hT b hm; exact ⟨by omega, by omega, by omega⟩
theorem MidF.store {w0 : World} {B X : Nat} {oX : Obj} {k n : Int} {s : ByteArray} {a : Option Addr} {ns : List ByteArray} {c : Nat} {is : List JV} {v : Value} {xs : List Value} {Fs : List Nat} {wr : World} (h : MidF w0 B X oX k n s a ns c is v xs Fs wr)
    {w1 w2 w3 : World} {v' : Value} (hb : Below wr.heap.size wr w1) (hb2 : Below w1.heap.size w1 w2) (hu : Upd w2 w3 v.ownBlock v'.ownBlock) : w3.cell? ⟨B, 4, none⟩ = some v ∧ w3.frozen? ⟨B, 4, none⟩ = false := by
  have hlt := h.hlt
  have hsz := hb.size
  have hsz2 := hb2.size
  have hother : w3.heap[B]? = wr.heap[B]? := (hu.block (by omega) (fun e => (h.fresh B (by simp [own_toList.2 e])).2.1 rfl)).trans ((hb2.block B (by omega)).trans (hb.block B (by omega)))
  exact ⟨by rw [World.cell?_of_block (w := wr) hother]; exact h.c4, by rw [World.frozen?_of_block (w := wr) hother]; exact h.f4⟩
theorem MidF.row_at {w0 : World} {B X : Nat} {oX : Obj} {k n : Int} {s : ByteArray} {a : Option Addr} {ns : List ByteArray} {c : Nat} {is : List JV} {v : Value} {xs : List Value} {Fs : List Nat} {wr : World} (h : MidF w0 B X oX k n s a ns c is v xs Fs wr)
    {w1 w2 : World} (hb : Below wr.heap.size wr w1) (hb2 : Below w1.heap.size w1 w2) {j : Nat} (hj : is.length = j) : Row w2 25 5 v j xs := by
  subst hj
  exact (h.row.below hb).below hb2
/-- The value is whole. -/
theorem MidF.done {w0 : World} {B X : Nat} {oX : Obj} {k n : Int} {s : ByteArray} {a : Option Addr} {ns : List ByteArray} {c : Nat} {is : List JV} {v : Value} {xs : List Value} {Fs : List Nat} {wr : World} (h : MidF w0 B X oX k n s a ns c is v xs Fs wr)
    (hk : -9223372036854775808 ≤ k ∧ k ≤ 9223372036854775807) (hn : -9223372036854775808 ≤ n ∧ n ≤ 9223372036854775807) (hs : s.size ≤ maxLen) :
    ∃ ai ci F, v = .slice ai is.length ci ∧ RepF wr (.mk k n s ns is) [.int .i64 k, .int .i64 n, .string s, .slice a ns.length c, .slice ai is.length ci] F ∧ F.Nodup ∧ ∀ b ∈ F, w0.heap.size ≤ b ∧ b ≠ B ∧ b ≠ X := by
  obtain ⟨ai, ci, hv, _⟩ := h.row.form
  subst hv
  have hd := h.dis
  have hf := h.fresh
  rw [ownA_own] at hd hf
  exact ⟨ai, ci, _, rfl, repF_mk.2 ⟨hk, hn, hs, a, c, ai, ci, xs, Fs, rfl, h.names, h.row, h.reps, rfl⟩, hd, hf⟩
/-- What a copying answers: new memory, each list of its own. -/
def FreshPost (w : World) (t : JV) (e : Ending) (w' : World) : Prop := ∃ an cn ai ci F, e = .returned (.agg #[.int .i64 t.kind, .int .i64 t.int, .string t.text, .slice an t.names.length cn, .slice ai t.items.length ci]) ∧
  RepF w' t [.int .i64 t.kind, .int .i64 t.int, .string t.text, .slice an t.names.length cn, .slice ai t.items.length ci] F ∧ F.Nodup ∧ (∀ b ∈ F, w.heap.size ≤ b) ∧ Below w.heap.size w w'
end Go.Proofs.YtnmojmmgkipjcaaGreatDoor
