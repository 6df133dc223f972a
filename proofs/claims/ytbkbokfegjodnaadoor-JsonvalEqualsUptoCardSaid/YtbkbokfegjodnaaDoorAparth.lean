/- For apart: the value that grows in its second loop; what the later loops read. Conditions: none. -/
import Derived.Test.YtbkbokfegjodnaaDoorApartk
namespace Go.Proofs.YtbkbokfegjodnaaDoor
open Go.RowKit
/-- g, at X, holds the handle's lists, the names grown by kn, the items by ki -/
structure GrAt (w0 : World) (x : Hd) (q X kn ki : Nat) (gn : Option Addr) (gc : Nat) (gi : Option Addr) (gd : Nat) (w : World) : Prop where
  turn : Turn (fun g => g ∈ x.own) w0 w
  hX : w0.heap.size ≤ X
  lt : ∀ b ∈ x.own, b < w0.heap.size
  dis : ∀ b ∈ ownA x.an, b ∉ ownA x.ai
  c0 : w.cell? ⟨X, 0, none⟩ = some (.int .i64 0)
  c1 : w.cell? ⟨X, 1, none⟩ = some (.int .i64 0)
  c2 : w.cell? ⟨X, 2, none⟩ = some (.string ⟨#[]⟩)
  c3 : w.cell? ⟨X, 3, none⟩ = some (.slice gn (x.nn + kn) gc)
  c4 : w.cell? ⟨X, 4, none⟩ = some (.slice gi (x.mm + ki) gd)
  f3 : w.frozen? ⟨X, 3, none⟩ = false
  f4 : w.frozen? ⟨X, 4, none⟩ = false
  nrow : Row w 9 1 (.slice gn (x.nn + kn) gc) (x.nn + kn) (List.replicate (x.nn + kn) (dg q))
  irow : Row w 28 5 (.slice gi (x.mm + ki) gd) (x.mm + ki) (marks (q : Int) (x.mm + ki))
  on : ∀ b ∈ ownA gn, (b ∈ ownA x.an ∨ w0.heap.size ≤ b) ∧ b ≠ X
  oi : ∀ b ∈ ownA gi, (b ∈ ownA x.ai ∨ w0.heap.size ≤ b) ∧ b ≠ X
  old : Mk w q x
theorem GrAt.below {w0 w w' : World} {x : Hd} {q X kn ki : Nat} {gn : Option Addr} {gc : Nat} {gi : Option Addr} {gd : Nat} (h : GrAt w0 x q X kn ki gn gc gi gd w) (hb : Below w.heap.size w w') : GrAt w0 x q X kn ki gn gc gi gd w' :=
  ⟨h.turn.trans (Turn.of_below hb), h.hX, h.lt, h.dis, cell_below hb h.c0, cell_below hb h.c1, cell_below hb h.c2, cell_below hb h.c3, cell_below hb h.c4, by rw [World.frozen?_of_block (w := w) (hb.block X (cell_lt h.c3))]; exact h.f3, by rw [World.frozen?_of_block (w := w) (hb.block X (cell_lt h.c4))]; exact h.f4,
    h.nrow.below hb, h.irow.below hb, h.on, h.oi, h.old.below hb⟩
theorem marks_app (q : Int) (n : Nat) : marks q n ++ markV q = marks q (n + 1) := rfl
/-- an item has come -/
theorem GrAt.iapp {w0 w w' : World} {x : Hd} {q X kn ki : Nat} {gn : Option Addr} {gc : Nat} {gi gi' : Option Addr} {gd gd' : Nat} (h : GrAt w0 x q X kn ki gn gc gi gd w)
    (hu : Upd w w' (Value.slice gi (x.mm + ki) gd).ownBlock (Value.slice gi' (x.mm + ki + 1) gd').ownBlock) (hr : Row w' 28 5 (.slice gi' (x.mm + ki + 1) gd') (x.mm + ki + 1) (marks (q : Int) (x.mm + ki) ++ markV (q : Int)))
    (hst : ∀ g, (Value.slice gi (x.mm + ki) gd).ownBlock = some g → ∀ j u, (marks (q : Int) (x.mm + ki))[j]? = some u → w'.cell? ⟨g, j, none⟩ = some u) :
    w'.cell? ⟨X, 4, none⟩ = some (.slice gi (x.mm + ki) gd) ∧ w'.frozen? ⟨X, 4, none⟩ = false ∧ GrAt w0 x q X kn (ki + 1) gn gc gi' gd' (w'.setCell ⟨X, 4, none⟩ (.slice gi' (x.mm + ki + 1) gd')) := by
  have hne : (Value.slice gi (x.mm + ki) gd).ownBlock ≠ some X := fun e => (h.oi X (ownA_mem e)).2 rfl
  have hXw : X < w.heap.size := cell_lt h.c4
  have e : w'.heap[X]? = w.heap[X]? := hu.block hXw hne
  have kc : ∀ j, w'.cell? ⟨X, j, none⟩ = w.cell? ⟨X, j, none⟩ := fun j => World.cell?_of_block e
  have kf : ∀ j, w'.frozen? ⟨X, j, none⟩ = w.frozen? ⟨X, j, none⟩ := fun j => World.frozen?_of_block e
  have ne4 : ∀ {j}, j ≠ 4 → (⟨X, 4, none⟩ : Addr) ≠ ⟨X, j, none⟩ := fun hj e => hj (by injection e with _ e; exact e.symm)
  have hs0 := h.turn.size
  have hsu := hu.grown.size
  have hoi : ∀ b ∈ ownA gi', (b ∈ ownA x.ai ∨ w0.heap.size ≤ b) ∧ b ≠ X := fun b hb => by
    have hb' := ownA_elim (n := x.mm + ki + 1) (c := gd') hb
    rcases hu.own with e | ⟨p, e, hp⟩
    · exact h.oi b (ownA_mem (by rw [← e]; exact hb'))
    · rw [e] at hb'; injection hb' with hb'; subst hb'; exact ⟨.inr (by omega), by omega⟩
  have hgi : ∀ b, (Value.slice gi (x.mm + ki) gd).ownBlock = some b → b ∈ x.own ∨ w0.heap.size ≤ b := fun b hb => (h.oi b (ownA_mem hb)).1.imp (fun k => by simp [Hd.own, k]) id
  have hset : ∀ b, b ≠ X → (w'.setCell ⟨X, 4, none⟩ (.slice gi' (x.mm + ki + 1) gd')).heap[b]? = w'.heap[b]? := fun b hb => heap_setCell_other w' ⟨X, 4, none⟩ b _ hb
  have hrown : Row w' 9 1 (.slice gn (x.nn + kn) gc) (x.nn + kn) (List.replicate (x.nn + kn) (dg q)) := h.nrow.same (fun b hb => hu.block (h.nrow.lt hb) (fun e => own_ty h.nrow h.irow (by decide) hb e))
  refine ⟨(kc 4).trans h.c4, (kf 4).trans h.f4, ?_, h.hX, h.lt, h.dis, ?_, ?_, ?_, ?_, setS ((kc 4).trans h.c4), ?_, ?_, ?_, ?_, h.on, hoi, ?_⟩
  · exact (h.turn.upd hu hgi).set (.inr h.hX) 4 _
  · rw [setO (ne4 (by decide)), kc]; exact h.c0
  · rw [setO (ne4 (by decide)), kc]; exact h.c1
  · rw [setO (ne4 (by decide)), kc]; exact h.c2
  · rw [setO (ne4 (by decide)), kc]; exact h.c3
  · rw [setF, kf]; exact h.f3
  · rw [setF, kf]; exact h.f4
  · exact hrown.same (fun b hb => hset b (h.on b (ownA_mem hb)).2)
  · exact hr.same (fun b hb => hset b (hoi b (ownA_mem hb)).2)
  · refine ⟨fun k hk => ?_, fun k hk => ?_⟩
    · obtain ⟨g, ea, hc⟩ := h.old.n k hk
      have hga : g ∈ ownA x.an := by rw [ea]; simp [ownA]
      have hlt := h.lt g (own_n ea)
      have hX := h.hX
      refine ⟨g, ea, ?_⟩
      rw [setO (fun e => by injection e with e; omega)]
      refine hu.cell hc (fun e => ?_)
      rcases (h.oi g (ownA_mem e)).1 with k1 | k1
      · exact h.dis g hga k1
      · omega
    · obtain ⟨g, ea, hc⟩ := h.old.i k hk
      have hlt := h.lt g (own_i ea)
      have hX := h.hX
      refine ⟨g, ea, ?_⟩
      rw [setO (fun e => by injection e with e; omega)]
      by_cases hg : (Value.slice gi (x.mm + ki) gd).ownBlock = some g
      · exact hst g hg _ _ (marks_at _ (by omega))
      · exact hu.cell hc hg
/-- a name has come -/
theorem GrAt.napp {w0 w w' : World} {x : Hd} {q X kn ki : Nat} {gn gn' : Option Addr} {gc gc' : Nat} {gi : Option Addr} {gd : Nat} (h : GrAt w0 x q X kn ki gn gc gi gd w)
    (hu : Upd w w' (Value.slice gn (x.nn + kn) gc).ownBlock (Value.slice gn' (x.nn + kn + 1) gc').ownBlock) (hr : Row w' 9 1 (.slice gn' (x.nn + kn + 1) gc') (x.nn + kn + 1) (List.replicate (x.nn + kn) (dg q) ++ [dg q]))
    (hst : ∀ g, (Value.slice gn (x.nn + kn) gc).ownBlock = some g → ∀ j u, (List.replicate (x.nn + kn) (dg q))[j]? = some u → w'.cell? ⟨g, j, none⟩ = some u) :
    w'.cell? ⟨X, 3, none⟩ = some (.slice gn (x.nn + kn) gc) ∧ w'.frozen? ⟨X, 3, none⟩ = false ∧ GrAt w0 x q X (kn + 1) ki gn' gc' gi gd (w'.setCell ⟨X, 3, none⟩ (.slice gn' (x.nn + kn + 1) gc')) := by
  have hne : (Value.slice gn (x.nn + kn) gc).ownBlock ≠ some X := fun e => (h.on X (ownA_mem e)).2 rfl
  have hXw : X < w.heap.size := cell_lt h.c3
  have e : w'.heap[X]? = w.heap[X]? := hu.block hXw hne
  have kc : ∀ j, w'.cell? ⟨X, j, none⟩ = w.cell? ⟨X, j, none⟩ := fun j => World.cell?_of_block e
  have kf : ∀ j, w'.frozen? ⟨X, j, none⟩ = w.frozen? ⟨X, j, none⟩ := fun j => World.frozen?_of_block e
  have ne3 : ∀ {j}, j ≠ 3 → (⟨X, 3, none⟩ : Addr) ≠ ⟨X, j, none⟩ := fun hj e => hj (by injection e with _ e; exact e.symm)
  have hs0 := h.turn.size
  have hsu := hu.grown.size
  have hon : ∀ b ∈ ownA gn', (b ∈ ownA x.an ∨ w0.heap.size ≤ b) ∧ b ≠ X := fun b hb => by
    have hb' := ownA_elim (n := x.nn + kn + 1) (c := gc') hb
    rcases hu.own with e | ⟨p, e, hp⟩
    · exact h.on b (ownA_mem (by rw [← e]; exact hb'))
    · rw [e] at hb'; injection hb' with hb'; subst hb'; exact ⟨.inr (by omega), by omega⟩
  have hgn : ∀ b, (Value.slice gn (x.nn + kn) gc).ownBlock = some b → b ∈ x.own ∨ w0.heap.size ≤ b := fun b hb => (h.on b (ownA_mem hb)).1.imp (fun k => by simp [Hd.own, k]) id
  have hset : ∀ b, b ≠ X → (w'.setCell ⟨X, 3, none⟩ (.slice gn' (x.nn + kn + 1) gc')).heap[b]? = w'.heap[b]? := fun b hb => heap_setCell_other w' ⟨X, 3, none⟩ b _ hb
  have hrowi : Row w' 28 5 (.slice gi (x.mm + ki) gd) (x.mm + ki) (marks (q : Int) (x.mm + ki)) := h.irow.same (fun b hb => hu.block (h.irow.lt hb) (fun e => own_ty h.nrow h.irow (by decide) e hb))
  refine ⟨(kc 3).trans h.c3, (kf 3).trans h.f3, ?_, h.hX, h.lt, h.dis, ?_, ?_, ?_, setS ((kc 3).trans h.c3), ?_, ?_, ?_, ?_, ?_, hon, h.oi, ?_⟩
  · exact (h.turn.upd hu hgn).set (.inr h.hX) 3 _
  · rw [setO (ne3 (by decide)), kc]; exact h.c0
  · rw [setO (ne3 (by decide)), kc]; exact h.c1
  · rw [setO (ne3 (by decide)), kc]; exact h.c2
  · rw [setO (ne3 (by decide)), kc]; exact h.c4
  · rw [setF, kf]; exact h.f3
  · rw [setF, kf]; exact h.f4
  · rw [show x.nn + (kn + 1) = x.nn + kn + 1 from rfl, List.replicate_succ']
    exact hr.same (fun b hb => hset b (hon b (ownA_mem hb)).2)
  · exact hrowi.same (fun b hb => hset b (h.oi b (ownA_mem hb)).2)
  · refine ⟨fun k hk => ?_, fun k hk => ?_⟩
    · obtain ⟨g, ea, hc⟩ := h.old.n k hk
      have hlt := h.lt g (own_n ea)
      have hX := h.hX
      refine ⟨g, ea, ?_⟩
      rw [setO (fun e => by injection e with e; omega)]
      by_cases hg : (Value.slice gn (x.nn + kn) gc).ownBlock = some g
      · exact hst g hg _ _ (by rw [List.getElem?_replicate, if_pos (by omega)])
      · exact hu.cell hc hg
    · obtain ⟨g, ea, hc⟩ := h.old.i k hk
      have hga : g ∈ ownA x.ai := by rw [ea]; simp [ownA]
      have hlt := h.lt g (own_i ea)
      have hX := h.hX
      refine ⟨g, ea, ?_⟩
      rw [setO (fun e => by injection e with e; omega)]
      refine hu.cell hc (fun e => ?_)
      rcases (h.on g (ownA_mem e)).1 with k1 | k1
      · exact h.dis g k1 hga
      · omega
/-- the handle that has grown -/
def grown (x : Hd) (gn : Option Addr) (gc : Nat) (gi : Option Addr) (gd : Nat) : Hd := ⟨0, 0, ⟨#[]⟩, gn, x.nn + 16, gc, gi, x.mm + 16, gd⟩
theorem GrAt.whole {w0 w : World} {x : Hd} {q X : Nat} {gn : Option Addr} {gc : Nat} {gi : Option Addr} {gd : Nat} (h : GrAt w0 x q X 16 16 gn gc gi gd w) : Mk w q (grown x gn gc gi gd) :=
  Full.mk (h := grown x gn gc gi gd) ⟨h.nrow, h.irow⟩
/-- the fourth loop: the handles ahead of i have grown -/
structure ApG (w0 : World) (hs : List Hd) (a : Option Addr) (c i : Nat) (ga : Option Addr) (gc : Nat) (gs : List Hd) (w : World) : Prop where
  turn : Turn (fun g => g ∈ hs.flatMap Hd.own) w0 w
  row : Row w 28 5 (.slice a hs.length c) hs.length (hs.flatMap Hd.cells)
  gl : gs.length = i
  grow : Row w 28 5 (.slice ga i gc) i (gs.flatMap Hd.cells)
  gfr : ∀ b ∈ ownA ga, w0.heap.size ≤ b ∧ b ∉ ownA a
  done : ∀ q x y, hs[q]? = some x → gs[q]? = some y → Mk w q x ∧ Mk w q y ∧ y.nn = x.nn + 16 ∧ y.mm = x.mm + 16 ∧ ∀ b ∈ y.own, b < w.heap.size ∧ b ∉ ownA ga ∧ (b ∈ x.own ∨ w0.heap.size ≤ b)
  full : ∀ q x, hs[q]? = some x → i ≤ q → Full w q x
theorem ApA.grow {w0 w : World} {hs : List Hd} {a : Option Addr} {c : Nat} (h : ApA w0 hs a c hs.length w) : ApG w0 hs a c 0 none 0 [] w :=
  ⟨h.turn, h.row, rfl, row_nil _ _ _, fun b hb => by simp [ownA] at hb, fun q x y _ hy => by simp at hy, fun q x hx _ => h.done q x hx (List.getElem?_eq_some_iff.1 hx).1⟩
theorem ApG.below {w0 w w' : World} {hs : List Hd} {a : Option Addr} {c i : Nat} {ga : Option Addr} {gc : Nat} {gs : List Hd} (h : ApG w0 hs a c i ga gc gs w) (hb : Below w.heap.size w w') : ApG w0 hs a c i ga gc gs w' :=
  ⟨h.turn.trans (Turn.of_below hb), h.row.below hb, h.gl, h.grow.below hb, h.gfr, fun q x y hx hy => by
    obtain ⟨k1, k2, k3, k4, k5⟩ := h.done q x y hx hy
    exact ⟨k1.below hb, k2.below hb, k3, k4, fun b hm => ⟨Nat.lt_of_lt_of_le (k5 b hm).1 hb.size, (k5 b hm).2⟩⟩, fun q x hx hi => (h.full q x hx hi).keep (fun b _ hl => hb.block b hl)⟩
theorem ApG.start {w0 w : World} {hs : List Hd} {a : Option Addr} {c i : Nat} {ga : Option Addr} {gc : Nat} {gs : List Hd} (h : ApG w0 hs a c i ga gc gs w) {x : Hd} (hx : hs[i]? = some x) (hlt : ∀ b ∈ hs.flatMap Hd.own, b < w0.heap.size)
    {w' : World} {X : Nat} (hb : Below w.heap.size w w') (hX : w.heap.size ≤ X) (hbx : w'.heap[X]? = some (.cells #[.int .i64 0, .int .i64 0, .string ⟨#[]⟩, .slice x.an x.nn x.cn, .slice x.ai x.mm x.ci] 28 (0, 0))) :
    GrAt w x i X 0 0 x.an x.cn x.ai x.ci w' := by
  have hf := h.full i x hx (Nat.le_refl _)
  obtain ⟨⟨z0, z1, z2, z3, z4⟩, f0, f1, f2, f3, f4⟩ := cellsOf5 hbx
  have hl : ∀ b ∈ x.own, b < w.heap.size := fun b hb => Nat.lt_of_lt_of_le (hlt b (own_mem hx b hb)) h.turn.size
  refine ⟨Turn.of_below hb, hX, hl, fun b h1 h2 => ?_, z0, z1, z2, z3, z4, f3, f4, hf.1.below hb, hf.2.below hb, fun b hm => ⟨.inl hm, ?_⟩, fun b hm => ⟨.inl hm, ?_⟩, hf.mk.below hb⟩
  · exact own_ty (hf.1) (hf.2) (by decide) (ownA_elim (n := x.nn) (c := x.cn) h1) (ownA_elim (n := x.mm) (c := x.ci) h2)
  · have := hl b (by simp [Hd.own, hm]); omega
  · have := hl b (by simp [Hd.own, hm]); omega
theorem ApG.next {w0 w w1 w2 w3 : World} {hs : List Hd} {a : Option Addr} {c i X : Nat} {ga ga' : Option Addr} {gc gc' : Nat} {gs : List Hd} (h : ApG w0 hs a c i ga gc gs w) {x : Hd} (hx : hs[i]? = some x) (hnd : (hs.flatMap Hd.own).Nodup) (hlt : ∀ b ∈ hs.flatMap Hd.own, b < w0.heap.size)
    (ha : ∀ b ∈ ownA a, b ∉ hs.flatMap Hd.own)
    {gn gi : Option Addr} {gnc gic : Nat} (hg : GrAt w x i X 16 16 gn gnc gi gic w1) (hb : Below w1.heap.size w1 w2) (hu : Upd w2 w3 (Value.slice ga i gc).ownBlock (Value.slice ga' (i + 1) gc').ownBlock)
    (hr : Row w3 28 5 (.slice ga' (i + 1) gc') (i + 1) (gs.flatMap Hd.cells ++ [.int .i64 0, .int .i64 0, .string ⟨#[]⟩, .slice gn (x.nn + 16) gnc, .slice gi (x.mm + 16) gic])) :
    ApG w0 hs a c (i + 1) ga' gc' (gs ++ [grown x gn gnc gi gic]) w3 := by
  have s0 := h.turn.size
  have s1 := hg.turn.size
  have s2 := hb.size
  have s3 := hu.grown.size
  have hgl := h.gl
  have hga : ∀ b, (Value.slice ga i gc).ownBlock = some b → w0.heap.size ≤ b ∧ b < w.heap.size ∧ b ∉ ownA a := fun b hm => ⟨(h.gfr b (ownA_mem hm)).1, h.grow.lt hm, (h.gfr b (ownA_mem hm)).2⟩
  have stay : ∀ b, b < w.heap.size → b ∉ x.own → b ∉ ownA ga → w3.heap[b]? = w.heap[b]? := fun b hl h1 h2 =>
    (hu.block (by omega) (fun e => h2 (ownA_mem e))).trans ((hb.block b (by omega)).trans (hg.turn.block b hl h1))
  have stay1 : ∀ b, b < w1.heap.size → b ∉ ownA ga → w3.heap[b]? = w1.heap[b]? := fun b hl h2 =>
    (hu.block (by omega) (fun e => h2 (ownA_mem e))).trans (hb.block b hl)
  have hoF : ∀ b ∈ hs.flatMap Hd.own, b < w.heap.size ∧ b ∉ ownA ga := fun b hm => ⟨by have := hlt b hm; omega, fun e => by have := (h.gfr b e).1; have := hlt b hm; omega⟩
  have hga' : ∀ b ∈ ownA ga', b ∈ ownA ga ∨ w2.heap.size ≤ b := fun b hm => by
    have hm' := ownA_elim (n := i + 1) (c := gc') hm
    rcases hu.own with e | ⟨p, e, hp⟩
    · exact .inl (ownA_mem (n := i) (c := gc) (by rw [← e]; exact hm'))
    · rw [e] at hm'; injection hm' with hm'; subst hm'; exact .inr hp
  have hnew : ∀ b ∈ (grown x gn gnc gi gic).own, b < w1.heap.size ∧ b ∉ ownA ga ∧ (b ∈ x.own ∨ w.heap.size ≤ b) := fun b hm => by
    have hm2 : b ∈ ownA gn ++ ownA gi := hm
    have k1 : b < w1.heap.size := by
      rcases List.mem_append.1 hm2 with k | k
      · exact hg.nrow.own_lt b k
      · exact hg.irow.own_lt b k
    have k2 : b ∈ x.own ∨ w.heap.size ≤ b := by
      rcases List.mem_append.1 hm2 with k | k
      · exact (hg.on b k).1.imp (fun k => by simp [Hd.own, k]) id
      · exact (hg.oi b k).1.imp (fun k => by simp [Hd.own, k]) id
    refine ⟨k1, fun e => ?_, k2⟩
    have := hga b (ownA_elim e)
    rcases k2 with k2 | k2
    · have := hlt b (own_mem hx b k2); omega
    · omega
  refine ⟨?_, ?_, by rw [List.length_append, hgl]; rfl, by rw [List.flatMap_append]; exact hr, fun b hm => ?_, fun q y z hy hz => ?_, fun q y hy hq => ?_⟩
  · exact ((h.turn.trans (hg.turn.weak (fun g k => .inl (own_mem hx g k)))).trans (Turn.of_below hb)).upd hu (fun g k => .inr (hga g k).1)
  · exact h.row.same (fun b hm => stay b (h.row.lt hm) (fun e => ha b (ownA_mem hm) (own_mem hx b e)) (fun e => (hga b (ownA_elim e)).2.2 (ownA_mem hm)))
  · rcases hga' b hm with k | k
    · exact h.gfr b k
    · exact ⟨by omega, fun e => by have := h.row.own_lt b e; omega⟩
  · by_cases hqi : q < i
    · rw [List.getElem?_append_left (by omega)] at hz
      obtain ⟨k1, k2, k3, k4, k5⟩ := h.done q y z hy hz
      have nx : ∀ b ∈ y.own, b ∉ x.own := own_dis hnd hy hx (by omega)
      have nz : ∀ b ∈ z.own, b ∉ x.own := fun b hm e => by
        rcases (k5 b hm).2.2 with k | k
        · exact nx b k e
        · have := hlt b (own_mem hx b e); omega
      refine ⟨k1.keep (fun b hm _ => stay b (hoF b (own_mem hy b hm)).1 (nx b hm) (hoF b (own_mem hy b hm)).2), k2.keep (fun b hm _ => stay b (k5 b hm).1 (nz b hm) (k5 b hm).2.1), k3, k4, fun b hm => ⟨by have := (k5 b hm).1; omega, fun e => ?_, (k5 b hm).2.2⟩⟩
      rcases hga' b e with k | k
      · exact (k5 b hm).2.1 k
      · have := (k5 b hm).1; omega
    · have hq := (List.getElem?_eq_some_iff.1 hz).1
      rw [List.length_append, hgl] at hq
      simp only [List.length_cons, List.length_nil] at hq
      obtain rfl : q = i := by omega
      rw [hx] at hy
      injection hy with hy
      subst hy
      rw [List.getElem?_append_right (by omega), hgl, Nat.sub_self] at hz
      simp only [List.getElem?_cons_zero, Option.some.injEq] at hz
      subst hz
      refine ⟨hg.old.keep (fun b hm hl => stay1 b hl (hoF b (own_mem hx b hm)).2), hg.whole.keep (fun b hm hl => stay1 b hl (hnew b hm).2.1), rfl, rfl, fun b hm => ⟨by have := (hnew b hm).1; omega, fun e => ?_, (hnew b hm).2.2.imp id (fun k => by omega)⟩⟩
      rcases hga' b e with k | k
      · exact (hnew b hm).2.1 k
      · have := (hnew b hm).1; omega
  · have nx : ∀ b ∈ y.own, b ∉ x.own := own_dis hnd hy hx (by omega)
    exact (h.full q y hy (by omega)).keep (fun b hm _ => stay b (hoF b (own_mem hy b hm)).1 (nx b hm) (hoF b (own_mem hy b hm)).2)
theorem ApG.growTurn {w0 w w1 : World} {hs : List Hd} {a : Option Addr} {c i : Nat} {ga : Option Addr} {gc : Nat} {gs : List Hd} (h : ApG w0 hs a c i ga gc gs w) {x : Hd} (hx : hs[i]? = some x) (hlt : ∀ b ∈ hs.flatMap Hd.own, b < w0.heap.size)
    (ht : Turn (fun g => g ∈ x.own) w w1) : Row w1 28 5 (.slice ga i gc) i (gs.flatMap Hd.cells) :=
  h.grow.same (fun b hb => ht.block b (h.grow.lt hb) (fun e => by have := hlt b (own_mem hx b e); have := (h.gfr b (ownA_mem hb)).1; omega))
end Go.Proofs.YtbkbokfegjodnaaDoor
