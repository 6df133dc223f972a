/- A reader of bytes: what memory holds of it, and its small steps as functions. Conditions: none. -/
import Derived.Test.YtjmhoccikbgigaaDoorLiveint
namespace Go.Proofs.YtjmhoccikbgigaaDoor
open Go.RowKit
/-- the place, the first fault, where it is -/
structure St where
  pos : Nat
  err : Nat
  place : Nat
def St.fail (s : St) (e p : Nat) : St := if s.err = 0 then ⟨s.pos, e, p⟩ else s
/-- Memory holds a reader of the bytes bs at R. -/
structure RdAt (w : World) (R : Nat) (A : Option Addr) (cap : Nat) (bs : List UInt8) (s : St) : Prop where
  c0 : w.cell? ⟨R, 0, none⟩ = some (.slice A bs.length cap) ∧ (bs.length ≤ cap ∧ cap ≤ maxLen) ∧ (bs = [] ∨ ∃ G off, A = some ⟨G, off, none⟩ ∧ G ≠ R ∧ Lie w G off (bs.map fun c => .int .u8 (c.toNat : Int)))
  c1 : w.cell? ⟨R, 1, none⟩ = some (.int .i64 s.pos)
  c2 : w.cell? ⟨R, 2, none⟩ = some (.int .i64 s.err)
  c3 : w.cell? ⟨R, 3, none⟩ = some (.int .i64 s.place)
  f1 : w.frozen? ⟨R, 1, none⟩ = false
  f2 : w.frozen? ⟨R, 2, none⟩ = false
  f3 : w.frozen? ⟨R, 3, none⟩ = false
  pos : s.pos ≤ bs.length
theorem RdAt.lt {w : World} {R : Nat} {A : Option Addr} {cap : Nat} {bs : List UInt8} {s : St} (h : RdAt w R A cap bs s) : R < w.heap.size := cell_lt h.c1
theorem RdAt.below {w w' : World} {R : Nat} {A : Option Addr} {cap : Nat} {bs : List UInt8} {s : St} (h : RdAt w R A cap bs s) (hb : Below w.heap.size w w') : RdAt w' R A cap bs s := by
  obtain ⟨⟨h0, hc, hl⟩, h1, h2, h3, f1, f2, f3, hp⟩ := h
  have hlt := cell_lt h1
  refine ⟨⟨cell_below hb h0, hc, ?_⟩, cell_below hb h1, cell_below hb h2, cell_below hb h3, (hb.frozen hlt).trans f1, (hb.frozen (p := ⟨R, 2, none⟩) hlt).trans f2, (hb.frozen (p := ⟨R, 3, none⟩) hlt).trans f3, hp⟩
  rcases hl with rfl | ⟨G, off, rfl, hne, hl⟩
  · exact .inl rfl
  · exact .inr ⟨G, off, rfl, hne, fun j v hj => cell_below hb (hl j v hj)⟩
theorem RdAt.same {w w' : World} {R : Nat} {A : Option Addr} {cap : Nat} {bs : List UInt8} {s : St} (h : RdAt w R A cap bs s) (hh : w'.heap = w.heap) : RdAt w' R A cap bs s := by
  have hc : ∀ p, w'.cell? p = w.cell? p := fun p => by simp [World.cell?, hh]
  have hf : ∀ p, w'.frozen? p = w.frozen? p := fun p => by simp [World.frozen?, hh]
  obtain ⟨⟨h0, hcap, hl⟩, h1, h2, h3, f1, f2, f3, hp⟩ := h
  refine ⟨⟨by rw [hc]; exact h0, hcap, ?_⟩, by rw [hc]; exact h1, by rw [hc]; exact h2, by rw [hc]; exact h3, by rw [hf]; exact f1, by rw [hf]; exact f2, by rw [hf]; exact f3, hp⟩
  rcases hl with rfl | ⟨G, off, rfl, hne, hl⟩
  · exact .inl rfl
  · exact .inr ⟨G, off, rfl, hne, fun j v hj => by rw [hc]; exact hl j v hj⟩
/-- The place goes on. -/
theorem RdAt.go {w : World} {R : Nat} {A : Option Addr} {cap : Nat} {bs : List UInt8} {s : St} (h : RdAt w R A cap bs s) {p : Nat} (hp : p ≤ bs.length) : RdAt (w.setCell ⟨R, 1, none⟩ (.int .i64 p)) R A cap bs ⟨p, s.err, s.place⟩ := by
  obtain ⟨⟨h0, hcap, hl⟩, h1, h2, h3, f1, f2, f3, _⟩ := h
  have ne : ∀ {i j : Nat}, i ≠ j → (⟨R, i, none⟩ : Addr) ≠ ⟨R, j, none⟩ := fun h e => h (by injection e)
  refine ⟨⟨by rw [setO (ne (by decide))]; exact h0, hcap, ?_⟩, setS h1, by rw [setO (ne (by decide))]; exact h2, by rw [setO (ne (by decide))]; exact h3, by rw [setF]; exact f1, by rw [setF]; exact f2, by rw [setF]; exact f3, hp⟩
  rcases hl with rfl | ⟨G, off, rfl, hne, hl⟩
  · exact .inl rfl
  · exact .inr ⟨G, off, rfl, hne, fun j v hj => by rw [setO (fun e => hne (by injection e with e; exact e.symm))]; exact hl j v hj⟩
/-- A fault is kept. -/
theorem RdAt.flt {w : World} {R : Nat} {A : Option Addr} {cap : Nat} {bs : List UInt8} {s : St} (h : RdAt w R A cap bs s) (e p : Nat) : RdAt ((w.setCell ⟨R, 2, none⟩ (.int .i64 e)).setCell ⟨R, 3, none⟩ (.int .i64 p)) R A cap bs ⟨s.pos, e, p⟩ := by
  obtain ⟨⟨h0, hcap, hl⟩, h1, h2, h3, f1, f2, f3, hp⟩ := h
  have ne : ∀ {i j : Nat}, i ≠ j → (⟨R, i, none⟩ : Addr) ≠ ⟨R, j, none⟩ := fun h e => h (by injection e)
  refine ⟨⟨by rw [setO (ne (by decide)), setO (ne (by decide))]; exact h0, hcap, ?_⟩, by rw [setO (ne (by decide)), setO (ne (by decide))]; exact h1, by rw [setO (ne (by decide))]; exact setS h2, setS (by rw [setO (ne (by decide))]; exact h3), by rw [setF, setF]; exact f1, by rw [setF, setF]; exact f2, by rw [setF, setF]; exact f3, hp⟩
  rcases hl with rfl | ⟨G, off, rfl, hne, hl⟩
  · exact .inl rfl
  · exact .inr ⟨G, off, rfl, hne, fun j v hj => by rw [setO (fun e => hne (by injection e with e; exact e.symm)), setO (fun e => hne (by injection e with e; exact e.symm))]; exact hl j v hj⟩
/-- A reader met in a later world: its own block as another world has it, its bytes as the first has them. -/
theorem RdAt.after {w w1 w' : World} {R : Nat} {A : Option Addr} {cap : Nat} {bs : List UInt8} {s s' : St} (h : RdAt w R A cap bs s) (hu : Upd w w' (some R) (some R)) (h' : RdAt w1 R A cap bs s') (hR : w'.heap[R]? = w1.heap[R]?) : RdAt w' R A cap bs s' := by
  have hc : ∀ i, w'.cell? ⟨R, i, none⟩ = w1.cell? ⟨R, i, none⟩ := fun i => World.cell?_of_block (w := w1) hR
  have hf : ∀ i, w'.frozen? ⟨R, i, none⟩ = w1.frozen? ⟨R, i, none⟩ := fun i => World.frozen?_of_block (w := w1) hR
  refine ⟨⟨(hc 0).trans h'.c0.1, h'.c0.2.1, ?_⟩, (hc 1).trans h'.c1, (hc 2).trans h'.c2, (hc 3).trans h'.c3, (hf 1).trans h'.f1, (hf 2).trans h'.f2, (hf 3).trans h'.f3, h'.pos⟩
  rcases h.c0.2.2 with rfl | ⟨G, off, rfl, hne, hl⟩
  · exact .inl rfl
  · exact .inr ⟨G, off, rfl, hne, fun j v hj => hu.cell (hl j v hj) (fun e => hne (Option.some.inj e).symm)⟩
/-- the next byte; none: a fault -/
def nextP (bs : List UInt8) (s : St) : UInt8 × St := if h : s.pos < bs.length then (bs[s.pos], ⟨s.pos + 1, s.err, s.place⟩) else (0, s.fail 3 bs.length)
/-- Cells made since may turn. -/
theorem Upd.trans_below {a b c : World} {R : Nat} (h : Upd a b (some R) (some R)) (k : Below a.heap.size b c) : Upd a c (some R) (some R) :=
  ⟨⟨k.os.trans h.grown.os, k.tape.trans h.grown.tape, k.output.trans h.grown.output, Nat.le_trans h.grown.size k.size, fun i hi hne => (k.block i hi).trans (h.grown.block i hi hne)⟩, .inl rfl⟩
theorem Upd.heap {w w' : World} {r r' : Option Nat} (h : Upd w w' r r') {w2 : World} (hw : w2.heap = w'.heap) (ho : w2.os = w'.os) (ht : w2.tape = w'.tape) (hu : w2.output = w'.output) : Upd w w2 r r' :=
  ⟨⟨ho.trans h.grown.os, ht.trans h.grown.tape, hu.trans h.grown.output, by rw [hw]; exact h.grown.size, fun k hk hne => by rw [hw]; exact h.grown.block k hk hne⟩, h.own⟩
set_option maxHeartbeats 1000000 in
theorem fails_c (R : Nat) (A : Option Addr) (cap : Nat) (bs : List UInt8) (s : St) (e p : Nat) (w : World) (h : RdAt w R A cap bs s) :
    Calls Tryd.prog 47 #[.pointer (some ⟨R, 0, none⟩), .int .i64 e, .int .i64 p] w fun r w' => r = .returned (.tuple #[]) ∧ RdAt w' R A cap bs (s.fail e p) ∧ Upd w w' (some R) (some R) := by
  have h1 := h.c1
  have h2 := h.c2
  have h3 := h.c3
  have f2 := h.f2
  have f3 := h.f3
  have H := Lib.hid h
  clear h
  by_cases he : s.err = 0
  · have HF := Lib.hid (show s.fail e p = ⟨s.pos, e, p⟩ from if_pos he)
    have heb : ((s.err : Int) == 0) = true := by simp [he]
    go_enter Tryd.func47, Tryd.ntmps47
    go_wp2
    go_end0
    exact ⟨rfl, by rw [HF.out]; exact H.out.flt e p, (Upd.of_setCell _ ⟨R, 2, none⟩ _).trans (Upd.of_setCell _ ⟨R, 3, none⟩ _)⟩
  · have HF := Lib.hid (show s.fail e p = s from if_neg he)
    have heb : ((s.err : Int) == 0) = false := by simp [he]
    go_enter Tryd.func47, Tryd.ntmps47
    go_wp2
    go_end0
    exact ⟨rfl, by rw [HF.out]; exact H.out, Upd.refl _ _⟩
set_option maxHeartbeats 2000000 in
theorem next_c (R : Nat) (A : Option Addr) (cap : Nat) (bs : List UInt8) (s : St) (w : World) (h : RdAt w R A cap bs s) :
    Calls Tryd.prog 64 #[.pointer (some ⟨R, 0, none⟩)] w fun r w' => r = .returned (.int .u8 ((nextP bs s).1.toNat : Int)) ∧ RdAt w' R A cap bs (nextP bs s).2 ∧ Upd w w' (some R) (some R) := by
  have h1 := h.c1
  have f1 := h.f1
  have hp := h.pos
  obtain ⟨h0, hcap, hl⟩ := h.c0
  unfold maxLen at hcap
  have H := Lib.hid h
  clear h
  by_cases he : s.pos < bs.length
  · have HN := Lib.hid (show nextP bs s = (bs[s.pos], ⟨s.pos + 1, s.err, s.place⟩) from dif_pos he)
    rcases hl with rfl | ⟨G, off, rfl, hne, hl⟩
    · simp at he
    have hd : decide (bs.length ≤ s.pos) = false := by simp; omega
    go_enter Tryd.func64, Tryd.ntmps64
    go_wp2
    go_quiet (fail)
    go_wp2_with fail
    have HW : RdAt ((w.drewN nq).setCell ⟨R, 1, none⟩ (.int .i64 ((s.pos : Int) + 1))) R (some ⟨G, off, none⟩) cap bs ⟨s.pos + 1, s.err, s.place⟩ := (H.out.same (w' := w.drewN nq) rfl).go (p := s.pos + 1) (by omega)
    have HU := Lib.hid (Upd.of_setCell (w.drewN nq) ⟨R, 1, none⟩ (.int .i64 ((s.pos : Int) + 1)))
    generalize (w.drewN nq).setCell ⟨R, 1, none⟩ (.int .i64 ((s.pos : Int) + 1)) = W at *
    obtain ⟨k0, hcap', hl'⟩ := HW.c0
    have k1 : W.cell? ⟨R, 1, none⟩ = some (.int .i64 ((s.pos : Int) + 1)) := HW.c1
    unfold maxLen at hcap'
    rcases hl' with rfl | ⟨G', off', hAA, hne', hl'⟩
    · simp at he
    injection hAA with hAA
    injection hAA with e1 e2 _
    subst e1; subst e2
    have kb : W.cell? ⟨G, off + s.pos, none⟩ = some (.int .u8 (bs[s.pos].toNat : Int)) := hl' s.pos _ (by simp [he])
    have HW2 := Lib.hid HW
    clear HW h0 h1 f1 hl hl' hd
    generalize bs[s.pos] = c at *
    go_quiet (fail)
    go_wp2
    go_ret
    exact ⟨by rw [HN.out]; rfl, by rw [HN.out]; exact HW2.out.same rfl, ((Upd.of_below (below_drewN' _ _) _).trans HU.out).trans (Upd.of_below (below_drewN' _ _) _)⟩
  · have HN := Lib.hid (show nextP bs s = (0, s.fail 3 bs.length) from dif_neg he)
    have hd : decide (bs.length ≤ s.pos) = true := by simp; omega
    go_enter Tryd.func64, Tryd.ntmps64
    go_wp2
    go_quiet (fail)
    go_wp2_with fail
    refine (fails_c R A cap bs s 3 bs.length (w.drewN nq) (H.out.same rfl)).mono ?_; rintro e w1 ⟨rfl, hr1, hu1⟩
    have HR := Lib.hid (And.intro hr1 hu1)
    clear hr1 hu1
    go_wp2
    go_ret
    exact ⟨by rw [HN.out]; rfl, by rw [HN.out]; exact HR.out.1, (Upd.of_below (below_drewN' _ _) _).trans HR.out.2⟩
end Go.Proofs.YtjmhoccikbgigaaDoor
