/- The walk of FromBytes at a number's bytes. Conditions: none. -/
import Derived.Test.YtjmhoccikbgigaaDoorRdnum
namespace Go.Proofs.YtjmhoccikbgigaaDoor
open Go.RowKit
theorem results_cell2 {P : Program} {fn : Func} {p t u : Tmp} {ty : TypeId} (h : fn.results = #[.cell p ty, .tmp t, .tmp u]) (tmps : Array Value) (w : World) (g : Nat) (T : TypeId) (cs : Array Value) (fr : Nat × Nat) (d : TypeDesc)
    (hp : tmps.getD p undef = .pointer (some ⟨g, 0, none⟩)) (hg : w.heap[g]? = some (.cells cs T fr))
    (hu : P.underlying ty = some d) (hd : (match d with | .struct _ | .array _ _ => true | _ => false) = true) (hi : (P.info? ty).map (·.size) = some cs.size) :
    (results fn tmps).run P w = .ok (.tuple #[.agg cs, tmps.getD t undef, tmps.getD u undef]) w := by
  have hp' : tmps[p]?.getD undef = .pointer (some ⟨g, 0, none⟩) := by simpa using hp
  simp [results, h, hp', asAddr, run_loadVar_row w g T ty cs fr d hg hu hd hi]
/-- a struct's cells in a new block, in a later world -/
theorem fresh5 {w wr : World} {R : Nat} {o0 o1 o2 o3 o4 : Value} {T : TypeId} (hR : R < w.heap.size) (hu : Upd (w.alloc (.cells #[o0, o1, o2, o3, o4] T)) wr (some R) (some R)) : wr.heap[w.heap.size]? = some (.cells #[o0, o1, o2, o3, o4] T (0, 0)) :=
  (hu.block (k := w.heap.size) (by simp) (fun e => by have := Option.some.inj e; omega)).trans (heap_alloc_new _ _)
theorem cellsOf5 {w : World} {B : Nat} {c0 c1 c2 c3 c4 : Value} {T : TypeId} (h : w.heap[B]? = some (.cells #[c0, c1, c2, c3, c4] T (0, 0))) :
    (w.cell? ⟨B, 0, none⟩ = some c0 ∧ w.cell? ⟨B, 1, none⟩ = some c1 ∧ w.cell? ⟨B, 2, none⟩ = some c2 ∧ w.cell? ⟨B, 3, none⟩ = some c3 ∧ w.cell? ⟨B, 4, none⟩ = some c4) ∧
    (w.frozen? ⟨B, 0, none⟩ = false ∧ w.frozen? ⟨B, 1, none⟩ = false ∧ w.frozen? ⟨B, 2, none⟩ = false ∧ w.frozen? ⟨B, 3, none⟩ = false ∧ w.frozen? ⟨B, 4, none⟩ = false) :=
  ⟨⟨cell_of_row _ _ _ _ _ _ h, cell_of_row _ _ _ _ _ _ h, cell_of_row _ _ _ _ _ _ h, cell_of_row _ _ _ _ _ _ h, cell_of_row _ _ _ _ _ _ h⟩, ⟨frozen_of_row _ _ _ _ _ h, frozen_of_row _ _ _ _ _ h, frozen_of_row _ _ _ _ _ h, frozen_of_row _ _ _ _ _ h, frozen_of_row _ _ _ _ _ h⟩⟩
theorem rd_new {w0 : World} {A : Option Addr} {cap : Nat} {bs : List UInt8} {T : TypeId} (hc : bs.length ≤ cap ∧ cap ≤ maxLen) (hl : bs = [] ∨ ∃ G off, A = some ⟨G, off, none⟩ ∧ Lie w0 G off (bs.map fun c => .int .u8 (c.toNat : Int))) :
    RdAt (w0.alloc (.cells #[.slice A bs.length cap, .int .i64 0, .int .i64 0, .int .i64 0] T)) w0.heap.size A cap bs ⟨0, 0, 0⟩ := by
  have hh := heap_alloc_new w0 (.cells #[.slice A bs.length cap, .int .i64 0, .int .i64 0, .int .i64 0] T)
  refine ⟨⟨cell_of_row _ _ _ _ _ _ hh, hc, ?_⟩, cell_of_row _ _ _ _ _ _ hh, cell_of_row _ _ _ _ _ _ hh, cell_of_row _ _ _ _ _ _ hh, frozen_of_row _ _ _ _ _ hh, frozen_of_row _ _ _ _ _ hh, frozen_of_row _ _ _ _ _ hh, Nat.zero_le _⟩
  rcases hl with rfl | ⟨G, off, rfl, hl⟩
  · exact .inl rfl
  · cases bs with
    | nil => exact .inl rfl
    | cons c r =>
      have hlt : G < w0.heap.size := cell_lt (hl 0 _ rfl)
      exact .inr ⟨G, off, rfl, by omega, fun j v hj => cell_below ((Below.refl _ _).alloc (Nat.le_refl _) _) (hl j v hj)⟩
theorem byts_lie {w : World} {A : Option Addr} {n cap : Nat} {l : List UInt8} (h : Byts w (.slice A n cap) l) : l = [] ∨ ∃ G off, A = some ⟨G, off, none⟩ ∧ Lie w G off (l.map fun c => .int .u8 (c.toNat : Int)) := by
  obtain ⟨a, c, he, _, _, hf⟩ := Row.form h
  injection he with e1 e2 e3
  subst e1
  rcases hf with ⟨_, h0, _⟩ | ⟨g, rfl, _, _, hl⟩
  · exact .inl (List.eq_nil_of_length_eq_zero h0)
  · exact .inr ⟨g, 0, rfl, hl⟩
set_option maxHeartbeats 2000000 in
theorem valueInt_c (R : Nat) (A : Option Addr) (cap : Nat) (bs : List UInt8) (s : St) (d : Int) (w : World) (h : RdAt w R A cap bs s) (hn : (nextP bs s).1 = 16) (he : (nextP bs s).2.err = 0) :
    Calls Tryd.prog 46 #[.pointer (some ⟨R, 0, none⟩), .int .i64 d] w fun r w' =>
      r = .returned (.agg #[.int .i64 3, .int .i64 (((numP bs 8 (0, (nextP bs s).2)).1 : Int) - 9223372036854775808), .string ⟨#[]⟩, .slice none 0 0, .slice none 0 0]) ∧ RdAt w' R A cap bs (numP bs 8 (0, (nextP bs s).2)).2 ∧ Upd w w' (some R) (some R) := by
  have hb0 : Below w.heap.size w (w.alloc (.cells #[.int .i64 0, .int .i64 0, .string ⟨#[]⟩, .slice none 0 0, .slice none 0 0] 28)) := (Below.refl _ _).alloc (Nat.le_refl _) _
  have hR := h.lt
  have h0 := h.below hb0
  have h1 := h0.c1
  have hnx := next_c R A cap bs s _ h0
  have H := Lib.hid h
  clear h h0
  generalize nextP bs s = q at *
  obtain ⟨c, s1⟩ := q
  simp only at hn he
  subst hn
  rw [show (((16 : UInt8).toNat : Nat) : Int) = 16 from rfl] at hnx
  have hnum := fun (W : World) (hW : RdAt W R A cap bs s1) => number_c R A cap bs s1 W hW
  generalize numP bs 8 (0, s1) = q at *
  obtain ⟨N, s2⟩ := q
  simp only at hnum ⊢
  go_enter Tryd.func46, Tryd.ntmps46
  go_wp2_with fail
  refine hnx.mono ?_; rintro e w1 ⟨rfl, hr1, hu1⟩
  have h2 : w1.cell? ⟨R, 2, none⟩ = some (.int .i64 0) := by have := hr1.c2; rw [he] at this; exact this
  have hnum1 := hnum w1 hr1
  have HU1 := Lib.hid hu1
  clear hnx hnum hr1 hu1 h1
  go_wp2_with fail
  refine hnum1.mono ?_; rintro e w2 ⟨rfl, hr2, hu2⟩
  have HU2 := Lib.hid (HU1.out.trans hu2)
  have hz := fresh5 hR HU2.out
  obtain ⟨⟨z0, z1, z2, z3, z4⟩, y0, y1, y2, y3, y4⟩ := cellsOf5 hz
  have HZ := Lib.hid (And.intro hz hr2)
  clear hz hr2 hu2 hnum1 h2
  go_wp2
  (try simp only [Exit.inBlock, Exit.then])
  refine bodyPost_ret (results_cell_row rfl _ _ w.heap.size 28 _ (0, 0) _ (by rfl) (set5 HZ.out.1) Tryd.underlying28 rfl (by kernel_rfl)) rfl ?_
  have hne : R ≠ w.heap.size := by omega
  have hU2 := ((Upd.of_below hb0 _).trans HU2.out).trans_below (below_set5 (c0 := .int .i64 3) (c1 := .int .i64 ((N : Int) - 9223372036854775808)) (c2 := .string ⟨#[]⟩) (c3 := .slice none 0 0) (c4 := .slice none 0 0) (Below.refl w.heap.size w2) (Nat.le_refl _))
  exact ⟨rfl, H.out.after hU2 HZ.out.2 (other_set5 hne), hU2⟩
set_option maxHeartbeats 2000000 in
theorem fromInt_c (bs : List UInt8) (G : Nat) (cap : Nat) (N : Nat) (w : World) (hb : Byts w (.slice (some ⟨G, 0, none⟩) bs.length cap) bs) (hc : bs.length ≤ cap ∧ cap ≤ maxLen) (hn : nextP bs ⟨0, 0, 0⟩ = (16, ⟨1, 0, 0⟩)) (hp : numP bs 8 (0, ⟨1, 0, 0⟩) = (N, ⟨bs.length, 0, 0⟩)) :
    Calls Tryd.prog 22 #[.slice (some ⟨G, 0, none⟩) bs.length cap] w fun r w' =>
      r = .returned (.tuple #[.agg #[.int .i64 3, .int .i64 ((N : Int) - 9223372036854775808), .string ⟨#[]⟩, .slice none 0 0, .slice none 0 0], .int .i64 0, .int .i64 0]) ∧ Below w.heap.size w w' := by
  have hb0 : Below w.heap.size w (w.alloc (.cells #[.int .i64 0, .int .i64 0, .string ⟨#[]⟩, .slice none 0 0, .slice none 0 0] 28)) := (Below.refl _ _).alloc (Nat.le_refl _) _
  have hrd := rd_new (T := 61) hc (byts_lie (byts_kept hb hb0))
  have hval := valueInt_c _ _ _ _ _ 0 _ hrd (by rw [hn]) (by rw [hn])
  rw [hn] at hval
  simp only [hp] at hval
  have hb1 : Below (w.alloc (.cells #[.int .i64 0, .int .i64 0, .string ⟨#[]⟩, .slice none 0 0, .slice none 0 0] 28)).heap.size (w.alloc (.cells #[.int .i64 0, .int .i64 0, .string ⟨#[]⟩, .slice none 0 0, .slice none 0 0] 28)) ((w.alloc (.cells #[.int .i64 0, .int .i64 0, .string ⟨#[]⟩, .slice none 0 0, .slice none 0 0] 28)).alloc (.cells #[.slice (some ⟨G, 0, none⟩) bs.length cap, .int .i64 0, .int .i64 0, .int .i64 0] 61)) := (Below.refl _ _).alloc (Nat.le_refl _) _
  have hz0 := heap_alloc_new w (.cells #[.int .i64 0, .int .i64 0, .string ⟨#[]⟩, .slice none 0 0, .slice none 0 0] 28)
  have HB1 := Lib.hid (And.intro hb0 (And.intro hb1 hz0))
  clear hrd hb0 hb1 hz0
  simp only [World.size_alloc] at hval
  unfold maxLen at hc
  have hlen : bs.length ≤ 9223372036854775807 := by omega
  go_enter Tryd.func22, Tryd.ntmps22
  go_wp2_with fail
  refine hval.mono ?_; rintro e w1 ⟨rfl, hr1, hu1⟩
  have h1 : w1.cell? ⟨w.heap.size + 1, 1, none⟩ = some (.int .i64 bs.length) := hr1.c1
  have h2 : w1.cell? ⟨w.heap.size + 1, 2, none⟩ = some (.int .i64 0) := hr1.c2
  have hz : w1.heap[w.heap.size]? = some (.cells #[.int .i64 0, .int .i64 0, .string ⟨#[]⟩, .slice none 0 0, .slice none 0 0] 28) := (hu1.block (by simp; omega) (fun e => by have := Option.some.inj e; omega)).trans ((HB1.out.2.1.block w.heap.size (by simp)).trans HB1.out.2.2)
  have hbw : Below w.heap.size w w1 := (HB1.out.1.trans (HB1.out.2.1.mono HB1.out.1.size)).trans (hu1.below (by simp; omega) (fun g hg => by have := Option.some.inj hg; omega))
  have hb3 : Below w1.heap.size w1 (w1.alloc (.cells #[.int .i64 3, .int .i64 ((N : Int) - 9223372036854775808), .string ⟨#[]⟩, .slice none 0 0, .slice none 0 0] 28)) := (Below.refl _ _).alloc (Nat.le_refl _) _
  have hlt0 : w.heap.size + 1 < w1.heap.size := cell_lt h1
  have hlt1 : w.heap.size < w1.heap.size := by omega
  have hz3 := (hb3.block w.heap.size hlt1).trans hz
  obtain ⟨⟨z0, z1, z2, z3, z4⟩, y0, y1, y2, y3, y4⟩ := cellsOf5 hz3
  obtain ⟨⟨x0, x1, x2, x3, x4⟩, _⟩ := cellsOf5 (heap_alloc_new w1 (.cells #[.int .i64 3, .int .i64 ((N : Int) - 9223372036854775808), .string ⟨#[]⟩, .slice none 0 0, .slice none 0 0] 28))
  have k1 := cell_below hb3 h1
  have k2 := cell_below hb3 h2
  have HZ := Lib.hid (And.intro hz3 (hbw.trans (hb3.mono hbw.size)))
  clear hval hr1 hu1 hz hbw hz3 hb3 h1 h2 hlt0 hlt1
  go_wp2
  (try simp only [Exit.inBlock, Exit.then])
  refine bodyPost_ret (results_cell2 rfl _ _ w.heap.size 28 _ (0, 0) _ (by rfl) (set5 HZ.out.1) Tryd.underlying28 rfl (by kernel_rfl)) rfl ?_
  exact ⟨rfl, below_set5 HZ.out.2 (Nat.le_refl _)⟩
end Go.Proofs.YtjmhoccikbgigaaDoor
