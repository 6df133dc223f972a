/- Both ends and what is under way between them, in memory; the walks of both ends as steps of the three. Conditions: what goes out is shorter than 2 to the 37. -/
import Derived.Test.YtkpickojeghppaaDoorMpe
namespace Go.Proofs.YtkpickojeghppaaDoor
open Go.RowKit
structure PV where
  c : Nat
  r : Nat
  u : Value
  d : Value
  a : Value
def strsV (l : List ByteArray) : List Value := l.map Value.string
theorem strsV_append (a b : List ByteArray) : strsV (a ++ b) = strsV a ++ strsV b := by simp [strsV]
def pkCells (_ : Nat) (V : PV) (t : MS) : Array Value :=
  #[.pointer (some ⟨V.c, 0, none⟩), .pointer (some ⟨V.r, 0, none⟩), V.u, V.d, V.a, .int .i64 (t.heard : Int), .int .i64 (t.got : Int), .bool t.ended]
def pkParts (V : PV) (t : MS) : List Part :=
  [⟨1, V.u, t.up.length, bytesV t.up, True⟩, ⟨1, V.d, t.down.length, bytesV t.down, True⟩, ⟨1, V.a, t.asked.length, strsV t.asked, True⟩]
def PK : EK PV MS := ⟨87, pkCells, pkParts⟩
section
variable {w : World} {P : Nat} {V : PV} {t : MS}
theorem pk_cells (h : PK.At w P V t) :
    (w.cell? ⟨P, 0, none⟩ = some (.pointer (some ⟨V.c, 0, none⟩)) ∧ w.cell? ⟨P, 1, none⟩ = some (.pointer (some ⟨V.r, 0, none⟩)) ∧ w.cell? ⟨P, 2, none⟩ = some V.u ∧ w.cell? ⟨P, 3, none⟩ = some V.d ∧ w.cell? ⟨P, 4, none⟩ = some V.a ∧ w.cell? ⟨P, 5, none⟩ = some (.int .i64 (t.heard : Int)) ∧ w.cell? ⟨P, 6, none⟩ = some (.int .i64 (t.got : Int)) ∧ w.cell? ⟨P, 7, none⟩ = some (.bool t.ended)) ∧ ∀ i : Nat, w.frozen? ⟨P, i, none⟩ = false :=
  ⟨⟨cell_of_row _ _ _ _ _ _ h.blk, cell_of_row _ _ _ _ _ _ h.blk, cell_of_row _ _ _ _ _ _ h.blk, cell_of_row _ _ _ _ _ _ h.blk, cell_of_row _ _ _ _ _ _ h.blk, cell_of_row _ _ _ _ _ _ h.blk, cell_of_row _ _ _ _ _ _ h.blk, cell_of_row _ _ _ _ _ _ h.blk⟩, fun _ => frozen_of_row _ _ _ _ _ h.blk⟩
theorem pk_up (h : PK.At w P V t) : BSlab w V.u t.up := h.slab _ (.head _) trivial
theorem pk_down (h : PK.At w P V t) : BSlab w V.d t.down := h.slab _ (.tail _ (.head _)) trivial
theorem pk_asked (h : PK.At w P V t) : Slab w 1 V.a t.asked.length (strsV t.asked) := h.slab _ (.tail _ (.tail _ (.head _))) trivial
end
structure Tri (w0 w : World) (P C R : Nat) (U : CV) (vi vo vh : Value) (V : PV) (t : MS) : Prop where
  two : Two w0.heap.size w0 w C U t.c R vi vo vh t.s
  pk : PK.At w P V t
  vc : V.c = C
  vr : V.r = R
  ap1 : ∀ g, PK.F P V t g → ¬ CK.F C U t.c g
  ap2 : ∀ g, PK.F P V t g → ¬ SvF R vi vo vh g
  pB : ∀ g, PK.F P V t g → w0.heap.size ≤ g
  h5 : 5 ≤ w0.heap.size
/-- the three, whatever the ends' slices are -/
def TriP (w0 w : World) (P C R : Nat) (V : PV) (t : MS) : Prop := ∃ U vi vo vh, Tri w0 w P C R U vi vo vh V t
/-- a block beside the three -/
structure XB (w : World) (P C R : Nat) (U : CV) (vi vo vh : Value) (V : PV) (t : MS) (X : Nat) (o : Obj) : Prop where
  c : ¬ CK.F C U t.c X
  s : ¬ SvF R vi vo vh X
  p : ¬ PK.F P V t X
  o : w.heap[X]? = some o
theorem XB.lt {w : World} {P C R : Nat} {U : CV} {vi vo vh : Value} {V : PV} {t : MS} {X : Nat} {o : Obj} (h : XB w P C R U vi vo vh V t X o) : X < w.heap.size := (Array.getElem?_eq_some_iff.1 h.o).1
def TriV (w0 w : World) (P C R : Nat) (V : PV) (t : MS) (X : Nat) (o : Obj) : Prop := ∃ U vi vo vh, Tri w0 w P C R U vi vo vh V t ∧ XB w P C R U vi vo vh V t X o
section
variable {w0 w : World} {P C R : Nat} {V : PV} {t : MS} {X : Nat} {o : Obj}
theorem TriV.drop (h : TriV w0 w P C R V t X o) : TriP w0 w P C R V t := by obtain ⟨U, vi, vo, vh, h, _⟩ := h; exact ⟨U, vi, vo, vh, h⟩
theorem TriV.x (h : TriV w0 w P C R V t X o) : w.heap[X]? = some o := by obtain ⟨_, _, _, _, _, h⟩ := h; exact h.o
theorem TriP.box (h : TriP w0 w P C R V t) (o : Obj) : TriV w0 (w.alloc o) P C R V t w.heap.size o := by
  obtain ⟨U, vi, vo, vh, h⟩ := h
  have hb : Below w.heap.size w (w.alloc o) := (Below.refl _ _).alloc (Nat.le_refl _) _
  exact ⟨U, vi, vo, vh, ⟨h.two.below hb, StAt.below h.pk hb, h.vc, h.vr, h.ap1, h.ap2, h.pB, h.h5⟩, fun e => by have := EK.F_lt h.two.cx.at_ _ e; omega, fun e => by have := SvF_lt h.two.sx.sv _ e; omega, fun e => by have := EK.F_lt h.pk _ e; omega, heap_alloc_new w o⟩
theorem TriV.pk (h : TriV w0 w P C R V t X o) : PK.At w P V t := by obtain ⟨_, _, _, _, h, _⟩ := h; exact h.pk
theorem TriV.vc (h : TriV w0 w P C R V t X o) : V.c = C := by obtain ⟨_, _, _, _, h, _⟩ := h; exact h.vc
theorem TriV.vr (h : TriV w0 w P C R V t X o) : V.r = R := by obtain ⟨_, _, _, _, h, _⟩ := h; exact h.vr
theorem TriV.bl (h : TriV w0 w P C R V t X o) : Below w0.heap.size w0 w := by obtain ⟨_, _, _, _, h, _⟩ := h; exact h.two.bl
theorem TriV.below (h : TriV w0 w P C R V t X o) {w' : World} (hb : Below w.heap.size w w') : TriV w0 w' P C R V t X o := by
  obtain ⟨U, vi, vo, vh, h, hx⟩ := h
  exact ⟨U, vi, vo, vh, ⟨h.two.below hb, StAt.below h.pk hb, h.vc, h.vr, h.ap1, h.ap2, h.pB, h.h5⟩, hx.c, hx.s, hx.p, (hb.block X hx.lt).trans hx.o⟩
/-- the client has made a step -/
theorem triC {U : CV} {vi vo vh : Value} (h : Tri w0 w P C R U vi vo vh V t) (hx : XB w P C R U vi vo vh V t X o) {U' : CV} {c' : Cl} {w' : World} (ha : CK.At w' C U' c') (ht : Turn (CK.F C U t.c) w w') (hn : ∀ g, CK.F C U' c' g → CK.F C U t.c g ∨ w.heap.size ≤ g) : TriV w0 w' P C R V { t with c := c' } X o := by
  have hp := EK.F_lt h.pk
  have h1 : PK.At w' P V t := StAt.turn h.pk ht (fun g hg hg2 => h.ap1 g hg hg2)
  refine ⟨U', vi, vo, vh, ⟨h.two.cl h.two.size ha ht hn, h1, h.vc, h.vr, fun g hg hg2 => ?_, h.ap2, h.pB, h.h5⟩, fun e => (hn _ e).elim hx.c (fun e2 => by have := hx.lt; omega), hx.s, hx.p, ht.obj hx.o hx.c⟩
  rcases hn g hg2 with e | e
  · exact h.ap1 g hg e
  · have := hp g hg; omega
/-- the server has -/
theorem triS {U : CV} {vi vo vh : Value} (h : Tri w0 w P C R U vi vo vh V t) (hx : XB w P C R U vi vo vh V t X o) {vi' vo' vh' : Value} {s' : Sv} {w' : World} (ha : SvAt w' R vi' vo' vh' s') (ht : Turn (SvF R vi vo vh) w w') (hn : ∀ g, SvF R vi' vo' vh' g → SvF R vi vo vh g ∨ w.heap.size ≤ g) : TriV w0 w' P C R V { t with s := s' } X o := by
  have hp := EK.F_lt h.pk
  have h1 : PK.At w' P V t := StAt.turn h.pk ht (fun g hg hg2 => h.ap2 g hg hg2)
  refine ⟨U, vi', vo', vh', ⟨h.two.sv h.two.size ha ht hn, h1, h.vc, h.vr, h.ap1, fun g hg hg2 => ?_, h.pB, h.h5⟩, hx.c, fun e => (hn _ e).elim hx.s (fun e2 => by have := hx.lt; omega), hx.p, ht.obj hx.o hx.s⟩
  rcases hn g hg2 with e | e
  · exact h.ap2 g hg e
  · have := hp g hg; omega
/-- what is under way has turned -/
theorem TriV.put (h : TriV w0 w P C R V t X o) {V' : PV} {t' : MS} {w' : World} (hv : V'.c = V.c ∧ V'.r = V.r) (hc : t'.c = t.c) (hs : t'.s = t.s) (ha : PK.At w' P V' t') (ht : Turn (PK.F P V t) w w') (hn : ∀ g, PK.F P V' t' g → PK.F P V t g ∨ w.heap.size ≤ g) : TriV w0 w' P C R V' t' X o := by
  obtain ⟨U, vi, vo, vh, h, hx⟩ := h
  have hcl := EK.F_lt h.two.cx.at_
  have hsv := SvF_lt h.two.sx.sv
  have h5 : ∀ g, PK.F P V t g → 5 ≤ g := fun g hg => Nat.le_trans h.h5 (h.pB g hg)
  refine ⟨U, vi, vo, vh, ⟨⟨⟨StAt.turn (by rw [hc]; exact h.two.cx.at_) ht (fun g hg hg2 => h.ap1 g hg2 (by rw [← hc]; exact hg)), h.two.cx.tabs.turn ht h5, by rw [hc]; exact h.two.cx.own⟩, ⟨by rw [hs]; exact h.two.sx.sv.turn ht (fun g hg hg2 => h.ap2 g hg2 hg), h.two.cx.tabs.turn ht h5, h.two.sx.own⟩, by rw [hc]; exact h.two.ap, by rw [hc]; exact h.two.cB, h.two.sB, h.two.bl.trans (ht.below h.pB h.two.bl.size)⟩, ha, hv.1.trans h.vc, hv.2.trans h.vr, fun g hg hg2 => ?_, fun g hg hg2 => ?_, fun g hg => (hn g hg).elim (h.pB g) (fun e => Nat.le_trans h.two.bl.size e), h.h5⟩, by rw [hc]; exact hx.c, hx.s, fun e => (hn _ e).elim hx.p (fun e2 => by have := hx.lt; omega), ht.obj hx.o hx.p⟩
  · rw [hc] at hg2
    rcases hn g hg with e | e
    · exact h.ap1 g e hg2
    · have := hcl g hg2; omega
  · rcases hn g hg with e | e
    · exact h.ap2 g e hg2
    · have := hsv g hg2; omega
/-- other bytes are under way to the server -/
theorem TriV.setU (h : TriV w0 w P C R V t X o) {w1 : World} {v' : Value} (ht : Turn (fun g => V.u.ownBlock = some g) w w1) (hn : ∀ g, v'.ownBlock = some g → V.u.ownBlock = some g ∨ w.heap.size ≤ g) (l : List UInt8) (hs : BSlab w1 v' l) :
    TriV w0 (w1.setCell ⟨P, 2, none⟩ v') P C R { V with u := v' } { t with up := l } X o := by
  have hp := h.pk
  have hP := hp.ltR
  have hne : ∀ g, v'.ownBlock = some g → g ≠ P := fun g hg e => by
    subst e
    rcases hn g hg with e | e
    · exact hp.nR _ (.head _) e
    · omega
  have hs2 : BSlab (w1.setCell ⟨P, 2, none⟩ v') v' l := Slab.same hs (fun g hg => heap_setCell_other _ _ _ _ (hne g hg))
  have hb1 := (ht.obj hp.blk (hp.nR _ (.head _)))
  obtain ⟨a, b, c⟩ := EK.repl (K := PK) (v2 := { V with u := v' }) (s2 := { t with up := l }) [] [⟨1, V.d, t.down.length, bytesV t.down, True⟩, ⟨1, V.a, t.asked.length, strsV t.asked, True⟩]
    ⟨1, V.u, t.up.length, bytesV t.up, True⟩ ⟨1, v', l.length, bytesV l, True⟩ rfl rfl hp ((ht.weak (fun g hg => .inr hg)).set (.inl (.inl rfl)) 2 v') (heap_setCell_same _ P 2 _ _ v' hb1) (fun _ => hs2) (fun g hg => Slab.lt hs2 hg) hn
  exact h.put ⟨rfl, rfl⟩ rfl rfl a b c
/-- to the client -/
theorem TriV.setD (h : TriV w0 w P C R V t X o) {w1 : World} {v' : Value} (ht : Turn (fun g => V.d.ownBlock = some g) w w1) (hn : ∀ g, v'.ownBlock = some g → V.d.ownBlock = some g ∨ w.heap.size ≤ g) (l : List UInt8) (hs : BSlab w1 v' l) :
    TriV w0 (w1.setCell ⟨P, 3, none⟩ v') P C R { V with d := v' } { t with down := l } X o := by
  have hp := h.pk
  have hP := hp.ltR
  have hne : ∀ g, v'.ownBlock = some g → g ≠ P := fun g hg e => by
    subst e
    rcases hn g hg with e | e
    · exact hp.nR _ (.tail _ (.head _)) e
    · omega
  have hs2 : BSlab (w1.setCell ⟨P, 3, none⟩ v') v' l := Slab.same hs (fun g hg => heap_setCell_other _ _ _ _ (hne g hg))
  have hb1 := (ht.obj hp.blk (hp.nR _ (.tail _ (.head _))))
  obtain ⟨a, b, c⟩ := EK.repl (K := PK) (v2 := { V with d := v' }) (s2 := { t with down := l }) [⟨1, V.u, t.up.length, bytesV t.up, True⟩] [⟨1, V.a, t.asked.length, strsV t.asked, True⟩]
    ⟨1, V.d, t.down.length, bytesV t.down, True⟩ ⟨1, v', l.length, bytesV l, True⟩ rfl rfl hp ((ht.weak (fun g hg => .inr hg)).set (.inl (.inl rfl)) 3 v') (heap_setCell_same _ P 3 _ _ v' hb1) (fun _ => hs2) (fun g hg => Slab.lt hs2 hg) hn
  exact h.put ⟨rfl, rfl⟩ rfl rfl a b c
/-- an ask more -/
theorem TriV.setA (h : TriV w0 w P C R V t X o) {w1 : World} {v' : Value} (ht : Turn (fun g => V.a.ownBlock = some g) w w1) (hn : ∀ g, v'.ownBlock = some g → V.a.ownBlock = some g ∨ w.heap.size ≤ g) (l : List ByteArray) (hs : Slab w1 1 v' l.length (strsV l)) :
    TriV w0 (w1.setCell ⟨P, 4, none⟩ v') P C R { V with a := v' } { t with asked := l } X o := by
  have hp := h.pk
  have hP := hp.ltR
  have hne : ∀ g, v'.ownBlock = some g → g ≠ P := fun g hg e => by
    subst e
    rcases hn g hg with e | e
    · exact hp.nR _ (.tail _ (.tail _ (.head _))) e
    · omega
  have hs2 : Slab (w1.setCell ⟨P, 4, none⟩ v') 1 v' l.length (strsV l) := Slab.same hs (fun g hg => heap_setCell_other _ _ _ _ (hne g hg))
  have hb1 := (ht.obj hp.blk (hp.nR _ (.tail _ (.tail _ (.head _)))))
  obtain ⟨a, b, c⟩ := EK.repl (K := PK) (v2 := { V with a := v' }) (s2 := { t with asked := l }) [⟨1, V.u, t.up.length, bytesV t.up, True⟩, ⟨1, V.d, t.down.length, bytesV t.down, True⟩] []
    ⟨1, V.a, t.asked.length, strsV t.asked, True⟩ ⟨1, v', l.length, strsV l, True⟩ rfl rfl hp ((ht.weak (fun g hg => .inr hg)).set (.inl (.inl rfl)) 4 v') (heap_setCell_same _ P 4 _ _ v' hb1) (fun _ => hs2) (fun g hg => Slab.lt hs2 hg) hn
  exact h.put ⟨rfl, rfl⟩ rfl rfl a b c
/-- a cell beside the slices -/
theorem TriV.cell (h : TriV w0 w P C R V t X o) {t' : MS} (i : Nat) (x : Value) (hc : t'.c = t.c) (hs : t'.s = t.s) (hu : t'.up = t.up) (hd : t'.down = t.down) (ha : t'.asked = t.asked) (hcs : (pkCells P V t).setIfInBounds i x = pkCells P V t') : TriV w0 (w.setCell ⟨P, i, none⟩ x) P C R V t' X o := by
  have hp := h.pk
  have hb := heap_setCell_same w P i _ _ x hp.blk
  have hcs2 : (PK.cells P V t).setIfInBounds i x = PK.cells P V t' := hcs
  rw [hcs2] at hb
  obtain ⟨a, b, c⟩ := EK.put (K := PK) (s2 := t') hp ((Turn.refl (fun g => g = P) w).set (.inl rfl) i x) hb rfl (fun p hpm hon => by
    simp only [PK, pkParts, List.mem_cons, List.not_mem_nil, or_false] at hpm
    rcases hpm with rfl | rfl | rfl
    · exact ⟨_, .head _, trivial, rfl, rfl, by rw [hu], by rw [hu]⟩
    · exact ⟨_, .tail _ (.head _), trivial, rfl, rfl, by rw [hd], by rw [hd]⟩
    · exact ⟨_, .tail _ (.tail _ (.head _)), trivial, rfl, rfl, by rw [ha], by rw [ha]⟩)
  exact h.put ⟨rfl, rfl⟩ hc hs a b c
variable (h : TriV w0 w P C R V t X o)
include h
theorem tAsk (hok : t.c.Ok) (body : ByteArray) (hbs : body.size ≤ 9223372036854770000) (hlen : t.c.out.length ≤ 274877906944) :
    Calls Tryd.prog 38 #[.pointer (some ⟨C, 0, none⟩), .string body] w fun e w' => e = .returned (Cl.askV (t.c.ask body)) ∧ TriV w0 w' P C R V { t with c := (t.c.ask body).1 } X o := by
  obtain ⟨U, vi, vo, vh, h, hx⟩ := h
  exact (ask_c C U t.c hok body hbs hlen w h.two.cx.at_).mono (fun e w' ⟨U', he, ha, ht, hn⟩ => ⟨he, triC h hx ha ht hn⟩)
theorem tBye (hok : t.c.Ok) (hlen : t.c.out.length ≤ 274877906944) :
    Calls Tryd.prog 40 #[.pointer (some ⟨C, 0, none⟩)] w fun e w' => e = .returned (.int .i64 (t.c.part.2 : Int)) ∧ TriV w0 w' P C R V { t with c := t.c.part.1 } X o := by
  obtain ⟨U, vi, vo, vh, h, hx⟩ := h
  exact (bye_c C U t.c hok hlen w h.two.cx.at_).mono (fun e w' ⟨U', he, ha, ht, hn⟩ => ⟨he, triC h hx ha ht hn⟩)
theorem tReply :
    Calls Tryd.prog 42 #[.pointer (some ⟨C, 0, none⟩)] w fun e w' => e = .returned t.c.reply.2 ∧ TriV w0 w' P C R V { t with c := t.c.reply.1 } X o := by
  obtain ⟨U, vi, vo, vh, h, hx⟩ := h
  exact (reply_c C U t.c w h.two.cx.at_).mono (fun e w' ⟨U', he, ha, ht, hn⟩ => ⟨he, triC h hx ha ht hn⟩)
theorem tFeedC (hok : t.c.Ok) (A : Option Addr) (cap : Nat) (p : List UInt8) (hp : BytesIn w A p) (hroom : t.c.came.length + (t.c.inp.length + p.length) ≤ 1099511627776) :
    Calls Tryd.prog 36 #[.pointer (some ⟨C, 0, none⟩), .slice A p.length cap] w fun e w' => e = .returned (.tuple #[]) ∧ TriV w0 w' P C R V { t with c := t.c.feed p } X o := by
  obtain ⟨U, vi, vo, vh, h, hx⟩ := h
  exact (clFeed_c C U t.c hok A cap p w hp hroom h.two.cx).mono (fun e w' ⟨U', he, ha, ht, hn⟩ => ⟨he, triC h hx ha ht hn⟩)
theorem tOutC :
    Calls Tryd.prog 44 #[.pointer (some ⟨C, 0, none⟩)] w fun e w' => ∃ A cap, e = .returned (.slice A t.c.out.length cap) ∧ Hid (BSlab w' (.slice A t.c.out.length cap) t.c.out) ∧ Hid (TriV w0 w' P C R V { t with c := { t.c with out := [] } } X o) := by
  obtain ⟨U, vi, vo, vh, h, hx⟩ := h
  refine (clOut_c C U t.c w h.two.cx.at_).mono ?_
  rintro e w' ⟨he, ha, hs, ht⟩
  obtain ⟨A, cap, hv, _⟩ := Slab.form hs
  rw [hv] at he hs
  refine ⟨A, cap, he, Lib.hid hs, Lib.hid (triC h hx ha (ht.weak (fun g e => .inl e)) (fun g hg => ?_))⟩
  rcases hg with e | ⟨p, hp, e⟩
  · exact .inl (.inl e)
  · simp only [CK, clParts, List.mem_cons, List.not_mem_nil, or_false] at hp
    rcases hp with rfl | rfl | rfl | rfl
    · exact .inl (.inr ⟨_, .head _, e⟩)
    · cases e
    · exact .inl (.inr ⟨_, .tail _ (.tail _ (.head _)), e⟩)
    · exact .inl (.inr ⟨_, .tail _ (.tail _ (.tail _ (.head _))), e⟩)
theorem tOutS :
    Calls Tryd.prog 30 #[.pointer (some ⟨R, 0, none⟩)] w fun e w' => ∃ A cap, e = .returned (.slice A t.s.out.length cap) ∧ Hid (BSlab w' (.slice A t.s.out.length cap) t.s.out) ∧ Hid (TriV w0 w' P C R V { t with s := { t.s with out := [] } } X o) := by
  obtain ⟨U, vi, vo, vh, h, hx⟩ := h
  refine (svOut_c R vi vo vh t.s w h.two.sx.sv).mono ?_
  rintro e w' ⟨he, ha, hs, ht⟩
  obtain ⟨A, cap, hv, _⟩ := Slab.form hs
  rw [hv] at he hs
  refine ⟨A, cap, he, Lib.hid hs, Lib.hid (triS h hx ha (ht.weak (fun g e => .inl e)) (fun g hg => ?_))⟩
  rcases hg with e | e | e | e
  · exact .inl (.inl e)
  · exact .inl (.inr (.inl e))
  · cases e
  · exact .inl (.inr (.inr (.inr e)))
theorem tFeedS (hok : t.s.Ok) (pv : Value) (p : List UInt8) (hp : Src Tryd.prog 1 28 pv p.length (bytesV p) w) (hroom : 24 * t.s.out.length + 131072 * (t.s.inp.length + p.length) ≤ 3298534883328) :
    Calls Tryd.prog 24 #[.pointer (some ⟨R, 0, none⟩), pv] w fun e w' => e = .returned (.tuple #[]) ∧ TriV w0 w' P C R V { t with s := t.s.feed p } X o := by
  obtain ⟨U, vi, vo, vh, h, hx⟩ := h
  exact (svFeed_c R vi vo vh t.s hok pv p w hp hroom h.two.sx).mono (fun e w' ⟨_, _, _, he, ha, ht, hn⟩ => ⟨he, triS h hx ha ht hn⟩)
theorem tNext (hl : t.s.held.length ≤ 1000) :
    Calls Tryd.prog 26 #[.pointer (some ⟨R, 0, none⟩)] w fun e w' => e = .returned t.s.nextV ∧ TriV w0 w' P C R V { t with s := t.s.next } X o := by
  obtain ⟨U, vi, vo, vh, h, hx⟩ := h
  exact (next_c R vi vo vh t.s hl w h.two.sx.sv).mono (fun e w' ⟨_, _, _, he, ha, ht, hn⟩ => ⟨he, triS h hx ha ht hn⟩)
theorem tAnswer (hok : t.s.Ok) (body : ByteArray) (hbs : body.size ≤ 9223372036854770000) (hlen : t.s.out.length ≤ 137438953472) :
    Calls Tryd.prog 28 #[.pointer (some ⟨R, 0, none⟩), .string body] w fun e w' => e = .returned (.int .i64 ((t.s.answer body).2 : Int)) ∧ TriV w0 w' P C R V { t with s := (t.s.answer body).1 } X o := by
  obtain ⟨U, vi, vo, vh, h, hx⟩ := h
  exact (answer_c R vi vo vh t.s hok body hbs hlen w h.two.sx).mono (fun e w' ⟨_, _, _, he, ha, ht, hn⟩ => ⟨he, triS h hx ha ht hn⟩)
theorem tWhyC : Calls Tryd.prog 46 #[.pointer (some ⟨C, 0, none⟩)] w fun e w' => e = .returned (.int .i64 (t.c.why : Int)) ∧ w = w' := by
  obtain ⟨U, vi, vo, vh, h, _⟩ := h
  exact clWhy_c C U t.c w h.two.cx.at_
theorem tWhyS : Calls Tryd.prog 33 #[.pointer (some ⟨R, 0, none⟩)] w fun e w' => e = .returned (.int .i64 (t.s.why : Int)) ∧ w = w' := by
  obtain ⟨U, vi, vo, vh, h, _⟩ := h
  exact (svWhy_c R vi vo vh t.s w h.two.sx.sv).mono (fun e w' h => ⟨h.1, h.2.symm⟩)
theorem tOpenC : Calls Tryd.prog 45 #[.pointer (some ⟨C, 0, none⟩)] w fun e w' => e = .returned (.bool (!t.c.closed)) ∧ w = w' := by
  obtain ⟨U, vi, vo, vh, h, _⟩ := h
  exact clOpen_c C U t.c w h.two.cx.at_
theorem tOpenS : Calls Tryd.prog 32 #[.pointer (some ⟨R, 0, none⟩)] w fun e w' => e = .returned (.bool (!t.s.closed)) ∧ w = w' := by
  obtain ⟨U, vi, vo, vh, h, _⟩ := h
  exact (svOpen_c R vi vo vh t.s w h.two.sx.sv).mono (fun e w' h => ⟨h.1, h.2.symm⟩)
end
end Go.Proofs.YtkpickojeghppaaDoor
