/- A server's end in memory; the walks of NewServer, hello, leaves. Conditions: what goes out is shorter than 2 to the 38. -/
import Derived.Test.YtkpickojeghppaaDoorWsend
import Derived.Deep.RegionWith
namespace Go.Proofs.YtkpickojeghppaaDoor
open Go.RowKit
def takeV (R : Nat) (b : Bool) : Value := .func (.func (if b then 73 else 54)) #[.pointer (some ⟨R, 0, none⟩)] #[]
/-- a server's eleven cells -/
def svCells (R : Nat) (vi vo vh : Value) (s : Sv) : Array Value :=
  #[vi, vo, .bool (!s.closed), .bool s.ending, .int .i64 (s.why : Int), .bool s.sums, takeV R s.began, vh, .int .u32 (s.last : Int), .int .u32 (s.bye : Int), .bool s.ending]
def askV (x : Nat × ByteArray × Bool) : List Value := [.int .u32 (x.1 : Int), .string x.2.1, .bool x.2.2]
def heldV (l : List (Nat × ByteArray × Bool)) : List Value := l.flatMap askV
structure SvAt (w : World) (R : Nat) (vi vo vh : Value) (s : Sv) : Prop where
  blk : w.heap[R]? = some (.cells (svCells R vi vo vh s) 101 (0, 0))
  sin : s.closed = false → s.ending = false → BSlab w vi s.inp
  sout : BSlab w vo s.out
  sheld : Slab w 3 vh s.held.length (heldV s.held)
  nR : vi.ownBlock ≠ some R ∧ vo.ownBlock ≠ some R ∧ vh.ownBlock ≠ some R
  ap : ∀ g, vo.ownBlock = some g → vh.ownBlock ≠ some g ∧ vi.ownBlock ≠ some g
  ap2 : ∀ g, vh.ownBlock = some g → vi.ownBlock ≠ some g
  lti : ∀ g, vi.ownBlock = some g → g < w.heap.size
/-- the blocks of a server -/
def SvF (R : Nat) (vi vo vh : Value) (g : Nat) : Prop := g = R ∨ vi.ownBlock = some g ∨ vo.ownBlock = some g ∨ vh.ownBlock = some g
theorem msgTo_ok {to : Nat} {kind : Int} {body : ByteArray} (h1 : to < 4294967296) (h2 : -9223372036854775808 ≤ kind) (h3 : kind ≤ 9223372036854775807) (h4 : body.size ≤ 9223372036854770000) : MsgOk (msgTo to kind body) := ⟨by show (0 : Nat) < 4294967296; omega, h1, h2, h3, h4⟩
def SvPost (R : Nat) (vi vo vh : Value) (w : World) (s : Sv) (r : Value) (e : Ending) (w' : World) : Prop :=
  ∃ vi' vo' vh', e = .returned r ∧ SvAt w' R vi' vo' vh' s ∧ Turn (SvF R vi vo vh) w w' ∧ ∀ g, SvF R vi' vo' vh' g → SvF R vi vo vh g ∨ w.heap.size ≤ g
section
variable {w : World} {R : Nat} {vi vo vh : Value} {s : Sv}
theorem SvAt.lt (h : SvAt w R vi vo vh s) : R < w.heap.size := (Array.getElem?_eq_some_iff.1 h.blk).1
theorem SvAt.turn (h : SvAt w R vi vo vh s) {S : Nat → Prop} {w' : World} (ht : Turn S w w') (hn : ∀ g, SvF R vi vo vh g → ¬ S g) : SvAt w' R vi vo vh s :=
  ⟨ht.obj h.blk (hn R (.inl rfl)), fun a b => Slab.turn (h.sin a b) ht (fun g hg => hn g (.inr (.inl hg))), Slab.turn h.sout ht (fun g hg => hn g (.inr (.inr (.inl hg)))), Slab.turn h.sheld ht (fun g hg => hn g (.inr (.inr (.inr hg)))), h.nR, h.ap, h.ap2, fun g hg => Nat.lt_of_lt_of_le (h.lti g hg) ht.size⟩
theorem SvAt.below (h : SvAt w R vi vo vh s) {w' : World} (hb : Below w.heap.size w w') : SvAt w' R vi vo vh s :=
  h.turn (Turn.of_below (S := fun _ => False) hb) (fun _ _ e => e)
/-- only the server's own block has turned -/
theorem SvAt.put (h : SvAt w R vi vo vh s) {w' : World} {s2 : Sv} (ht : Turn (fun g => g = R) w w') (hb : w'.heap[R]? = some (.cells (svCells R vi vo vh s2) 101 (0, 0)))
    (hi : s2.closed = false → s2.ending = false → s.closed = false ∧ s.ending = false ∧ s2.inp = s.inp) (ho : s2.out = s.out) (hh : s2.held = s.held) : SvAt w' R vi vo vh s2 := by
  refine ⟨hb, fun a b => ?_, ?_, ?_, h.nR, h.ap, h.ap2, fun g hg => Nat.lt_of_lt_of_le (h.lti g hg) ht.size⟩
  · obtain ⟨x, y, z⟩ := hi a b
    rw [z]; exact Slab.turn (h.sin x y) ht (fun g hg e => h.nR.1 (by rw [← e]; exact hg))
  · rw [ho]; exact Slab.turn h.sout ht (fun g hg e => h.nR.2.1 (by rw [← e]; exact hg))
  · rw [hh]; exact Slab.turn h.sheld ht (fun g hg e => h.nR.2.2 (by rw [← e]; exact hg))
/-- a message has gone out -/
theorem SvAt.sent (h : SvAt w R vi vo vh s) {m : WMsg} {e : Ending} {w' : World} (hp : SendPost R (svCells R vi vo vh s) 101 vo s.out (m.summed s.sums) w e w') :
    SvPost R vi vo vh w (s.send m) (.int .i64 (packE (m.summed s.sums) : Int)) e w' := by
  obtain ⟨vo', he, hs, hb, ht, hn⟩ := hp
  have hlo : ∀ g, vo'.ownBlock = some g → ∀ x, x < w.heap.size → vo.ownBlock ≠ some x → g ≠ x := fun g hg x hx hne e => by
    subst e
    rcases hn g hg with h1 | h1
    · exact hne h1
    · omega
  have hR := h.lt
  refine ⟨vi, vo', vh, he, ⟨hb, fun a b => Slab.turn (h.sin a b) ht (fun g hg e => ?_), hs, Slab.turn h.sheld ht (fun g hg e => ?_), ⟨h.nR.1, fun e => ?_, h.nR.2.2⟩, fun g hg => ⟨fun e => ?_, fun e => ?_⟩, h.ap2, fun g hg => Nat.lt_of_lt_of_le (h.lti g hg) ht.size⟩, ht.weak (fun g hg => hg.elim .inl (fun e => .inr (.inr (.inl e)))), fun g hg => ?_⟩
  · rcases e with e | e
    · exact h.nR.1 (by rw [← e]; exact hg)
    · exact (h.ap g e).2 hg
  · rcases e with e | e
    · exact h.nR.2.2 (by rw [← e]; exact hg)
    · exact (h.ap g e).1 hg
  · exact hlo R e R hR h.nR.2.1 rfl
  · have hlt := Slab.lt h.sheld e
    rcases hn g hg with h1 | h1
    · exact (h.ap g h1).1 e
    · omega
  · have hlt := h.lti g e
    rcases hn g hg with h1 | h1
    · exact (h.ap g h1).2 e
    · omega
  · rcases hg with hg | hg | hg | hg
    · exact .inl (.inl hg)
    · exact .inl (.inr (.inl hg))
    · exact (hn g hg).imp (fun e => .inr (.inr (.inl e))) id
    · exact .inl (.inr (.inr (.inr hg)))
end
set_option maxRecDepth 20000 in
set_option maxHeartbeats 2000000 in
theorem newServer_c (w : World) : Calls Tryd.prog 23 #[] w fun e w' => e = .returned (.pointer (some ⟨w.heap.size, 0, none⟩)) ∧ SvAt w' w.heap.size (.slice none 0 0) (.slice none 0 0) (.slice none 0 0) sv0 ∧ Below w.heap.size w w' := by
  go_enter Tryd.func23, Tryd.ntmps23
  go_wp2
  go_ret
  refine ⟨rfl, ⟨heap_alloc_new w _, fun _ _ => bslab_nil _, bslab_nil _, slab_nil _ _, ⟨by simp [Value.ownBlock], by simp [Value.ownBlock], by simp [Value.ownBlock]⟩, (fun g hg => by cases hg), (fun g hg => by cases hg), (fun g hg => by cases hg)⟩, (Below.refl _ _).alloc (Nat.le_refl _) _⟩
set_option maxRecDepth 20000 in
set_option maxHeartbeats 4000000 in
theorem hello_c (R : Nat) (vi vo vh : Value) (s : Sv) (hb : s.began = false) (hc : s.closed = false) (he : s.ending = false) (m : WMsg) (hm : MsgOk m) (hlen : s.out.length ≤ 274877906944) (w : World) (h : SvAt w R vi vo vh s) :
    Calls Tryd.prog 54 #[.pointer (some ⟨R, 0, none⟩), .agg (msgV m).toArray] w (SvPost R vi vo vh w (s.take m).1 (.int .i64 ((s.take m).2 : Int))) := by
  obtain ⟨id, to, kind, body, sm⟩ := m
  show Calls Tryd.prog 54 #[.pointer (some ⟨R, 0, none⟩), .agg #[.int .u32 (id : Int), .int .u32 (to : Int), .int .i64 kind, .string body, .bool sm]] w _
  have hRl := h.lt
  have hb0 : Below w.heap.size w (w.alloc (.cells #[.int .u32 (id : Int), .int .u32 (to : Int), .int .i64 kind, .string body, .bool sm] 27)) := (Below.refl _ _).alloc (Nat.le_refl _) _
  have H0 := Lib.hid (h.below hb0)
  have HB0 := Lib.hid hb0
  have HX := Lib.hid (heap_alloc_new w (.cells #[.int .u32 (id : Int), .int .u32 (to : Int), .int .i64 kind, .string body, .bool sm] 27))
  have g5 : w.cell? ⟨R, 5, none⟩ = some (.bool s.sums) := cell_of_row _ _ 5 _ _ _ h.blk
  have g6 : w.cell? ⟨R, 6, none⟩ = some (takeV R s.began) := cell_of_row _ _ 6 _ _ _ h.blk
  have e5 := frozen_of_row _ _ 5 _ _ h.blk
  have e6 := frozen_of_row _ _ 6 _ _ h.blk
  by_cases hk : kind = 1
  · subst hk
    have hset : ∀ n : Nat, SvAt ((((w.setCell ⟨R, 5, none⟩ (.bool sm)).setCell ⟨R, 6, none⟩ (takeV R true)).alloc (.cells #[.int .u32 (id : Int), .int .u32 (to : Int), .int .i64 1, .string body, .bool sm] 27)).drewN n) R vi vo vh { s with sums := sm, began := true } ∧ Turn (fun g => g = R) w ((((w.setCell ⟨R, 5, none⟩ (.bool sm)).setCell ⟨R, 6, none⟩ (takeV R true)).alloc (.cells #[.int .u32 (id : Int), .int .u32 (to : Int), .int .i64 1, .string body, .bool sm] 27)).drewN n) := fun n => by
      have hblk := heap_setCell_same _ R 6 _ _ (takeV R true) (heap_setCell_same _ R 5 _ _ (.bool sm) h.blk)
      have ht := ((Turn.refl (fun g => g = R) w).set (g := R) (.inl rfl) 5 (.bool sm)).set (g := R) (.inl rfl) 6 (takeV R true)
      have h1 := h.put (s2 := { s with sums := sm, began := true }) ht hblk (fun _ _ => ⟨hc, he, rfl⟩) rfl rfl
      have hbn : Below ((w.setCell ⟨R, 5, none⟩ (.bool sm)).setCell ⟨R, 6, none⟩ (takeV R true)).heap.size ((w.setCell ⟨R, 5, none⟩ (.bool sm)).setCell ⟨R, 6, none⟩ (takeV R true)) ((((w.setCell ⟨R, 5, none⟩ (.bool sm)).setCell ⟨R, 6, none⟩ (takeV R true)).alloc (.cells #[.int .u32 (id : Int), .int .u32 (to : Int), .int .i64 1, .string body, .bool sm] 27)).drewN n) := below_drewN ((Below.refl _ _).alloc (Nat.le_refl _) _) n
      exact ⟨h1.below hbn, ht.trans (Turn.of_below hbn)⟩
    have HSET := Lib.hid hset
    have hst : s.take ⟨id, to, 1, body, sm⟩ = (({ s with sums := sm, began := true } : Sv).send (msgTo id 2 body), packE ((msgTo id 2 body).summed sm)) := by unfold Sv.take; rw [if_pos hb, if_neg (by simp)]
    have HT := Lib.hid hst
    have HSEND := Lib.hid (fun (n : Nat) => show Calls Tryd.prog 62 #[.pointer (some ⟨R, 0, none⟩), .agg #[.int .u32 0, .int .u32 (id : Int), .int .i64 2, .string body, .bool false]] _ _ from
      send_c R (svCells R vi vo vh { s with sums := sm, began := true }) 101 vo s.out sm (msgTo id 2 body) (msgTo_ok hm.1 (by decide) (by decide) hm.2.2.2.2) hlen _ (hset n).1.blk rfl rfl (hset n).1.sout h.nR.2.1)
    clear h hb hc he hb0 hset hst
    go_enter Tryd.func54, Tryd.ntmps54
    go_wp2
    go_region_with (go_at_call 62; refine (HSEND.out _).mono ?_; rintro e w2 hp; obtain ⟨vi', vo', vh', rfl, hsv, htn, hnw⟩ := (HSET.out _).1.sent hp; have HSV := Lib.hid hsv; have HTN := Lib.hid (show Turn (SvF R vi vo vh) w w2 from ((HSET.out _).2.weak (fun g hg => .inl hg)).trans (htn.weak (fun g hg => .inl hg))); have HNW := Lib.hid (show ∀ g, SvF R vi' vo' vh' g → SvF R vi vo vh g ∨ w.heap.size ≤ g from fun g hg => (hnw g hg).imp (fun x => x) (fun h => Nat.le_trans (HSET.out _).2.size h)); clear hsv htn hnw hp)
    all_goals (
      go_wp2
      go_ret
      rw [HT.out]
      exact ⟨vi', vo', vh', rfl, HSV.out, HTN.out, HNW.out⟩)
  · have HT := Lib.hid (show s.take ⟨id, to, kind, body, sm⟩ = (s, 284) by unfold Sv.take; rw [if_pos hb, if_pos hk])
    have hkb : (kind != 1) = true := by rw [bne_iff_ne]; exact hk
    clear h hb hc he hb0 g5 g6 e5 e6
    go_enter Tryd.func54, Tryd.ntmps54
    go_wp2
    go_ret
    rw [HT.out]
    exact ⟨vi, vo, vh, rfl, H0.out, Turn.of_below HB0.out, fun g hg => .inl hg⟩
end Go.Proofs.YtkpickojeghppaaDoor
