/- A server in memory; the walks of its small methods. Conditions: what the laws name. -/
import Derived.Test.YtkpickojeghppaaDoorBase
import Derived.Test.YtkpickojeghppaaDoorDecode
import Derived.Laws.EntriesVeiled
import Derived.Deep.RegionWith
import Derived.Deep.RegionLaw
namespace Go.Proofs.YtkpickojeghppaaDoor
open Go.RowKit
theorem src_bslab {w : World} {v : Value} {l : List UInt8} (h : BSlab w v l) : Src Tryd.prog 1 28 v l.length (bytesV l) w := by
  have hl := h.1
  rcases h.2 with ⟨rfl, h0⟩ | ⟨g, off, cap, rfl, h1, h2, h3, h4, h5⟩
  · obtain rfl : l = [] := List.eq_nil_of_length_eq_zero h0
    exact Src.ofNil w bytTy.slice 0
  · exact Src.ofSlice w bytTy.slice _ _ _ _ hl (fun j u hj => by rw [Addr.add_mid]; exact h4 j u hj) (fun u hu => by
      simp only [bytesV, List.mem_map] at hu
      obtain ⟨c, _, rfl⟩ := hu
      rfl)
/-- what send comes to: the block R is as it was but for what goes out -/
def SendPost (R : Nat) (cs : Array Value) (T : TypeId) (vo : Value) (out : List UInt8) (m : WMsg) (w : World) (e : Ending) (w' : World) : Prop :=
  ∃ vo', e = .returned (.int .i64 (packE m : Int)) ∧ BSlab w' vo' (out ++ packL m) ∧ w'.heap[R]? = some (.cells (cs.setIfInBounds 1 vo') T (0, 0)) ∧ Turn (fun g => g = R ∨ vo.ownBlock = some g) w w' ∧ ∀ g, vo'.ownBlock = some g → vo.ownBlock = some g ∨ w.heap.size ≤ g
theorem packL_len (m : WMsg) : (packL m).length ≤ 131072 := by
  unfold packL
  split
  · rename_i h
    have hs : m.size ≤ 131072 := by
      unfold packE at h
      split at h
      · cases h
      · split at h
        · cases h
        · omega
    have hA : (packA m).length = 24 + m.body.size := by rw [packA_eq]; simp [fours_len, magicL]; omega
    unfold packed
    unfold WMsg.size at hs
    split
    · rename_i hsum
      rw [if_pos hsum] at hs
      rw [List.length_append, four_len, hA]; omega
    · rename_i hsum
      rw [if_neg hsum] at hs
      rw [hA]; omega
  · simp
set_option maxRecDepth 20000 in
set_option maxHeartbeats 4000000 in
theorem send_c (R : Nat) (cs : Array Value) (T : TypeId) (vo : Value) (out : List UInt8) (sums : Bool) (m : WMsg) (hm : MsgOk m) (hlen : out.length ≤ 274877906944) (w : World)
    (hR : w.heap[R]? = some (.cells cs T (0, 0))) (h1 : cs[1]? = some vo) (h5 : cs[5]? = some (.bool sums)) (ho : BSlab w vo out) (hne : vo.ownBlock ≠ some R) :
    Calls Tryd.prog 62 #[.pointer (some ⟨R, 0, none⟩), .agg (msgV m).toArray] w (SendPost R cs T vo out (m.summed sums) w) := by
  obtain ⟨id, to, kind, body, s0⟩ := m
  have hRl : R < w.heap.size := (Array.getElem?_eq_some_iff.1 hR).1
  have hm2 : MsgOk ⟨id, to, kind, body, sums⟩ := hm
  show Calls Tryd.prog 62 #[.pointer (some ⟨R, 0, none⟩), .agg #[.int .u32 (id : Int), .int .u32 (to : Int), .int .i64 kind, .string body, .bool s0]] w (SendPost R cs T vo out ⟨id, to, kind, body, sums⟩ w)
  have hb0 : Below w.heap.size w (w.alloc (.cells #[.int .u32 (id : Int), .int .u32 (to : Int), .int .i64 kind, .string body, .bool sums] 27)) := (Below.refl _ _).alloc (Nat.le_refl _) _
  have hne0 : R ≠ w.heap.size := by omega
  have c5 : w.cell? ⟨R, 5, none⟩ = some (.bool sums) := (cell_of_row _ _ _ _ _ _ hR).trans h5
  have hR1 : (w.alloc (.cells #[.int .u32 (id : Int), .int .u32 (to : Int), .int .i64 kind, .string body, .bool sums] 27)).heap[R]? = some (.cells cs T (0, 0)) := (hb0.block R hRl).trans hR
  have hpk := pack_c ⟨id, to, kind, body, sums⟩ hm2 (w.alloc (.cells #[.int .u32 (id : Int), .int .u32 (to : Int), .int .i64 kind, .string body, .bool sums] 27))
  have hpk' : Calls Tryd.prog 13 #[.agg #[.int .u32 (id : Int), .int .u32 (to : Int), .int .i64 kind, .string body, .bool sums]] (w.alloc (.cells #[.int .u32 (id : Int), .int .u32 (to : Int), .int .i64 kind, .string body, .bool sums] 27)) (PackPost ⟨id, to, kind, body, sums⟩ (w.alloc (.cells #[.int .u32 (id : Int), .int .u32 (to : Int), .int .i64 kind, .string body, .bool sums] 27))) := hpk
  have HP := Lib.hid hpk'
  have HB0 := Lib.hid hb0
  have HR := Lib.hid hR1
  have HO := Lib.hid ho
  have H1 := Lib.hid h1
  have HNE := Lib.hid hne
  have HR0 := Lib.hid hR
  have hpl := packL_len ⟨id, to, kind, body, sums⟩
  clear hpk hpk' hb0 hR1 ho h1 hne hR h5 hm hm2
  go_enter Tryd.func62, Tryd.ntmps62
  go_wp2_with fail
  refine HP.out.mono ?_; rintro e w2 ⟨v, rfl, hs, hb, hn⟩
  clear HP
  have hR2 := (hb.block R (by simp; omega)).trans HR.out
  have c1 : w2.cell? ⟨R, 1, none⟩ = some vo := (cell_of_row _ _ _ _ _ _ hR2).trans H1.out
  have f1 : w2.frozen? ⟨R, 1, none⟩ = false := frozen_of_row _ _ _ _ _ hR2
  have HB2 := Lib.hid (HB0.out.trans (hb.mono (by simp)))
  have HO2 := Lib.hid (Slab.below HO.out HB2.out)
  have HR2 := Lib.hid hR2
  have HS := Lib.hid hs
  clear hs hb hn hR2 c5
  by_cases hE : packE ⟨id, to, kind, body, sums⟩ = 0
  · have HE := Lib.hid hE
    have hEb : ((packE ⟨id, to, kind, body, sums⟩ : Int) == 0) = true := by rw [hE]; rfl
    clear hE
    go_wp2_with (at_builtin; refine wpList_slab bytTy 28 (by rfl) _ _ (by rfl) vo out.length (bytesV out) (by rfl) HO2.out v (by rfl) (packL ⟨id, to, kind, body, sums⟩).length (bytesV (packL ⟨id, to, kind, body, sums⟩)) (src_bslab HS.out) (by unfold maxLen; omega) (by omega) ?_; intro vo2 w3 hs3 hu3; have HS3 := Lib.hid (show BSlab w3 vo2 (out ++ packL ⟨id, to, kind, body, sums⟩) by unfold BSlab; rw [bytesV_append, List.length_append]; exact hs3); have HU3 := Lib.hid hu3; have hR3 := (hu3.block (k := R) (Nat.lt_of_lt_of_le hRl HB2.out.size) HNE.out).trans HR2.out; have d1 := (cell_of_row _ _ 1 _ _ _ hR3).trans H1.out; have g1 := frozen_of_row _ _ 1 _ _ hR3; have HR3 := Lib.hid hR3; obtain ⟨A2, cap2, hv2, _⟩ := Slab.form hs3; subst hv2; clear hs3 hu3 hR3 c1 f1)
    go_ret
    have hn2 : ∀ g, (Value.slice A2 (out.length + (packL ⟨id, to, kind, body, sums⟩).length) cap2).ownBlock = some g → vo.ownBlock = some g ∨ w.heap.size ≤ g := fun g hg => by
      rcases HU3.out.own with h | ⟨q, h, hq⟩
      · left; rw [← h]; exact hg
      · right; rw [h] at hg; have := Option.some.inj hg; have := HB2.out.size; omega
    have hneR : ∀ g, (Value.slice A2 (out.length + (packL ⟨id, to, kind, body, sums⟩).length) cap2).ownBlock = some g → g ≠ R := fun g hg e => by
      subst e
      rcases hn2 g hg with h | h
      · exact HNE.out h
      · omega
    refine ⟨_, rfl, Slab.same HS3.out (fun g hg => heap_setCell_other _ _ _ _ (hneR g hg)), heap_setCell_same _ _ _ _ _ _ HR3.out, ?_, hn2⟩
    exact (((Turn.of_below HB2.out).upd HU3.out (fun g hg => .inl (.inr hg)))).set (.inl (.inl rfl)) 1 _
  · have hEb : ((packE ⟨id, to, kind, body, sums⟩ : Int) == 0) = false := by rw [beq_eq_false_iff_ne]; omega
    have HL := Lib.hid (show packL ⟨id, to, kind, body, sums⟩ = [] from if_neg hE)
    clear hE
    go_wp2
    go_ret
    refine ⟨vo, rfl, by rw [HL.out, List.append_nil]; exact HO2.out, by rw [set_same H1.out]; exact HR2.out, Turn.of_below HB2.out, fun g hg => .inl hg⟩
set_option maxHeartbeats 1000000 in
/-- taken: what went out; nothing is left -/
theorem taken_c (R : Nat) (cs : Array Value) (T : TypeId) (vo : Value) (w : World) (hR : w.heap[R]? = some (.cells cs T (0, 0))) (h1 : cs[1]? = some vo) :
    Calls Tryd.prog 66 #[.pointer (some ⟨R, 0, none⟩)] w fun e w' => e = .returned vo ∧ w'.heap[R]? = some (.cells (cs.setIfInBounds 1 (.slice none 0 0)) T (0, 0)) ∧ Turn (fun g => g = R) w w' := by
  have c1 : w.cell? ⟨R, 1, none⟩ = some vo := (cell_of_row _ _ _ _ _ _ hR).trans h1
  have f1 : w.frozen? ⟨R, 1, none⟩ = false := frozen_of_row _ _ _ _ _ hR
  have HR := Lib.hid hR
  clear hR h1
  go_enter Tryd.func66, Tryd.ntmps66
  go_wp2
  go_ret
  exact ⟨rfl, heap_setCell_same _ _ _ _ _ _ HR.out, (Turn.refl (fun g => g = R) w).set (.inl rfl) 1 _⟩
end Go.Proofs.YtkpickojeghppaaDoor
namespace Go.Proofs.YtkpickojeghppaaDoor
open Go.RowKit
def takeV (R : Nat) (b : Bool) : Value := .func (.func (if b then 73 else 54)) #[.pointer (some ⟨R, 0, none⟩)] #[]
/-- a server's eleven cells -/
def svCells (R : Nat) (vi vo vh : Value) (s : Sv) : Array Value :=
  #[vi, vo, .bool (!s.closed), .bool s.ending, .int .i64 (s.why : Int), .bool s.sums, takeV R s.began, vh, .int .u32 (s.last : Int), .int .u32 (s.bye : Int), .bool s.ending]
def askV (x : Nat × ByteArray × Bool) : List Value := [.int .u32 (x.1 : Int), .string x.2.1, .bool x.2.2]
def heldV (l : List (Nat × ByteArray × Bool)) : List Value := l.flatMap askV
structure SvAt (w : World) (R : Nat) (vi vo vh : Value) (s : Sv) : Prop where
  blk : w.heap[R]? = some (.cells (svCells R vi vo vh s) 101 (0, 0))
  sin : s.closed = false → s.ending = false → BSlab w vi s.inp
  sout : BSlab w vo s.out
  sheld : Slab w 3 vh s.held.length (heldV s.held)
  nR : vi.ownBlock ≠ some R ∧ vo.ownBlock ≠ some R ∧ vh.ownBlock ≠ some R
  ap : ∀ g, vo.ownBlock = some g → vh.ownBlock ≠ some g ∧ vi.ownBlock ≠ some g
  ap2 : ∀ g, vh.ownBlock = some g → vi.ownBlock ≠ some g
  lti : ∀ g, vi.ownBlock = some g → g < w.heap.size
/-- the blocks of a server -/
def SvF (R : Nat) (vi vo vh : Value) (g : Nat) : Prop := g = R ∨ vi.ownBlock = some g ∨ vo.ownBlock = some g ∨ vh.ownBlock = some g
theorem msgTo_ok {to : Nat} {kind : Int} {body : ByteArray} (h1 : to < 4294967296) (h2 : -9223372036854775808 ≤ kind) (h3 : kind ≤ 9223372036854775807) (h4 : body.size ≤ 9223372036854770000) : MsgOk (msgTo to kind body) := ⟨by show (0 : Nat) < 4294967296; omega, h1, h2, h3, h4⟩
def SvPost (R : Nat) (vi vo vh : Value) (w : World) (s : Sv) (r : Value) (e : Ending) (w' : World) : Prop :=
  ∃ vi' vo' vh', e = .returned r ∧ SvAt w' R vi' vo' vh' s ∧ Turn (SvF R vi vo vh) w w' ∧ ∀ g, SvF R vi' vo' vh' g → SvF R vi vo vh g ∨ w.heap.size ≤ g
section
variable {w : World} {R : Nat} {vi vo vh : Value} {s : Sv}
theorem SvAt.lt (h : SvAt w R vi vo vh s) : R < w.heap.size := (Array.getElem?_eq_some_iff.1 h.blk).1
theorem SvAt.turn (h : SvAt w R vi vo vh s) {S : Nat → Prop} {w' : World} (ht : Turn S w w') (hn : ∀ g, SvF R vi vo vh g → ¬ S g) : SvAt w' R vi vo vh s :=
  ⟨ht.obj h.blk (hn R (.inl rfl)), fun a b => Slab.turn (h.sin a b) ht (fun g hg => hn g (.inr (.inl hg))), Slab.turn h.sout ht (fun g hg => hn g (.inr (.inr (.inl hg)))), Slab.turn h.sheld ht (fun g hg => hn g (.inr (.inr (.inr hg)))), h.nR, h.ap, h.ap2, fun g hg => Nat.lt_of_lt_of_le (h.lti g hg) ht.size⟩
theorem SvAt.below (h : SvAt w R vi vo vh s) {w' : World} (hb : Below w.heap.size w w') : SvAt w' R vi vo vh s :=
  h.turn (Turn.of_below (S := fun _ => False) hb) (fun _ _ e => e)
/-- only the server's own block has turned -/
theorem SvAt.put (h : SvAt w R vi vo vh s) {w' : World} {s2 : Sv} (ht : Turn (fun g => g = R) w w') (hb : w'.heap[R]? = some (.cells (svCells R vi vo vh s2) 101 (0, 0)))
    (hi : s2.closed = false → s2.ending = false → s.closed = false ∧ s.ending = false ∧ s2.inp = s.inp) (ho : s2.out = s.out) (hh : s2.held = s.held) : SvAt w' R vi vo vh s2 := by
  refine ⟨hb, fun a b => ?_, ?_, ?_, h.nR, h.ap, h.ap2, fun g hg => Nat.lt_of_lt_of_le (h.lti g hg) ht.size⟩
  · obtain ⟨x, y, z⟩ := hi a b
    rw [z]; exact Slab.turn (h.sin x y) ht (fun g hg e => h.nR.1 (by rw [← e]; exact hg))
  · rw [ho]; exact Slab.turn h.sout ht (fun g hg e => h.nR.2.1 (by rw [← e]; exact hg))
  · rw [hh]; exact Slab.turn h.sheld ht (fun g hg e => h.nR.2.2 (by rw [← e]; exact hg))
/-- a message has gone out -/
theorem SvAt.sent (h : SvAt w R vi vo vh s) {m : WMsg} {e : Ending} {w' : World} (hp : SendPost R (svCells R vi vo vh s) 101 vo s.out (m.summed s.sums) w e w') :
    SvPost R vi vo vh w (s.send m) (.int .i64 (packE (m.summed s.sums) : Int)) e w' := by
  obtain ⟨vo', he, hs, hb, ht, hn⟩ := hp
  have hlo : ∀ g, vo'.ownBlock = some g → ∀ x, x < w.heap.size → vo.ownBlock ≠ some x → g ≠ x := fun g hg x hx hne e => by
    subst e
    rcases hn g hg with h1 | h1
    · exact hne h1
    · omega
  have hR := h.lt
  refine ⟨vi, vo', vh, he, ⟨hb, fun a b => Slab.turn (h.sin a b) ht (fun g hg e => ?_), hs, Slab.turn h.sheld ht (fun g hg e => ?_), ⟨h.nR.1, fun e => ?_, h.nR.2.2⟩, fun g hg => ⟨fun e => ?_, fun e => ?_⟩, h.ap2, fun g hg => Nat.lt_of_lt_of_le (h.lti g hg) ht.size⟩, ht.weak (fun g hg => hg.elim .inl (fun e => .inr (.inr (.inl e)))), fun g hg => ?_⟩
  · rcases e with e | e
    · exact h.nR.1 (by rw [← e]; exact hg)
    · exact (h.ap g e).2 hg
  · rcases e with e | e
    · exact h.nR.2.2 (by rw [← e]; exact hg)
    · exact (h.ap g e).1 hg
  · exact hlo R e R hR h.nR.2.1 rfl
  · have hlt := Slab.lt h.sheld e
    rcases hn g hg with h1 | h1
    · exact (h.ap g h1).1 e
    · omega
  · have hlt := h.lti g e
    rcases hn g hg with h1 | h1
    · exact (h.ap g h1).2 e
    · omega
  · rcases hg with hg | hg | hg | hg
    · exact .inl (.inl hg)
    · exact .inl (.inr (.inl hg))
    · exact (hn g hg).imp (fun e => .inr (.inr (.inl e))) id
    · exact .inl (.inr (.inr (.inr hg)))
end
set_option maxRecDepth 20000 in
set_option maxHeartbeats 2000000 in
theorem newServer_c (w : World) : Calls Tryd.prog 23 #[] w fun e w' => e = .returned (.pointer (some ⟨w.heap.size, 0, none⟩)) ∧ SvAt w' w.heap.size (.slice none 0 0) (.slice none 0 0) (.slice none 0 0) sv0 ∧ Below w.heap.size w w' := by
  go_enter Tryd.func23, Tryd.ntmps23
  go_wp2
  go_ret
  refine ⟨rfl, ⟨heap_alloc_new w _, fun _ _ => bslab_nil _, bslab_nil _, slab_nil _ _, ⟨by simp [Value.ownBlock], by simp [Value.ownBlock], by simp [Value.ownBlock]⟩, (fun g hg => by cases hg), (fun g hg => by cases hg), (fun g hg => by cases hg)⟩, (Below.refl _ _).alloc (Nat.le_refl _) _⟩
set_option maxRecDepth 20000 in
set_option maxHeartbeats 4000000 in
theorem hello_c (R : Nat) (vi vo vh : Value) (s : Sv) (hb : s.began = false) (hc : s.closed = false) (he : s.ending = false) (m : WMsg) (hm : MsgOk m) (hlen : s.out.length ≤ 274877906944) (w : World) (h : SvAt w R vi vo vh s) :
    Calls Tryd.prog 54 #[.pointer (some ⟨R, 0, none⟩), .agg (msgV m).toArray] w (SvPost R vi vo vh w (s.take m).1 (.int .i64 ((s.take m).2 : Int))) := by
  obtain ⟨id, to, kind, body, sm⟩ := m
  show Calls Tryd.prog 54 #[.pointer (some ⟨R, 0, none⟩), .agg #[.int .u32 (id : Int), .int .u32 (to : Int), .int .i64 kind, .string body, .bool sm]] w _
  have hRl := h.lt
  have hb0 : Below w.heap.size w (w.alloc (.cells #[.int .u32 (id : Int), .int .u32 (to : Int), .int .i64 kind, .string body, .bool sm] 27)) := (Below.refl _ _).alloc (Nat.le_refl _) _
  have H0 := Lib.hid (h.below hb0)
  have HB0 := Lib.hid hb0
  have HX := Lib.hid (heap_alloc_new w (.cells #[.int .u32 (id : Int), .int .u32 (to : Int), .int .i64 kind, .string body, .bool sm] 27))
  have g5 : w.cell? ⟨R, 5, none⟩ = some (.bool s.sums) := cell_of_row _ _ 5 _ _ _ h.blk
  have g6 : w.cell? ⟨R, 6, none⟩ = some (takeV R s.began) := cell_of_row _ _ 6 _ _ _ h.blk
  have e5 := frozen_of_row _ _ 5 _ _ h.blk
  have e6 := frozen_of_row _ _ 6 _ _ h.blk
  by_cases hk : kind = 1
  · subst hk
    have hset : ∀ n : Nat, SvAt ((((w.setCell ⟨R, 5, none⟩ (.bool sm)).setCell ⟨R, 6, none⟩ (takeV R true)).alloc (.cells #[.int .u32 (id : Int), .int .u32 (to : Int), .int .i64 1, .string body, .bool sm] 27)).drewN n) R vi vo vh { s with sums := sm, began := true } ∧ Turn (fun g => g = R) w ((((w.setCell ⟨R, 5, none⟩ (.bool sm)).setCell ⟨R, 6, none⟩ (takeV R true)).alloc (.cells #[.int .u32 (id : Int), .int .u32 (to : Int), .int .i64 1, .string body, .bool sm] 27)).drewN n) := fun n => by
      have hblk := heap_setCell_same _ R 6 _ _ (takeV R true) (heap_setCell_same _ R 5 _ _ (.bool sm) h.blk)
      have ht := ((Turn.refl (fun g => g = R) w).set (g := R) (.inl rfl) 5 (.bool sm)).set (g := R) (.inl rfl) 6 (takeV R true)
      have h1 := h.put (s2 := { s with sums := sm, began := true }) ht hblk (fun _ _ => ⟨hc, he, rfl⟩) rfl rfl
      have hbn : Below ((w.setCell ⟨R, 5, none⟩ (.bool sm)).setCell ⟨R, 6, none⟩ (takeV R true)).heap.size ((w.setCell ⟨R, 5, none⟩ (.bool sm)).setCell ⟨R, 6, none⟩ (takeV R true)) ((((w.setCell ⟨R, 5, none⟩ (.bool sm)).setCell ⟨R, 6, none⟩ (takeV R true)).alloc (.cells #[.int .u32 (id : Int), .int .u32 (to : Int), .int .i64 1, .string body, .bool sm] 27)).drewN n) := below_drewN ((Below.refl _ _).alloc (Nat.le_refl _) _) n
      exact ⟨h1.below hbn, ht.trans (Turn.of_below hbn)⟩
    have HSET := Lib.hid hset
    have hst : s.take ⟨id, to, 1, body, sm⟩ = (({ s with sums := sm, began := true } : Sv).send (msgTo id 2 body), packE ((msgTo id 2 body).summed sm)) := by unfold Sv.take; rw [if_pos hb, if_neg (by simp)]
    have HT := Lib.hid hst
    have HSEND := Lib.hid (fun (n : Nat) => show Calls Tryd.prog 62 #[.pointer (some ⟨R, 0, none⟩), .agg #[.int .u32 0, .int .u32 (id : Int), .int .i64 2, .string body, .bool false]] _ _ from
      send_c R (svCells R vi vo vh { s with sums := sm, began := true }) 101 vo s.out sm (msgTo id 2 body) (msgTo_ok hm.1 (by decide) (by decide) hm.2.2.2.2) hlen _ (hset n).1.blk rfl rfl (hset n).1.sout h.nR.2.1)
    clear h hb hc he hb0 hset hst
    go_enter Tryd.func54, Tryd.ntmps54
    go_wp2
    go_region_with (go_at_call 62; refine (HSEND.out _).mono ?_; rintro e w2 hp; obtain ⟨vi', vo', vh', rfl, hsv, htn, hnw⟩ := (HSET.out _).1.sent hp; have HSV := Lib.hid hsv; have HTN := Lib.hid (show Turn (SvF R vi vo vh) w w2 from ((HSET.out _).2.weak (fun g hg => .inl hg)).trans (htn.weak (fun g hg => .inl hg))); have HNW := Lib.hid (show ∀ g, SvF R vi' vo' vh' g → SvF R vi vo vh g ∨ w.heap.size ≤ g from fun g hg => (hnw g hg).imp (fun x => x) (fun h => Nat.le_trans (HSET.out _).2.size h)); clear hsv htn hnw hp)
    all_goals (
      go_wp2
      go_ret
      rw [HT.out]
      exact ⟨vi', vo', vh', rfl, HSV.out, HTN.out, HNW.out⟩)
  · have HT := Lib.hid (show s.take ⟨id, to, kind, body, sm⟩ = (s, 284) by unfold Sv.take; rw [if_pos hb, if_pos hk])
    have hkb : (kind != 1) = true := by rw [bne_iff_ne]; exact hk
    clear h hb hc he hb0 g5 g6 e5 e6
    go_enter Tryd.func54, Tryd.ntmps54
    go_wp2
    go_ret
    rw [HT.out]
    exact ⟨vi, vo, vh, rfl, H0.out, Turn.of_below HB0.out, fun g hg => .inl hg⟩
end Go.Proofs.YtkpickojeghppaaDoor
namespace Go.Proofs.YtkpickojeghppaaDoor
open Go.RowKit
/-- a server's cells, as the walk reads them -/
theorem SvAt.cells {w : World} {R : Nat} {vi vo vh : Value} {s : Sv} (h : SvAt w R vi vo vh s) :
    (w.cell? ⟨R, 0, none⟩ = some vi ∧ w.cell? ⟨R, 1, none⟩ = some vo ∧ w.cell? ⟨R, 2, none⟩ = some (.bool (!s.closed)) ∧ w.cell? ⟨R, 3, none⟩ = some (.bool s.ending) ∧ w.cell? ⟨R, 4, none⟩ = some (.int .i64 (s.why : Int)) ∧ w.cell? ⟨R, 5, none⟩ = some (.bool s.sums) ∧ w.cell? ⟨R, 6, none⟩ = some (takeV R s.began) ∧ w.cell? ⟨R, 7, none⟩ = some vh ∧ w.cell? ⟨R, 8, none⟩ = some (.int .u32 (s.last : Int)) ∧ w.cell? ⟨R, 9, none⟩ = some (.int .u32 (s.bye : Int)) ∧ w.cell? ⟨R, 10, none⟩ = some (.bool s.ending)) ∧ ∀ i : Nat, w.frozen? ⟨R, i, none⟩ = false :=
  ⟨⟨cell_of_row _ _ _ _ _ _ h.blk, cell_of_row _ _ _ _ _ _ h.blk, cell_of_row _ _ _ _ _ _ h.blk, cell_of_row _ _ _ _ _ _ h.blk, cell_of_row _ _ _ _ _ _ h.blk, cell_of_row _ _ _ _ _ _ h.blk, cell_of_row _ _ _ _ _ _ h.blk, cell_of_row _ _ _ _ _ _ h.blk, cell_of_row _ _ _ _ _ _ h.blk, cell_of_row _ _ _ _ _ _ h.blk, cell_of_row _ _ _ _ _ _ h.blk⟩, fun _ => frozen_of_row _ _ _ _ _ h.blk⟩
theorem svPost_same {w : World} {R : Nat} {vi vo vh : Value} {s : Sv} (h : SvAt w R vi vo vh s) (r : Value) : SvPost R vi vo vh w s r (.returned r) w :=
  ⟨vi, vo, vh, rfl, h, Turn.refl _ _, fun _ hg => .inl hg⟩
set_option maxRecDepth 20000 in
set_option maxHeartbeats 4000000 in
theorem leaves_c (R : Nat) (vi vo vh : Value) (s : Sv) (hlen : s.out.length ≤ 274877906944) (hby : s.bye < 4294967296) (w : World) (h : SvAt w R vi vo vh s) :
    Calls Tryd.prog 63 #[.pointer (some ⟨R, 0, none⟩)] w (SvPost R vi vo vh w s.parts (.tuple #[])) := by
  obtain ⟨⟨_, _, c2, _, _, _, _, c7, _, c9, c10⟩, hf⟩ := h.cells
  have f2 := hf 2
  obtain ⟨A, cap, hvh, _, _, _⟩ := Slab.form h.sheld
  have H := Lib.hid h
  by_cases hall : (s.ending && s.held.isEmpty && !s.closed) = true
  · have HP := Lib.hid (show s.parts = { s.send (msgTo s.bye 5 ⟨#[]⟩) with closed := true } from if_pos hall)
    simp only [Bool.and_eq_true, Bool.not_eq_true'] at hall
    obtain ⟨⟨he, hl⟩, hc⟩ := hall
    have hl0 : s.held = [] := List.isEmpty_iff.1 hl
    rw [hl0] at hvh
    subst hvh
    rw [he] at c10
    rw [hc] at c2
    have hdrew : ∀ n : Nat, SvAt (w.drewN n) R vi vo (.slice A ([] : List (Nat × ByteArray × Bool)).length cap) s := fun n => h.below (below_drewN' w n)
    have HD := Lib.hid hdrew
    have HSEND := Lib.hid (fun (n : Nat) => show Calls Tryd.prog 62 #[.pointer (some ⟨R, 0, none⟩), .agg #[.int .u32 0, .int .u32 (s.bye : Int), .int .i64 5, .string ⟨#[]⟩, .bool false]] (w.drewN n) _ from
      send_c R (svCells R vi vo (.slice A ([] : List (Nat × ByteArray × Bool)).length cap) s) 101 vo s.out s.sums (msgTo s.bye 5 ⟨#[]⟩) (msgTo_ok hby (by decide) (by decide) (by decide)) hlen _ (hdrew n).blk rfl rfl (hdrew n).sout h.nR.2.1)
    clear h hf hl hl0 hc he hdrew
    go_enter Tryd.func63, Tryd.ntmps63
    go_wp2
    go_region_with (go_at_call 62; refine (HSEND.out _).mono ?_; rintro e w2 hp; obtain ⟨vi', vo', vh', rfl, hsv, htn, hnw⟩ := (HD.out _).sent hp; obtain ⟨⟨_, _, d2, _⟩, df⟩ := hsv.cells; have d2f := df 2; have HSV := Lib.hid hsv; have HTN := Lib.hid (show Turn (SvF R vi vo (.slice A ([] : List (Nat × ByteArray × Bool)).length cap)) w w2 from (Turn.of_below (below_drewN' w _)).trans (htn.weak (fun g hg => .inl hg))); have HNW := Lib.hid (show ∀ g, SvF R vi' vo' vh' g → SvF R vi vo (.slice A ([] : List (Nat × ByteArray × Bool)).length cap) g ∨ w.heap.size ≤ g from fun g hg => hnw g hg); clear hsv htn hnw hp df)
    all_goals (
      go_wp2
      go_end0
      rw [HP.out]
      exact ⟨vi', vo', vh', rfl, HSV.out.put ((Turn.refl (fun g => g = R) w2).set (.inl rfl) 2 (.bool false)) (heap_setCell_same _ _ 2 _ _ (.bool false) HSV.out.blk) (fun a => by cases a) rfl rfl, HTN.out.set (.inl (.inl rfl)) 2 _, HNW.out⟩)
  · have HP := Lib.hid (show s.parts = s from if_neg hall)
    have hn : ((s.held.length : Int) == 0) = s.held.isEmpty := by
      cases s.held with
      | nil => rfl
      | cons a l => rw [List.length_cons]; simp; omega
    subst hvh
    generalize s.held.length = n at *
    obtain ⟨emp, hemp⟩ : ∃ b, s.held.isEmpty = b := ⟨_, rfl⟩
    rw [hemp] at hn hall
    obtain ⟨en, hen⟩ : ∃ b, s.ending = b := ⟨_, rfl⟩
    rw [hen] at c10 hall
    obtain ⟨cl, hcl⟩ : ∃ b, s.closed = b := ⟨_, rfl⟩
    rw [hcl] at c2 hall
    clear h hf hemp hen hcl
    have fin : SvPost R vi vo (.slice A n cap) w s.parts (.tuple #[]) (.returned (.tuple #[])) w := by rw [HP.out]; exact svPost_same H.out _
    have FIN := Lib.hid fin
    clear fin
    cases en with
    | false =>
      go_enter Tryd.func63, Tryd.ntmps63
      go_wp2
      go_end0
      exact FIN.out
    | true =>
      cases emp with
      | false =>
        go_enter Tryd.func63, Tryd.ntmps63
        go_wp2
        go_end0
        exact FIN.out
      | true =>
        cases cl with
        | false => exact absurd rfl hall
        | true =>
          go_enter Tryd.func63, Tryd.ntmps63
          go_wp2
          go_end0
          exact FIN.out
end Go.Proofs.YtkpickojeghppaaDoor
namespace Go.Proofs.YtkpickojeghppaaDoor
open Go.RowKit
section
variable {P : Program} {S E : TypeId} {z : Value} {size bytes : Nat} {w : World}
theorem wp_slab {o : Oper} {a : Act} {K : Act → World → Prop} {Q : Exit → Act → World → Prop} (ty : SlTy P S E z size bytes) (tx : TypeId) (s y : Operand)
    (ho : o.op = .call { callee := .builtin .append, args := #[s, y], argTypes := #[S, tx] })
    (v : Value) (n : Nat) (xs : List Value) (hv : a.eval s = v) (hown : Slab w size v n xs) (x : Value) (hx : a.eval y = x) (m : Nat) (news : List Value) (hs : Src P size tx x m news w)
    (h63 : n + m ≤ maxLen) (hbytes : (n + m) * bytes ≤ 140737488355328)
    (h : ∀ v' w', Slab w' size v' (n + m) (xs ++ news) → Upd w w' v.ownBlock v'.ownBlock → K (a.put o.dst v') w') : o.wp P a w K Q := by
  obtain ⟨v', w', hr, h2, h3⟩ := run_app_slab (w := w) ty tx o.type v n xs hown x m news hs h63 hbytes
  unfold Oper.wp execOp
  simp only [ho, resolve, invoke, builtin, Sem.run_bind, Sem.run_pure, Result.andThen_ok, List.map_toArray, List.map_cons, List.map_nil, hv, hx, hr]
  exact h v' w' h2 h3
/-- at a step of a region that draws -/
theorem step_slab {ops : Array Oper} {o : Oper} {a : Act} {K : Act → World → Prop} {Q : Exit → Act → World → Prop} {F : Prop} (ty : SlTy P S E z size bytes) (tx : TypeId) (hgd : o.guard = none) (s y : Operand)
    (ho : o.op = .call { callee := .builtin .append, args := #[s, y], argTypes := #[S, tx] })
    (v : Value) (n : Nat) (xs : List Value) (hv : a.eval s = v) (hown : Slab w size v n xs) (x : Value) (hx : a.eval y = x) (m : Nat) (news : List Value) (hs : Src P size tx x m news w)
    (h63 : n + m ≤ maxLen) (hbytes : (n + m) * bytes ≤ 140737488355328)
    (h : ∀ v' w', Slab w' size v' (n + m) (xs ++ news) → Upd w w' v.ownBlock v'.ownBlock → K (a.put o.dst v') w') :
    if Region.wanted o (yielded ops a.tmps) = true then Oper.wp P o a w K Q else F := by
  have hw : Region.wanted o (yielded ops a.tmps) = true := by simp [Region.wanted, hgd]
  rw [if_pos hw]
  exact wp_slab ty tx s y ho v n xs hv hown x hx m news hs h63 hbytes h
end
theorem askTy : SlTy Tryd.prog 99 110 (.agg #[.int .u32 0, .string ⟨#[]⟩, .bool false]) 3 32 := ⟨by kernel_rfl, by kernel_rfl, by kernel_rfl, by decide⟩
theorem heldV_append (a b : List (Nat × ByteArray × Bool)) : heldV (a ++ b) = heldV a ++ heldV b := by simp [heldV]
/-- the held asks have grown -/
theorem SvAt.held {w : World} {R : Nat} {vi vo vh vh' : Value} {s s2 : Sv} (h : SvAt w R vi vo vh s) {w1 : World} (hu : Upd w w1 vh.ownBlock vh'.ownBlock) (hs : Slab w1 3 vh' s2.held.length (heldV s2.held))
    (hc : ((svCells R vi vo vh s).setIfInBounds 7 vh') = svCells R vi vo vh' s2) (hi : s2.closed = s.closed) (he : s2.ending = s.ending) (hin : s2.inp = s.inp) (ho : s2.out = s.out) :
    SvAt (w1.setCell ⟨R, 7, none⟩ vh') R vi vo vh' s2 ∧ Turn (SvF R vi vo vh) w (w1.setCell ⟨R, 7, none⟩ vh') ∧ ∀ g, SvF R vi vo vh' g → SvF R vi vo vh g ∨ w.heap.size ≤ g := by
  have hR := h.lt
  have hn : ∀ g, vh'.ownBlock = some g → vh.ownBlock = some g ∨ w.heap.size ≤ g := fun g hg => by
    rcases hu.own with e | ⟨q, e, hq⟩
    · left; rw [← e]; exact hg
    · right; rw [e] at hg; rw [← Option.some.inj hg]; exact hq
  have hb1 : w1.heap[R]? = some (.cells (svCells R vi vo vh s) 101 (0, 0)) := (hu.block hR h.nR.2.2).trans h.blk
  have hb2 := heap_setCell_same w1 R 7 _ _ vh' hb1
  rw [hc] at hb2
  have ht : Turn (SvF R vi vo vh) w (w1.setCell ⟨R, 7, none⟩ vh') := ((Turn.refl (SvF R vi vo vh) w).upd hu (fun g hg => .inl (.inr (.inr (.inr hg))))).set (.inl (.inl rfl)) 7 vh'
  have htn : Turn (fun g => g = R ∨ vh.ownBlock = some g) w (w1.setCell ⟨R, 7, none⟩ vh') := ((Turn.refl (fun g => g = R ∨ vh.ownBlock = some g) w).upd hu (fun g hg => .inl (.inr hg))).set (.inl (.inl rfl)) 7 vh'
  have hne : ∀ g, vh'.ownBlock = some g → g ≠ R := fun g hg e => by
    subst e
    rcases hn g hg with e | e
    · exact h.nR.2.2 e
    · omega
  refine ⟨⟨hb2, fun a b => ?_, ?_, Slab.same hs (fun g hg => heap_setCell_other _ _ _ _ (hne g hg)), ⟨h.nR.1, h.nR.2.1, fun e => hne R e rfl⟩, fun g hg => ⟨fun e => ?_, (h.ap g hg).2⟩, fun g hg e => ?_, fun g hg => Nat.lt_of_lt_of_le (h.lti g hg) ht.size⟩, ht, fun g hg => ?_⟩
  · rw [hin]
    refine Slab.turn (h.sin (by rw [← hi]; exact a) (by rw [← he]; exact b)) htn (fun g hg e => ?_)
    rcases e with e | e
    · exact h.nR.1 (by rw [← e]; exact hg)
    · exact h.ap2 g e hg
  · rw [ho]
    refine Slab.turn h.sout htn (fun g hg e => ?_)
    rcases e with e | e
    · exact h.nR.2.1 (by rw [← e]; exact hg)
    · exact (h.ap g hg).1 e
  · rcases hn g e with e | e
    · exact (h.ap g hg).1 e
    · have := Slab.lt h.sout hg; omega
  · rcases hn g hg with e2 | e2
    · exact h.ap2 g e2 e
    · have := h.lti g e; omega
  · rcases hg with hg | hg | hg | hg
    · exact .inl (.inl hg)
    · exact .inl (.inr (.inl hg))
    · exact .inl (.inr (.inr (.inl hg)))
    · exact (hn g hg).imp (fun e => .inr (.inr (.inr e))) (fun e => e)
set_option maxRecDepth 20000 in
set_option maxHeartbeats 8000000 in
theorem later_c (R : Nat) (vi vo vh : Value) (s : Sv) (hb : s.began = true) (m : WMsg) (hm : MsgOk m) (hlen : s.out.length ≤ 274877906944) (hhl : s.held.length ≤ 1000) (w : World) (h : SvAt w R vi vo vh s) :
    Calls Tryd.prog 73 #[.pointer (some ⟨R, 0, none⟩), .agg (msgV m).toArray] w (SvPost R vi vo vh w (s.take m).1 (.int .i64 ((s.take m).2 : Int))) := by
  obtain ⟨id, to, kind, body, sm⟩ := m
  have hid := hm.1
  simp only at hid
  clear hm
  show Calls Tryd.prog 73 #[.pointer (some ⟨R, 0, none⟩), .agg #[.int .u32 (id : Int), .int .u32 (to : Int), .int .i64 kind, .string body, .bool sm]] w _
  have hb0 : Below w.heap.size w (w.alloc (.cells #[.int .u32 (id : Int), .int .u32 (to : Int), .int .i64 kind, .string body, .bool sm] 27)) := (Below.refl _ _).alloc (Nat.le_refl _) _
  have HW := Lib.hid (fun (n : Nat) => And.intro (h.below (below_drewN hb0 n)) (And.intro (below_drewN hb0 n) (show ((w.alloc (.cells #[.int .u32 (id : Int), .int .u32 (to : Int), .int .i64 kind, .string body, .bool sm] 27)).drewN n).heap[w.heap.size]? = some (.cells #[.int .u32 (id : Int), .int .u32 (to : Int), .int .i64 kind, .string body, .bool sm] 27) from heap_alloc_new w (.cells #[.int .u32 (id : Int), .int .u32 (to : Int), .int .i64 kind, .string body, .bool sm] 27))))
  by_cases hk3 : kind = 3
  · subst hk3
    obtain ⟨⟨_, _, _, _, _, _, _, _, g8, _, _⟩, gf⟩ := (HW.out 0).1.cells
    by_cases hle : id ≤ s.last
    · have HT := Lib.hid (show s.take ⟨id, to, 3, body, sm⟩ = (s, 284) by unfold Sv.take; rw [if_neg (by rw [hb]; decide), if_pos rfl, if_pos hle])
      have g8' : (w.alloc (.cells #[.int .u32 (id : Int), .int .u32 (to : Int), .int .i64 3, .string body, .bool sm] 27)).cell? ⟨R, 8, none⟩ = some (.int .u32 (s.last : Int)) := g8
      clear h hb hb0 g8 gf
      go_enter Tryd.func73, Tryd.ntmps73
      go_wp2
      go_quiet (fail)
      go_wp2
      go_ret
      rw [HT.out]
      exact ⟨vi, vo, vh, rfl, (HW.out nq).1, Turn.of_below (HW.out nq).2.1, fun g hg => .inl hg⟩
    · have g8' : (w.alloc (.cells #[.int .u32 (id : Int), .int .u32 (to : Int), .int .i64 3, .string body, .bool sm] 27)).cell? ⟨R, 8, none⟩ = some (.int .u32 (s.last : Int)) := g8
      obtain ⟨A, cap, hvh, hnc, hcm, _⟩ := Slab.form h.sheld
      have hlt : s.last < id := by omega
      by_cases hfull : 16 ≤ s.held.length
      · have HT := Lib.hid (show s.take ⟨id, to, 3, body, sm⟩ = (s, 5) by unfold Sv.take; rw [if_neg (by rw [hb]; decide), if_pos rfl, if_neg hle, if_pos hfull])
        subst hvh
        have HWA := Lib.hid (fun (n : Nat) => (HW.out n).1.cells.1.2.2.2.2.2.2.2.1)
        clear h hb hb0 g8 gf
        go_enter Tryd.func73, Tryd.ntmps73
        go_wp2
        go_quiet (fail)
        have c7 := HWA.out nq
        go_wp2
        go_ret
        rw [HT.out]
        exact ⟨vi, vo, _, rfl, (HW.out nq).1, Turn.of_below (HW.out nq).2.1, fun g hg => .inl hg⟩
      · have HT := Lib.hid (show s.take ⟨id, to, 3, body, sm⟩ = ({ s with last := id, held := s.held ++ [(id, body, false)] }, 0) by unfold Sv.take; rw [if_neg (by rw [hb]; decide), if_pos rfl, if_neg hle, if_neg hfull])
        subst hvh
        clear h hb hb0 g8 gf
        go_enter Tryd.func73, Tryd.ntmps73
        go_wp2
        go_quiet (fail)
        obtain ⟨h1, hb1, hx1⟩ := HW.out nq
        have H1 := Lib.hid h1
        have HB1 := Lib.hid hb1
        have HX1 := Lib.hid hx1
        have c7 := h1.cells.1.2.2.2.2.2.2.2.1
        have c8 := h1.cells.1.2.2.2.2.2.2.2.2.1
        have f8 := h1.cells.2 8
        obtain ⟨⟨b0, b1, b2, b3, b4⟩, _⟩ := cellsOf5 hx1
        clear h1 hb1 hx1 HW g8'
        generalize (w.alloc (.cells #[.int .u32 (id : Int), .int .u32 (to : Int), .int .i64 3, .string body, .bool sm] 27)).drewN nq = W at *
        have h2 := H1.out.put (s2 := { s with last := id }) ((Turn.refl (fun g => g = R) W).set (g := R) (.inl rfl) 8 (.int .u32 (id : Int))) (heap_setCell_same _ R 8 _ _ (.int .u32 (id : Int)) H1.out.blk) (fun a b => ⟨a, b, rfl⟩) rfl rfl
        have ht2 := Turn.trans (Turn.of_below (S := SvF R vi vo (.slice A s.held.length cap)) HB1.out) (((Turn.refl (SvF R vi vo (.slice A s.held.length cap)) W).set (g := R) (.inl (.inl rfl)) 8 (.int .u32 (id : Int))).weak (fun g hg => .inl hg))
        have H2 := Lib.hid h2
        have HT2 := Lib.hid ht2
        go_wp2
        have hx2 : (W.setCell ⟨R, 8, none⟩ (.int .u32 (id : Int))).heap[w.heap.size]? = _ := (heap_setCell_other W ⟨R, 8, none⟩ w.heap.size (.int .u32 (id : Int)) (show w.heap.size ≠ R by have := H1.out.lt; intro e; subst e; have := H1.out.blk; rw [HX1.out] at this; injection this with this; injection this with this; have := congrArg Array.size this; simp [svCells] at this)).trans HX1.out
        clear b0 b1 b2 b3 b4 c7 c8 f8 H1 HX1 HB1
        generalize (W.setCell ⟨R, 8, none⟩ (.int .u32 (id : Int))) = W1 at *
        obtain ⟨⟨b0, b1, b2, b3, b4⟩, _⟩ := cellsOf5 hx2
        have c7 := h2.cells.1.2.2.2.2.2.2.2.1
        have f7 := h2.cells.2 7
        have c7a := cell_below (show Below W1.heap.size W1 (W1.alloc (.cells #[.int .u32 (id : Int), .string body, .bool false] 110)) from (by repeat (first | with_reducible exact Below.refl _ _ | with_reducible refine below_drewN ?_ _ | with_reducible refine Below.drew ?_ | with_reducible refine Below.alloc ?_ (by first | (simp; done) | (simp; omega)) _ | with_reducible refine Below.setCell ?_ (by first | (simp; done) | (simp; omega)) _))) c7
        have c7b := cell_below (show Below W1.heap.size W1 (W1.drew.alloc (.cells #[.int .u32 (id : Int), .string body, .bool false] 110)) from (by repeat (first | with_reducible exact Below.refl _ _ | with_reducible refine below_drewN ?_ _ | with_reducible refine Below.drew ?_ | with_reducible refine Below.alloc ?_ (by first | (simp; done) | (simp; omega)) _ | with_reducible refine Below.setCell ?_ (by first | (simp; done) | (simp; omega)) _))) c7
        clear hx2 h2 ht2
        go_region_law (first
          | (refine step_slab askTy 99 (by rfl) _ _ (by rfl) (.slice A s.held.length cap) s.held.length (heldV s.held) (by rfl) (Slab.below H2.out.sheld (by repeat (first | with_reducible exact Below.refl _ _ | with_reducible refine below_drewN ?_ _ | with_reducible refine Below.drew ?_ | with_reducible refine Below.alloc ?_ (by first | (simp; done) | (simp; omega)) _ | with_reducible refine Below.setCell ?_ (by first | (simp; done) | (simp; omega)) _))) (.slice (some ⟨W1.heap.size, 0, none⟩) 1 1) (by rfl) 1 (askV (id, body, false)) (Src.ofSlice _ askTy.slice _ 1 1 _ rfl (World.news_of_block (heap_alloc_new _ _)) (by simp [askV, Value.oneCell'])) (by unfold maxLen; omega) (by omega) ?_; intro vh2 W2 hs2 hu2; have hBq : SvAt _ R vi vo (.slice A s.held.length cap) { s with last := id } := H2.out.below (w' := W1.drew.alloc (.cells #[.int .u32 (id : Int), .string body, .bool false] 110)) (by repeat (first | with_reducible exact Below.refl _ _ | with_reducible refine below_drewN ?_ _ | with_reducible refine Below.drew ?_ | with_reducible refine Below.alloc ?_ (by first | (simp; done) | (simp; omega)) _ | with_reducible refine Below.setCell ?_ (by first | (simp; done) | (simp; omega)) _)); have hbq := (hu2.block hBq.lt hBq.nR.2.2).trans hBq.blk; have d7 : W2.cell? ⟨R, 7, none⟩ = some (.slice A s.held.length cap) := cell_of_row _ _ _ _ _ _ hbq; have e7 : W2.frozen? ⟨R, 7, none⟩ = false := frozen_of_row _ _ _ _ _ hbq; have hs2' : Slab W2 3 vh2 (s.held ++ [(id, body, false)]).length (heldV (s.held ++ [(id, body, false)])) := (by rw [List.length_append, heldV_append]; exact hs2); obtain ⟨hf1, hf2, hf3⟩ := hBq.held (s2 := { s with last := id, held := s.held ++ [(id, body, false)] }) hu2 hs2' rfl rfl rfl rfl rfl; have HFIN := Lib.hid (And.intro hf1 (And.intro (HT2.out.trans ((Turn.of_below (S := SvF R vi vo (.slice A s.held.length cap)) (show Below W1.heap.size W1 (W1.drew.alloc (.cells #[.int .u32 (id : Int), .string body, .bool false] 110)) from (by repeat (first | with_reducible exact Below.refl _ _ | with_reducible refine below_drewN ?_ _ | with_reducible refine Below.drew ?_ | with_reducible refine Below.alloc ?_ (by first | (simp; done) | (simp; omega)) _ | with_reducible refine Below.setCell ?_ (by first | (simp; done) | (simp; omega)) _)))).trans (hf2.weak (fun g hg => .inl hg)) |>.weak (fun g hg => .inl hg))) (fun g hg => (hf3 g hg).imp (fun e => e) (fun e => Nat.le_trans (Nat.le_trans HT2.out.size (show W1.heap.size ≤ (W1.drew.alloc (.cells #[.int .u32 (id : Int), .string body, .bool false] 110)).heap.size by simp)) e)))); obtain ⟨A2, cap2, hv2, _⟩ := Slab.form hs2; subst hv2; clear hs2 hu2 hBq hbq hs2' hf1 hf2 hf3))
        all_goals (
          go_wp2
          go_ret
          rw [HT.out]
          exact ⟨vi, vo, _, rfl, HFIN.out.1, HFIN.out.2.1, HFIN.out.2.2⟩)
  · by_cases hk5 : kind = 5
    · subst hk5
      have hT : s.take ⟨id, to, 5, body, sm⟩ = (({ s with bye := id, ending := true } : Sv).parts, 0) := by unfold Sv.take; rw [if_neg (by rw [hb]; decide), if_neg (by simp), if_pos rfl]
      have HT := Lib.hid hT
      have hRl := h.lt
      obtain ⟨⟨_, _, _, c3, _, _, _, _, _, c9, c10⟩, hf⟩ := h.cells
      have f3 := hf 3
      have f9 := hf 9
      have f10 := hf 10
      have hblk := heap_setCell_same _ R 3 _ _ (.bool true) (heap_setCell_same _ R 10 _ _ (.bool true) (heap_setCell_same _ R 9 _ _ (.int .u32 (id : Int)) h.blk))
      have ht := (((Turn.refl (fun g => g = R) w).set (g := R) (.inl rfl) 9 (.int .u32 (id : Int))).set (g := R) (.inl rfl) 10 (.bool true)).set (g := R) (.inl rfl) 3 (.bool true)
      have h1 := h.put (s2 := { s with bye := id, ending := true }) ht hblk (fun _ b => by cases b) rfl rfl
      have hbn : Below (((w.setCell ⟨R, 9, none⟩ (.int .u32 (id : Int))).setCell ⟨R, 10, none⟩ (.bool true)).setCell ⟨R, 3, none⟩ (.bool true)).heap.size (((w.setCell ⟨R, 9, none⟩ (.int .u32 (id : Int))).setCell ⟨R, 10, none⟩ (.bool true)).setCell ⟨R, 3, none⟩ (.bool true)) ((((w.setCell ⟨R, 9, none⟩ (.int .u32 (id : Int))).setCell ⟨R, 10, none⟩ (.bool true)).setCell ⟨R, 3, none⟩ (.bool true)).alloc (.cells #[.int .u32 (id : Int), .int .u32 (to : Int), .int .i64 5, .string body, .bool sm] 27)) := (Below.refl _ _).alloc (Nat.le_refl _) _
      have HL := Lib.hid (leaves_c R vi vo vh { s with bye := id, ending := true } hlen hid _ (h1.below hbn))
      have HTN := Lib.hid (ht.trans (Turn.of_below (S := fun g => g = R ∨ w.heap.size ≤ g) hbn))
      clear h hb hb0 hf HW hT hblk ht h1 hbn
      go_enter Tryd.func73, Tryd.ntmps73
      go_wp2_with fail
      refine HL.out.mono ?_; rintro e w2 ⟨vi', vo', vh', rfl, hsv, htn, hnw⟩
      have HSV := Lib.hid hsv
      have HT2 := Lib.hid (show Turn (SvF R vi vo vh) w w2 from (HTN.out.weak (fun g hg => .inl hg)).trans (htn.weak (fun g hg => .inl hg)))
      have HN2 := Lib.hid (show ∀ g, SvF R vi' vo' vh' g → SvF R vi vo vh g ∨ w.heap.size ≤ g from fun g hg => (hnw g hg).imp (fun e => e) (fun e => Nat.le_trans HTN.out.size e))
      clear hsv htn hnw c3 c9 c10 f3 f9 f10
      go_wp2
      go_ret
      rw [HT.out]
      exact ⟨vi', vo', vh', rfl, HSV.out, HT2.out, HN2.out⟩
    · have HT := Lib.hid (show s.take ⟨id, to, kind, body, sm⟩ = (s, 284) by unfold Sv.take; rw [if_neg (by rw [hb]; decide), if_neg hk3, if_neg hk5])
      have h3 : (kind == 3) = false := by rw [beq_eq_false_iff_ne]; exact hk3
      have h5 : (kind == 5) = false := by rw [beq_eq_false_iff_ne]; exact hk5
      have H0 := Lib.hid (h.below hb0)
      have HB0 := Lib.hid hb0
      clear h hb hb0 HW hk3 hk5
      go_enter Tryd.func73, Tryd.ntmps73
      go_wp2
      go_ret
      rw [HT.out]
      exact ⟨vi, vo, vh, rfl, H0.out, Turn.of_below HB0.out, fun g hg => .inl hg⟩
end Go.Proofs.YtkpickojeghppaaDoor
namespace Go.Proofs.YtkpickojeghppaaDoor
open Go.RowKit
set_option maxHeartbeats 2000000 in
theorem svOpen_c (R : Nat) (vi vo vh : Value) (s : Sv) (w : World) (h : SvAt w R vi vo vh s) :
    Calls Tryd.prog 32 #[.pointer (some ⟨R, 0, none⟩)] w fun e w' => e = .returned (.bool (!s.closed)) ∧ w' = w := by
  obtain ⟨⟨_, _, c2, _⟩, _⟩ := h.cells
  generalize s.closed = cl at *
  clear h
  go_enter Tryd.func32, Tryd.ntmps32
  go_wp2
  go_ret
  exact ⟨rfl, rfl⟩
set_option maxHeartbeats 2000000 in
theorem svWhy_c (R : Nat) (vi vo vh : Value) (s : Sv) (w : World) (h : SvAt w R vi vo vh s) :
    Calls Tryd.prog 33 #[.pointer (some ⟨R, 0, none⟩)] w fun e w' => e = .returned (.int .i64 (s.why : Int)) ∧ w' = w := by
  obtain ⟨⟨_, _, _, _, c4, _⟩, _⟩ := h.cells
  generalize s.why = y at *
  clear h
  go_enter Tryd.func33, Tryd.ntmps33
  go_wp2
  go_ret
  exact ⟨rfl, rfl⟩
/-- Out: what went out; it is the caller's -/
def OutPost (R : Nat) (vi vo vh : Value) (s : Sv) (w : World) (e : Ending) (w' : World) : Prop :=
  e = .returned vo ∧ SvAt w' R vi (.slice none 0 0) vh { s with out := [] } ∧ BSlab w' vo s.out ∧ Turn (fun g => g = R) w w'
set_option maxHeartbeats 2000000 in
theorem svOut_c (R : Nat) (vi vo vh : Value) (s : Sv) (w : World) (h : SvAt w R vi vo vh s) :
    Calls Tryd.prog 30 #[.pointer (some ⟨R, 0, none⟩)] w (OutPost R vi vo vh s w) := by
  have HT := Lib.hid (taken_c R (svCells R vi vo vh s) 101 vo w h.blk rfl)
  have H := Lib.hid h
  clear h
  go_enter Tryd.func30, Tryd.ntmps30
  go_wp2_with fail
  refine HT.out.mono ?_; rintro e w1 ⟨rfl, hb, ht⟩
  have HB := Lib.hid (And.intro hb ht)
  clear hb ht
  go_wp2
  go_ret
  obtain ⟨hb, ht⟩ := HB.out
  refine ⟨rfl, ⟨hb, fun a b => Slab.turn (H.out.sin a b) ht (fun g hg e => H.out.nR.1 (by rw [← e]; exact hg)), bslab_nil _, Slab.turn H.out.sheld ht (fun g hg e => H.out.nR.2.2 (by rw [← e]; exact hg)), ⟨H.out.nR.1, by simp [Value.ownBlock], H.out.nR.2.2⟩, (fun g hg => by cases hg), H.out.ap2, fun g hg => Nat.lt_of_lt_of_le (H.out.lti g hg) ht.size⟩, Slab.turn H.out.sout ht (fun g hg e => H.out.nR.2.1 (by rw [← e]; exact hg)), ht⟩
/-- the place of the first that was not told -/
def tellAt : List (Nat × ByteArray × Bool) → Option Nat
  | [] => none
  | (_, _, false) :: _ => some 0
  | (_, _, true) :: r => (tellAt r).map (· + 1)
def tellI (l : List (Nat × ByteArray × Bool)) : Int := match tellAt l with | none => -1 | some k => (k : Int)
set_option maxHeartbeats 2000000 in
theorem untold_c (i : Nat) (b : ByteArray) (t : Bool) (w : World) : Calls Tryd.prog 61 #[.agg #[.int .u32 (i : Int), .string b, .bool t]] w fun e w' => e = .returned (.bool (!t)) ∧ Below w.heap.size w w' := by
  go_enter Tryd.func61, Tryd.ntmps61
  go_wp2
  go_ret
  exact ⟨rfl, (Below.refl _ _).alloc (Nat.le_refl _) _⟩
theorem tellAt_drop (l : List (Nat × ByteArray × Bool)) (k : Nat) (h : k < l.length) (ht : (l[k]).2.2 = true) (h0 : tellAt l = (tellAt (l.drop k)).map (· + k)) : tellAt l = (tellAt (l.drop (k + 1))).map (· + (k + 1)) := by
  rw [h0, List.drop_eq_getElem_cons h]
  obtain ⟨i, b, t, hx⟩ : ∃ i b t, l[k] = (i, b, t) := ⟨_, _, _, rfl⟩
  rw [hx] at ht ⊢
  simp only at ht
  subst ht
  simp only [tellAt, Option.map_map]
  cases tellAt (l.drop (k + 1)) with
  | none => rfl
  | some j => simp; omega
theorem tellAt_here (l : List (Nat × ByteArray × Bool)) (k : Nat) (h : k < l.length) (ht : (l[k]).2.2 = false) (h0 : tellAt l = (tellAt (l.drop k)).map (· + k)) : tellAt l = some k := by
  rw [h0, List.drop_eq_getElem_cons h]
  obtain ⟨i, b, t, hx⟩ : ∃ i b t, l[k] = (i, b, t) := ⟨_, _, _, rfl⟩
  rw [hx] at ht ⊢
  simp only at ht
  subst ht
  simp [tellAt]
theorem heldV_get (l : List (Nat × ByteArray × Bool)) : ∀ (k : Nat) (h : k < l.length) (j : Nat), j < 3 → (heldV l)[k * 3 + j]? = (askV l[k])[j]? := by
  induction l with
  | nil => intro k h; simp at h
  | cons x r ih =>
    intro k h j hj
    have hx : (askV x).length = 3 := rfl
    cases k with
    | zero =>
      show (askV x ++ heldV r)[0 * 3 + j]? = _
      rw [List.getElem?_append_left (by omega)]
      simp
    | succ k =>
      show (askV x ++ heldV r)[(k + 1) * 3 + j]? = _
      rw [List.getElem?_append_right (by omega), hx]
      have := ih k (by simpa using h) j hj
      rw [show (k + 1) * 3 + j - 3 = k * 3 + j by omega, this]
      rfl
set_option maxRecDepth 20000 in
set_option maxHeartbeats 4000000 in
theorem index_c (v : Value) (l : List (Nat × ByteArray × Bool)) (hl : l.length ≤ 1000) (w : World) (h : Slab w 3 v l.length (heldV l)) :
    Calls Tryd.prog 60 #[v, .func (.func 61) #[] #[]] w fun e w' => e = .returned (.int .i64 (tellI l)) ∧ Below w.heap.size w w' := by
  obtain ⟨A, cap, rfl, hnc, hcm, hf⟩ := h.form
  have HF := Lib.hid hf
  clear h hf
  go_enter Tryd.func60, Tryd.ntmps60
  go_wp2
  go_loopw [5, 8] (fun _ i wr => ∃ (k : Nat), k ≤ l.length ∧ i = .int .i64 k ∧ Hid (tellAt l = (tellAt (l.drop k)).map (· + k)) ∧ Hid (Below w.heap.size w wr)) (fun _ i _ => l.length - (intOf i).toNat)
  case atStart => exact ⟨0, Nat.zero_le _, rfl, Lib.hid (by simp), Lib.hid (Below.refl _ _)⟩
  case round =>
    obtain ⟨k, hk, rfl, HK, HB⟩ := hrel
    by_cases hlt : k < l.length
    · obtain ⟨G, o, rfl, hr⟩ : ∃ G o, A = some ⟨G, o, none⟩ ∧ wr.rangeAt G o (heldV l) := by
        rcases HF.out with ⟨rfl, h0, _⟩ | ⟨G, o, rfl, _, _, hr, _⟩
        · omega
        · exact ⟨G, o, rfl, fun j u hj => cell_below HB.out (hr j u hj)⟩
      have c0 : wr.cell? ⟨G, o + k * 3, none⟩ = some (.int .u32 ((l[k]).1 : Int)) := hr (k * 3 + 0) _ (heldV_get l k hlt 0 (by omega))
      have c1 : wr.cell? ⟨G, o + k * 3 + 1, none⟩ = some (.string (l[k]).2.1) := hr (k * 3 + 1) _ (heldV_get l k hlt 1 (by omega))
      have c2 : wr.cell? ⟨G, o + k * 3 + 2, none⟩ = some (.bool (l[k]).2.2) := hr (k * 3 + 2) _ (heldV_get l k hlt 2 (by omega))
      have HD := Lib.hid (fun ht => tellAt_drop l k hlt ht HK.out)
      have HH := Lib.hid (fun ht => tellAt_here l k hlt ht HK.out)
      clear hr HK
      generalize l[k] = x at *
      obtain ⟨i, b, t⟩ := x
      simp only at c0 c1 c2
      have hcall := untold_c i b t wr
      have HBw := HB
      go_wp2_with fail
      clear c0 c1 c2
      refine hcall.mono ?_; rintro e w2 ⟨rfl, hb2⟩
      have HB2 := Lib.hid (HBw.out.trans (hb2.mono HBw.out.size))
      clear hb2 hcall
      cases t with
      | true =>
        have HK2 := Lib.hid (HD.out rfl)
        clear HD HH
        go_wp2
        go_roundw
        case rel => exact ⟨k + 1, by omega, by go_num, HK2, HB2⟩
        case measure => simp [intOf]; omega
      | false =>
        have HK2 := Lib.hid (HH.out rfl)
        clear HD HH
        go_wp2
        go_ret
        exact ⟨by unfold tellI; rw [HK2.out]; rfl, HB2.out⟩
    · obtain rfl : k = l.length := by omega
      have HK2 := Lib.hid (show tellAt l = none by rw [HK.out, List.drop_length]; rfl)
      clear HK
      go_wp2
      go_ret
      exact ⟨by unfold tellI; rw [HK2.out]; rfl, HB.out⟩
end Go.Proofs.YtkpickojeghppaaDoor
namespace Go.Proofs.YtkpickojeghppaaDoor
open Go.RowKit
/-- one cell of a slab is written -/
theorem Slab.put {w : World} {size n cap G o : Nat} {xs : List Value} (h : Slab w size (.slice (some ⟨G, o, none⟩) n cap) n xs) (j : Nat) (hj : j < xs.length) (u : Value) :
    Slab (w.setCell ⟨G, o + j, none⟩ u) size (.slice (some ⟨G, o, none⟩) n cap) n (xs.set j u) := by
  have hl := h.1
  rcases h.2 with ⟨h0, _⟩ | ⟨g, off, c, he, h1, h2, h3, h4, h5⟩
  · cases h0
  · injection he with e1 e2 e3
    injection e1 with e1
    injection e1 with e1 e4
    subst e1; subst e4; subst e3
    have hn : n * size ≤ cap * size := Nat.mul_le_mul_right _ h1
    refine ⟨by rw [List.length_set]; exact hl, .inr ⟨G, o, cap, rfl, h1, h2, by simpa using h3, fun i v hi => ?_, fun i hi => ?_⟩⟩
    · by_cases hij : j = i
      · subst hij
        rw [List.getElem?_set_self hj] at hi
        cases hi
        obtain ⟨x, hx⟩ := Option.isSome_iff_exists.1 (h5 j (by omega)).1
        exact setS hx
      · rw [List.getElem?_set_ne hij] at hi
        rw [setO (fun e => hij (by injection e with _ e; omega))]
        exact h4 i v hi
    · rw [setF]
      by_cases hij : j = i
      · subst hij
        obtain ⟨x, hx⟩ := Option.isSome_iff_exists.1 (h5 j hi).1
        exact ⟨by rw [setS hx]; rfl, (h5 j hi).2⟩
      · rw [setO (fun e => hij (by injection e with _ e; omega))]
        exact h5 i hi
theorem heldV_len (l : List (Nat × ByteArray × Bool)) : (heldV l).length = l.length * 3 := by
  induction l with
  | nil => rfl
  | cons x r ih => show (askV x ++ heldV r).length = _; rw [List.length_append, ih, List.length_cons]; show 3 + _ = _; omega
/-- told -/
def told (l : List (Nat × ByteArray × Bool)) (k : Nat) : List (Nat × ByteArray × Bool) := l.modify k (fun x => (x.1, x.2.1, true))
theorem told_len (l : List (Nat × ByteArray × Bool)) (k : Nat) : (told l k).length = l.length := by simp [told]
theorem heldV_told (l : List (Nat × ByteArray × Bool)) : ∀ (k : Nat), k < l.length → heldV (told l k) = (heldV l).set (k * 3 + 2) (.bool true) := by
  induction l with
  | nil => intro k h; simp at h
  | cons x r ih =>
    intro k h
    obtain ⟨i, b, t⟩ := x
    cases k with
    | zero => rfl
    | succ k =>
      have := ih k (by simpa using h)
      show askV (i, b, t) ++ heldV (told r k) = (askV (i, b, t) ++ heldV r).set _ _
      rw [this, List.set_append_right _ _ (by show 3 ≤ _; omega)]
      congr 1
      show _ = (heldV r).set ((k + 1) * 3 + 2 - 3) _
      congr 1
      omega
def Sv.next (s : Sv) : Sv := match tellAt s.held with | none => s | some k => { s with held := told s.held k }
def Sv.nextV (s : Sv) : Value := match tellAt s.held with | none => .tuple #[.int .u32 0, .string ⟨#[]⟩, .bool false] | some k => .tuple #[.int .u32 ((s.held.getD k (0, ⟨#[]⟩, false)).1 : Int), .string (s.held.getD k (0, ⟨#[]⟩, false)).2.1, .bool true]
theorem tellAt_lt : ∀ (l : List (Nat × ByteArray × Bool)) (k : Nat), tellAt l = some k → k < l.length
  | [], k, h => by cases h
  | (i, b, false) :: r, k, h => by simp only [tellAt, Option.some.injEq] at h; subst h; simp
  | (i, b, true) :: r, k, h => by
    simp only [tellAt, Option.map_eq_some_iff] at h
    obtain ⟨j, hj, rfl⟩ := h
    have := tellAt_lt r j hj
    simp; omega
/-- an ask has been told -/
theorem SvAt.tell {w : World} {R G o cap k : Nat} {vi vo : Value} {s : Sv} (h : SvAt w R vi vo (.slice (some ⟨G, o, none⟩) s.held.length cap) s) (hk : k < s.held.length) (hGR : G ≠ R) :
    SvAt (w.setCell ⟨G, o + k * 3 + 2, none⟩ (.bool true)) R vi vo (.slice (some ⟨G, o, none⟩) s.held.length cap) { s with held := told s.held k } := by
  have ht : Turn (fun g => g = G) w (w.setCell ⟨G, o + k * 3 + 2, none⟩ (.bool true)) := (Turn.refl (fun g => g = G) w).set (g := G) (.inl rfl) _ _
  have hp := Slab.put h.sheld (k * 3 + 2) (by rw [heldV_len]; omega) (.bool true)
  rw [← Nat.add_assoc] at hp
  refine ⟨(heap_setCell_other _ _ _ _ (fun e => hGR e.symm)).trans h.blk, fun a b => Slab.turn (h.sin a b) ht (fun g hg e => h.ap2 G rfl (by rw [← e]; exact hg)), Slab.turn h.sout ht (fun g hg e => (h.ap g hg).1 (by rw [e]; rfl)), ?_, h.nR, h.ap, h.ap2, fun g hg => Nat.lt_of_lt_of_le (h.lti g hg) ht.size⟩
  show Slab _ 3 _ (told s.held k).length (heldV (told s.held k))
  rw [told_len, heldV_told s.held k hk]
  exact hp
set_option maxRecDepth 20000 in
set_option maxHeartbeats 4000000 in
theorem next_c (R : Nat) (vi vo vh : Value) (s : Sv) (hl : s.held.length ≤ 1000) (w : World) (h : SvAt w R vi vo vh s) :
    Calls Tryd.prog 26 #[.pointer (some ⟨R, 0, none⟩)] w (SvPost R vi vo vh w s.next s.nextV) := by
  have c7 := h.cells.1.2.2.2.2.2.2.2.1
  have HI := Lib.hid (index_c vh s.held hl w h.sheld)
  obtain ⟨A, cap, hvh, hnc, hcm, hform⟩ := h.sheld.form
  subst hvh
  have H := Lib.hid h
  have HF := Lib.hid hform
  clear h hform
  cases ht : tellAt s.held with
  | none =>
    have HN := Lib.hid (show s.next = s ∧ s.nextV = .tuple #[.int .u32 0, .string ⟨#[]⟩, .bool false] by unfold Sv.next Sv.nextV; rw [ht]; exact ⟨rfl, rfl⟩)
    have HT := Lib.hid (show tellI s.held = -1 by unfold tellI; rw [ht])
    clear ht
    go_enter Tryd.func26, Tryd.ntmps26
    go_wp2_with fail
    refine HI.out.mono ?_; rintro e w2 ⟨he, hb2⟩
    rw [HT.out] at he
    subst he
    have H2 := Lib.hid (And.intro (H.out.below hb2) hb2)
    clear hb2 c7
    go_wp2
    refine bodyPost_ret (results_tmp3 rfl _ _ _) rfl ?_
    rw [HN.out.1, HN.out.2]
    exact ⟨vi, vo, _, rfl, H2.out.1, Turn.of_below H2.out.2, fun g hg => .inl hg⟩
  | some k =>
    have hk := tellAt_lt s.held k ht
    have HN := Lib.hid (show s.next = { s with held := told s.held k } ∧ s.nextV = .tuple #[.int .u32 ((s.held[k]).1 : Int), .string (s.held[k]).2.1, .bool true] by unfold Sv.next Sv.nextV; rw [ht]; simp [hk])
    have HT := Lib.hid (show tellI s.held = (k : Int) by unfold tellI; rw [ht])
    obtain ⟨G, o, rfl, _, _, hr, hth⟩ : ∃ G o, A = some ⟨G, o, none⟩ ∧ (Value.slice A s.held.length cap).ownBlock = some G ∧ G < w.heap.size ∧ w.rangeAt G o (heldV s.held) ∧ w.there G o (cap * 3) := by
      rcases HF.out with ⟨_, h0, _⟩ | h
      · omega
      · exact h
    have hGR : G ≠ R := fun e => H.out.nR.2.2 (by simp [Value.ownBlock, e])
    have d0 : w.cell? ⟨G, o + k * 3, none⟩ = some (.int .u32 ((s.held[k]).1 : Int)) := hr (k * 3 + 0) _ (heldV_get s.held k hk 0 (by omega))
    have d1 : w.cell? ⟨G, o + k * 3 + 1, none⟩ = some (.string (s.held[k]).2.1) := hr (k * 3 + 1) _ (heldV_get s.held k hk 1 (by omega))
    have d2 : w.cell? ⟨G, o + k * 3 + 2, none⟩ = some (.bool (s.held[k]).2.2) := hr (k * 3 + 2) _ (heldV_get s.held k hk 2 (by omega))
    have d3 : w.frozen? ⟨G, o + k * 3 + 2, none⟩ = false := (hth (k * 3 + 2) (by omega)).2
    have HK := Lib.hid hk
    have HL := Lib.hid (heldV_told s.held k hk)
    clear ht hr hth
    generalize (s.held[k]).1 = xi at *
    generalize (s.held[k]).2.1 = xb at *
    generalize (s.held[k]).2.2 = xt at *
    go_enter Tryd.func26, Tryd.ntmps26
    go_wp2_with fail
    refine HI.out.mono ?_; rintro e w2 ⟨he, hb2⟩
    rw [HT.out] at he
    subst he
    have H2 := Lib.hid (And.intro (H.out.below hb2) hb2)
    have c7' := cell_below hb2 c7
    have e0 := cell_below hb2 d0
    have e1 := cell_below hb2 d1
    have e2 := cell_below hb2 d2
    have e3 := (hb2.frozen (p := ⟨G, o + k * 3 + 2, none⟩) (cell_lt d2)).trans d3
    clear hb2 c7 d0 d1 d2 d3
    go_wp2
    go_quiet (fail)
    go_wp2
    refine bodyPost_ret (results_tmp3 rfl _ _ _) rfl ?_
    rw [HN.out.1, HN.out.2]
    have h3 := H2.out.1.tell HK.out hGR
    exact ⟨vi, vo, _, rfl, h3.below (below_drewN' _ nq), ((Turn.of_below (S := SvF R vi vo (.slice (some ⟨G, o, none⟩) s.held.length cap)) H2.out.2).set (.inl (.inr (.inr (.inr rfl)))) _ _).trans (Turn.of_below (below_drewN' _ nq)), fun g hg => .inl hg⟩
end Go.Proofs.YtkpickojeghppaaDoor
