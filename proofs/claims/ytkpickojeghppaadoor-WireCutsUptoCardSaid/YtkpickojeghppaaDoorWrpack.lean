/- The walk of the document's Pack; what both Packs answer. Conditions: none. -/
import Derived.Test.YtkpickojeghppaaDoorWpack
namespace Go.Proofs.YtkpickojeghppaaDoor
open Go.RowKit
theorem pack_c (m : WMsg) (hm : MsgOk m) (w : World) : Calls Tryd.prog 13 #[.agg (msgV m).toArray] w (PackPost m w) := by
  obtain ⟨id, to, kind, body, sum⟩ := m
  obtain ⟨h1, h2, h3, h4, h5⟩ := hm
  simp only at h1 h2 h3 h4 h5
  show Calls Tryd.prog 13 #[.agg #[.int .u32 (id : Int), .int .u32 (to : Int), .int .i64 kind, .string body, .bool sum]] w (PackPost ⟨id, to, kind, body, sum⟩ w)
  by_cases hk : kind < 1 ∨ 6 < kind
  · exact pack_kind id to kind body sum hk w
  · obtain ⟨k, rfl⟩ : ∃ k : Nat, kind = (k : Int) := ⟨kind.toNat, by omega⟩
    cases sum with
    | false => exact pack_false id to k h1 h2 (by omega) (by omega) body h5 w
    | true => exact pack_true id to k h1 h2 (by omega) (by omega) body h5 w
/-- while a message is laid down: the box, what has been laid -/
structure PkAt (w : World) (bx : Obj) (w1 : World) (v : Value) (L : List UInt8) : Prop where
  below : Below w.heap.size w w1
  blk : w1.heap[w.heap.size]? = some bx
  slab : BSlab w1 v L
  own : ∀ g, v.ownBlock = some g → w.heap.size < g
theorem PkAt.step {w : World} {bx : Obj} {w1 w2 : World} {v v' : Value} {L L' : List UInt8} (h : PkAt w bx w1 v L) (hs : BSlab w2 v' L') (hu : Upd w1 w2 v.ownBlock v'.ownBlock) : PkAt w bx w2 v' L' := by
  have hlt : w.heap.size < w1.heap.size := by
    rcases Nat.lt_or_ge w.heap.size w1.heap.size with h' | h'
    · exact h'
    · have := h.blk; rw [Array.getElem?_eq_none h'] at this; cases this
  refine ⟨h.below.trans (hu.below h.below.size (fun g hg => by have := h.own g hg; omega)), (hu.block hlt (fun e => by have := h.own _ e; omega)).trans h.blk, hs, fun g hg => ?_⟩
  rcases hu.own with e | ⟨q, e, hq⟩
  · rw [e] at hg; exact h.own g hg
  · rw [e] at hg; have := Option.some.inj hg; omega
theorem PkAt.same {w : World} {bx : Obj} {w1 : World} {v : Value} {L : List UInt8} (h : PkAt w bx w1 v L) {w2 : World} (hb : Below w1.heap.size w1 w2) : PkAt w bx w2 v L := by
  have hlt : w.heap.size < w1.heap.size := by
    rcases Nat.lt_or_ge w.heap.size w1.heap.size with h' | h'
    · exact h'
    · have := h.blk; rw [Array.getElem?_eq_none h'] at this; cases this
  exact ⟨below_trans h.below (hb.mono (by exact Nat.le_refl _)), (hb.block _ hlt).trans h.blk, Slab.below h.slab hb, h.own⟩
set_option maxHeartbeats 1000000 in
theorem refLong_c (id to kind : Value) (body : ByteArray) (sum : Bool) (hb : body.size ≤ 9223372036854770000) (w : World) : Calls Tryd.prog 49 #[.agg #[id, to, kind, .string body, .bool sum]] w fun e w' => e = .returned (.int .i64 (((if sum then 28 else 24) + body.size : Nat) : Int)) ∧ Below w.heap.size w w' := by
  cases sum with
  | false =>
    go_enter Tryd.func49, Tryd.ntmps49
    go_wp2
    go_ret
    exact ⟨rfl, (Below.refl _ _).alloc (Nat.le_refl _) _⟩
  | true =>
    go_enter Tryd.func49, Tryd.ntmps49
    go_wp2
    go_ret
    exact ⟨rfl, (Below.refl _ _).alloc (Nat.le_refl _) _⟩
set_option maxRecDepth 20000 in
set_option maxHeartbeats 4000000 in
theorem refPack_kind (id to : Nat) (kind : Int) (body : ByteArray) (sum : Bool) (hk : kind < 1 ∨ 6 < kind) (w : World) : Calls Tryd.prog 14 #[.agg #[.int .u32 (id : Int), .int .u32 (to : Int), .int .i64 kind, .string body, .bool sum]] w (PackPost ⟨id, to, kind, body, sum⟩ w) := by
  have HP := Lib.hid (show packE ⟨id, to, kind, body, sum⟩ = 281 ∧ packL ⟨id, to, kind, body, sum⟩ = [] by
    have : packE ⟨id, to, kind, body, sum⟩ = 281 := if_pos hk
    exact ⟨this, by unfold packL; rw [this]; rfl⟩)
  have HB := Lib.hid ((Below.refl w.heap.size w).alloc (Nat.le_refl _) (.cells #[.int .u32 (id : Int), .int .u32 (to : Int), .int .i64 kind, .string body, .bool sum] 27))
  have fin : ∀ (w' : World), w' = (w.alloc (.cells #[.int .u32 (id : Int), .int .u32 (to : Int), .int .i64 kind, .string body, .bool sum] 27)) → PackPost ⟨id, to, kind, body, sum⟩ w (.returned (.tuple #[.slice none 0 0, .int .i64 281])) w' := by
    rintro w' rfl
    exact ⟨_, by rw [HP.out.1]; rfl, by rw [HP.out.2]; exact bslab_nil _, HB.out, fun g hg => by cases hg⟩
  have FIN := Lib.hid fin
  clear fin
  rcases hk with hk | hk
  · go_enter Tryd.func14, Tryd.ntmps14
    go_wp2
    go_ret2
    exact FIN.out _ rfl
  · have hk' : ¬ kind < 1 := by omega
    go_enter Tryd.func14, Tryd.ntmps14
    go_wp2
    go_ret2
    exact FIN.out _ rfl
set_option maxRecDepth 20000 in
set_option maxHeartbeats 8000000 in
theorem refPack_false (id to k : Nat) (h1 : id < 4294967296) (h2 : to < 4294967296) (hk0 : 1 ≤ k) (hk6 : k ≤ 6) (body : ByteArray) (hb : body.size ≤ 9223372036854770000) (w : World) : Calls Tryd.prog 14 #[.agg #[.int .u32 (id : Int), .int .u32 (to : Int), .int .i64 (k : Int), .string body, .bool false]] w (PackPost ⟨id, to, k, body, false⟩ w) := by
  have hk1 : ¬ (k : Int) < 1 := by omega
  have hk2 : ¬ 6 < (k : Int) := by omega
  have hsz : WMsg.size ⟨id, to, (k : Int), body, false⟩ = 24 + body.size := by unfold WMsg.size; simp <;> omega
  have hbx : Below w.heap.size w (w.alloc (.cells #[.int .u32 (id : Int), .int .u32 (to : Int), .int .i64 (k : Int), .string body, .bool false] 27)) := (Below.refl w.heap.size w).alloc (Nat.le_refl _) (.cells #[.int .u32 (id : Int), .int .u32 (to : Int), .int .i64 (k : Int), .string body, .bool false] 27)
  have hblk := heap_alloc_new w (.cells #[.int .u32 (id : Int), .int .u32 (to : Int), .int .i64 (k : Int), .string body, .bool false] 27)
  have HB := Lib.hid (And.intro hbx hblk)
  obtain ⟨⟨b0, b1, b2, b3, b4⟩, _⟩ := cellsOf5 hblk
  clear hbx hblk
  have hlong := refLong_c (.int .u32 (id : Int)) (.int .u32 (to : Int)) (.int .i64 (k : Int)) body false hb (w.alloc (.cells #[.int .u32 (id : Int), .int .u32 (to : Int), .int .i64 (k : Int), .string body, .bool false] 27))
  simp only [Bool.false_eq_true, if_false] at hlong
  by_cases hbig : 131072 < 24 + body.size
  · have HP := Lib.hid (show packE ⟨id, to, (k : Int), body, false⟩ = 1 ∧ packL ⟨id, to, (k : Int), body, false⟩ = [] by
      have : packE ⟨id, to, (k : Int), body, false⟩ = 1 := by unfold packE; rw [if_neg (by simp only; omega), if_pos (by rw [hsz]; exact hbig)]
      exact ⟨this, by unfold packL; rw [this]; rfl⟩)
    obtain ⟨z, hz⟩ : ∃ z, 24 + body.size = z := ⟨_, rfl⟩
    rw [hz] at hlong hbig
    have hbI : (131072 : Int) < (z : Int) := by omega
    clear hsz hz
    go_enter Tryd.func14, Tryd.ntmps14
    go_wp2_with fail
    refine hlong.mono ?_; rintro e w1 ⟨rfl, hb1⟩
    have HB1 := Lib.hid hb1
    clear hb1 hlong
    go_wp2
    go_ret2
    exact ⟨_, by rw [HP.out.1]; rfl, by rw [HP.out.2]; exact bslab_nil _, below_trans HB.out.1 HB1.out, fun g hg => by cases hg⟩
  · have HE := Lib.hid (show packE ⟨id, to, (k : Int), body, false⟩ = 0 by unfold packE; rw [if_neg (by simp only; omega), if_neg (by rw [hsz]; exact hbig)])
    have hlt : body.size ≤ 131072 := by omega
    obtain ⟨z, hz⟩ : ∃ z, 24 + body.size = z := ⟨_, rfl⟩
    rw [hz] at hlong hbig hsz
    have HEQ := Lib.hid (show packA ⟨id, to, (k : Int), body, false⟩ = ((((((magicL ++ four z) ++ four id) ++ four to) ++ four k) ++ four 0) ++ body.data.toList) by rw [packA_eq, hsz]; simp [fours])
    have hbI : ¬ (131072 : Int) < (z : Int) := by omega
    have hz4 : z < 4294967296 := by omega
    clear hsz hz
    go_enter Tryd.func14, Tryd.ntmps14
    go_wp2_with fail
    refine hlong.mono ?_; rintro e w1 ⟨rfl, hb1⟩
    have kc := conv_magic w1 w1.heap.size rfl
    have hp1 : PkAt w (.cells #[.int .u32 (id : Int), .int .u32 (to : Int), .int .i64 (k : Int), .string body, .bool false] 27) (w1.alloc magicB) (.slice (some ⟨w1.heap.size, 0, none⟩) 4 4) magicL :=
      ⟨below_trans (below_trans HB.out.1 hb1) ((Below.refl _ _).alloc (Nat.le_refl _) _), by rw [heap_alloc_old _ _ (Nat.lt_of_lt_of_le (by simp) hb1.size)]; exact (hb1.block _ (by simp)).trans HB.out.2, magic_slab w1, fun g hg => by have := hb1.size; simp [Value.ownBlock] at hg this; omega⟩
    have HP1 := Lib.hid hp1
    obtain ⟨⟨d0, d1, d2, d3, d4⟩, _⟩ := cellsOf5 ((hb1.block w.heap.size (by simp)).trans HB.out.2)
    have hml : magicL.length = 4 := rfl
    obtain ⟨L1, hL1⟩ : ∃ L, magicL = L := ⟨_, rfl⟩
    rw [hL1] at HP1 HEQ hml
    clear hb1 hlong hp1 b0 b1 b2 b3 b4 HB hL1
    obtain ⟨⟨b0, b1, b2, b3, b4⟩, _⟩ := cellsOf5 HP1.out.blk
    have hcall := refFour_c _ L1 z hz4 (by omega) _ HP1.out.slab
    go_wp2_with fail
    refine hcall.mono ?_; rintro e w2 ⟨v2, rfl, hs, hu⟩
    have HP2 := Lib.hid (HP1.out.step hs hu)
    clear hs hu hcall b0 b1 b2 b3 b4 d0 d1 d2 d3 d4 HP1 kc
    have hml2 : (L1 ++ four z).length = 8 := by rw [List.length_append, four_len, hml]
    obtain ⟨L2, hL2⟩ : ∃ L, L1 ++ four z = L := ⟨_, rfl⟩
    rw [hL2] at HP2 HEQ hml2
    clear hL2 hml
    obtain ⟨⟨b0, b1, b2, b3, b4⟩, _⟩ := cellsOf5 HP2.out.blk
    have hcall := refFour_c _ L2 id h1 (by omega) _ HP2.out.slab
    go_wp2_with fail
    refine hcall.mono ?_; rintro e w3 ⟨v3, rfl, hs, hu⟩
    have HP3 := Lib.hid (HP2.out.step hs hu)
    clear hs hu hcall b0 b1 b2 b3 b4 HP2
    have hml3 : (L2 ++ four id).length = 12 := by rw [List.length_append, four_len, hml2]
    obtain ⟨L3, hL3⟩ : ∃ L, L2 ++ four id = L := ⟨_, rfl⟩
    rw [hL3] at HP3 HEQ hml3
    clear hL3 hml2
    obtain ⟨⟨b0, b1, b2, b3, b4⟩, _⟩ := cellsOf5 HP3.out.blk
    have hcall := refFour_c _ L3 to h2 (by omega) _ HP3.out.slab
    go_wp2_with fail
    refine hcall.mono ?_; rintro e w4 ⟨v4, rfl, hs, hu⟩
    have HP4 := Lib.hid (HP3.out.step hs hu)
    clear hs hu hcall b0 b1 b2 b3 b4 HP3
    have hml4 : (L3 ++ four to).length = 16 := by rw [List.length_append, four_len, hml3]
    obtain ⟨L4, hL4⟩ : ∃ L, L3 ++ four to = L := ⟨_, rfl⟩
    rw [hL4] at HP4 HEQ hml4
    clear hL4 hml3
    obtain ⟨⟨b0, b1, b2, b3, b4⟩, _⟩ := cellsOf5 HP4.out.blk
    have hcall := refFour_c _ L4 k (by omega) (by omega) _ HP4.out.slab
    go_wp2_with fail
    refine hcall.mono ?_; rintro e w5 ⟨v5, rfl, hs, hu⟩
    have HP5 := Lib.hid (HP4.out.step hs hu)
    clear hs hu hcall b0 b1 b2 b3 b4 HP4
    have hml5 : (L4 ++ four k).length = 20 := by rw [List.length_append, four_len, hml4]
    obtain ⟨L5, hL5⟩ : ∃ L, L4 ++ four k = L := ⟨_, rfl⟩
    rw [hL5] at HP5 HEQ hml5
    clear hL5 hml4
    obtain ⟨⟨b0, b1, b2, b3, b4⟩, _⟩ := cellsOf5 HP5.out.blk
    have hcall := refFour_c _ L5 0 (by omega) (by omega) _ HP5.out.slab
    go_wp2_with fail
    refine hcall.mono ?_; rintro e w6 ⟨v6, rfl, hs, hu⟩
    have HP6 := Lib.hid (HP5.out.step hs hu)
    clear hs hu hcall b0 b1 b2 b3 b4 HP5
    have hml6 : (L5 ++ four 0).length = 24 := by rw [List.length_append, four_len, hml5]
    obtain ⟨L, hL⟩ : ∃ L, L5 ++ four 0 = L := ⟨_, rfl⟩
    rw [hL] at HP6 HEQ hml6
    clear hL hml5
    obtain ⟨⟨b0, b1, b2, b3, b4⟩, _⟩ := cellsOf5 HP6.out.blk
    go_wp2_with (at_builtin; refine wpList_slab bytTy 9 (by rfl) _ _ (by rfl) v6 L.length (bytesV L) (by rfl) HP6.out.slab (.string body) (by rfl) body.size (byteCells body) (Src.ofString w6 Tryd.underlying9 body) (by unfold maxLen; omega) (by omega) ?_; intro v7 w7 hs7 hu7; have HP7 := Lib.hid (HP6.out.step (v' := v7) (L' := L ++ body.data.toList) (show BSlab w7 v7 (L ++ body.data.toList) by unfold BSlab; rw [bytesV_append, List.length_append]; exact hs7) hu7); clear hs7 hu7 b0 b1 b2 b3 b4; obtain ⟨⟨b0, b1, b2, b3, b4⟩, _⟩ := cellsOf5 HP7.out.blk)
    go_ret2
    exact ⟨v7, by rw [HE.out]; rfl, by rw [show packL ⟨id, to, (k : Int), body, false⟩ = packA ⟨id, to, (k : Int), body, false⟩ by unfold packL; rw [if_pos HE.out]; rfl, HEQ.out]; exact HP7.out.slab, HP7.out.below, fun g hg => Nat.le_of_lt (HP7.out.own g hg)⟩
set_option maxRecDepth 20000 in
set_option maxHeartbeats 8000000 in
theorem refPack_true (id to k : Nat) (h1 : id < 4294967296) (h2 : to < 4294967296) (hk0 : 1 ≤ k) (hk6 : k ≤ 6) (body : ByteArray) (hb : body.size ≤ 9223372036854770000) (w : World) : Calls Tryd.prog 14 #[.agg #[.int .u32 (id : Int), .int .u32 (to : Int), .int .i64 (k : Int), .string body, .bool true]] w (PackPost ⟨id, to, k, body, true⟩ w) := by
  have hk1 : ¬ (k : Int) < 1 := by omega
  have hk2 : ¬ 6 < (k : Int) := by omega
  have hsz : WMsg.size ⟨id, to, (k : Int), body, true⟩ = 28 + body.size := by unfold WMsg.size; simp <;> omega
  have hbx : Below w.heap.size w (w.alloc (.cells #[.int .u32 (id : Int), .int .u32 (to : Int), .int .i64 (k : Int), .string body, .bool true] 27)) := (Below.refl w.heap.size w).alloc (Nat.le_refl _) (.cells #[.int .u32 (id : Int), .int .u32 (to : Int), .int .i64 (k : Int), .string body, .bool true] 27)
  have hblk := heap_alloc_new w (.cells #[.int .u32 (id : Int), .int .u32 (to : Int), .int .i64 (k : Int), .string body, .bool true] 27)
  have HB := Lib.hid (And.intro hbx hblk)
  obtain ⟨⟨b0, b1, b2, b3, b4⟩, _⟩ := cellsOf5 hblk
  clear hbx hblk
  have hlong := refLong_c (.int .u32 (id : Int)) (.int .u32 (to : Int)) (.int .i64 (k : Int)) body true hb (w.alloc (.cells #[.int .u32 (id : Int), .int .u32 (to : Int), .int .i64 (k : Int), .string body, .bool true] 27))
  simp only [if_true] at hlong
  by_cases hbig : 131072 < 28 + body.size
  · have HP := Lib.hid (show packE ⟨id, to, (k : Int), body, true⟩ = 1 ∧ packL ⟨id, to, (k : Int), body, true⟩ = [] by
      have : packE ⟨id, to, (k : Int), body, true⟩ = 1 := by unfold packE; rw [if_neg (by simp only; omega), if_pos (by rw [hsz]; exact hbig)]
      exact ⟨this, by unfold packL; rw [this]; rfl⟩)
    obtain ⟨z, hz⟩ : ∃ z, 28 + body.size = z := ⟨_, rfl⟩
    rw [hz] at hlong hbig
    have hbI : (131072 : Int) < (z : Int) := by omega
    clear hsz hz
    go_enter Tryd.func14, Tryd.ntmps14
    go_wp2_with fail
    refine hlong.mono ?_; rintro e w1 ⟨rfl, hb1⟩
    have HB1 := Lib.hid hb1
    clear hb1 hlong
    go_wp2
    go_ret2
    exact ⟨_, by rw [HP.out.1]; rfl, by rw [HP.out.2]; exact bslab_nil _, below_trans HB.out.1 HB1.out, fun g hg => by cases hg⟩
  · have HE := Lib.hid (show packE ⟨id, to, (k : Int), body, true⟩ = 0 by unfold packE; rw [if_neg (by simp only; omega), if_neg (by rw [hsz]; exact hbig)])
    have hlt : body.size ≤ 131072 := by omega
    obtain ⟨z, hz⟩ : ∃ z, 28 + body.size = z := ⟨_, rfl⟩
    rw [hz] at hlong hbig hsz
    have HEQ := Lib.hid (show packA ⟨id, to, (k : Int), body, true⟩ = ((((((magicL ++ four z) ++ four id) ++ four to) ++ four k) ++ four 1) ++ body.data.toList) by rw [packA_eq, hsz]; simp [fours])
    have hbI : ¬ (131072 : Int) < (z : Int) := by omega
    have hz4 : z < 4294967296 := by omega
    clear hsz hz
    go_enter Tryd.func14, Tryd.ntmps14
    go_wp2_with fail
    refine hlong.mono ?_; rintro e w1 ⟨rfl, hb1⟩
    have kc := conv_magic w1 w1.heap.size rfl
    have hp1 : PkAt w (.cells #[.int .u32 (id : Int), .int .u32 (to : Int), .int .i64 (k : Int), .string body, .bool true] 27) (w1.alloc magicB) (.slice (some ⟨w1.heap.size, 0, none⟩) 4 4) magicL :=
      ⟨below_trans (below_trans HB.out.1 hb1) ((Below.refl _ _).alloc (Nat.le_refl _) _), by rw [heap_alloc_old _ _ (Nat.lt_of_lt_of_le (by simp) hb1.size)]; exact (hb1.block _ (by simp)).trans HB.out.2, magic_slab w1, fun g hg => by have := hb1.size; simp [Value.ownBlock] at hg this; omega⟩
    have HP1 := Lib.hid hp1
    obtain ⟨⟨d0, d1, d2, d3, d4⟩, _⟩ := cellsOf5 ((hb1.block w.heap.size (by simp)).trans HB.out.2)
    have hml : magicL.length = 4 := rfl
    obtain ⟨L1, hL1⟩ : ∃ L, magicL = L := ⟨_, rfl⟩
    rw [hL1] at HP1 HEQ hml
    clear hb1 hlong hp1 b0 b1 b2 b3 b4 HB hL1
    obtain ⟨⟨b0, b1, b2, b3, b4⟩, _⟩ := cellsOf5 HP1.out.blk
    have hcall := refFour_c _ L1 z hz4 (by omega) _ HP1.out.slab
    go_wp2_with fail
    refine hcall.mono ?_; rintro e w2 ⟨v2, rfl, hs, hu⟩
    have HP2 := Lib.hid (HP1.out.step hs hu)
    clear hs hu hcall b0 b1 b2 b3 b4 d0 d1 d2 d3 d4 HP1 kc
    have hml2 : (L1 ++ four z).length = 8 := by rw [List.length_append, four_len, hml]
    obtain ⟨L2, hL2⟩ : ∃ L, L1 ++ four z = L := ⟨_, rfl⟩
    rw [hL2] at HP2 HEQ hml2
    clear hL2 hml
    obtain ⟨⟨b0, b1, b2, b3, b4⟩, _⟩ := cellsOf5 HP2.out.blk
    have hcall := refFour_c _ L2 id h1 (by omega) _ HP2.out.slab
    go_wp2_with fail
    refine hcall.mono ?_; rintro e w3 ⟨v3, rfl, hs, hu⟩
    have HP3 := Lib.hid (HP2.out.step hs hu)
    clear hs hu hcall b0 b1 b2 b3 b4 HP2
    have hml3 : (L2 ++ four id).length = 12 := by rw [List.length_append, four_len, hml2]
    obtain ⟨L3, hL3⟩ : ∃ L, L2 ++ four id = L := ⟨_, rfl⟩
    rw [hL3] at HP3 HEQ hml3
    clear hL3 hml2
    obtain ⟨⟨b0, b1, b2, b3, b4⟩, _⟩ := cellsOf5 HP3.out.blk
    have hcall := refFour_c _ L3 to h2 (by omega) _ HP3.out.slab
    go_wp2_with fail
    refine hcall.mono ?_; rintro e w4 ⟨v4, rfl, hs, hu⟩
    have HP4 := Lib.hid (HP3.out.step hs hu)
    clear hs hu hcall b0 b1 b2 b3 b4 HP3
    have hml4 : (L3 ++ four to).length = 16 := by rw [List.length_append, four_len, hml3]
    obtain ⟨L4, hL4⟩ : ∃ L, L3 ++ four to = L := ⟨_, rfl⟩
    rw [hL4] at HP4 HEQ hml4
    clear hL4 hml3
    obtain ⟨⟨b0, b1, b2, b3, b4⟩, _⟩ := cellsOf5 HP4.out.blk
    have hcall := refFour_c _ L4 k (by omega) (by omega) _ HP4.out.slab
    go_wp2_with fail
    refine hcall.mono ?_; rintro e w5 ⟨v5, rfl, hs, hu⟩
    have HP5 := Lib.hid (HP4.out.step hs hu)
    clear hs hu hcall b0 b1 b2 b3 b4 HP4
    have hml5 : (L4 ++ four k).length = 20 := by rw [List.length_append, four_len, hml4]
    obtain ⟨L5, hL5⟩ : ∃ L, L4 ++ four k = L := ⟨_, rfl⟩
    rw [hL5] at HP5 HEQ hml5
    clear hL5 hml4
    obtain ⟨⟨b0, b1, b2, b3, b4⟩, _⟩ := cellsOf5 HP5.out.blk
    have hcall := refFour_c _ L5 1 (by omega) (by omega) _ HP5.out.slab
    go_wp2_with fail
    refine hcall.mono ?_; rintro e w6 ⟨v6, rfl, hs, hu⟩
    have HP6 := Lib.hid (HP5.out.step hs hu)
    clear hs hu hcall b0 b1 b2 b3 b4 HP5
    have hml6 : (L5 ++ four 1).length = 24 := by rw [List.length_append, four_len, hml5]
    obtain ⟨L, hL⟩ : ∃ L, L5 ++ four 1 = L := ⟨_, rfl⟩
    rw [hL] at HP6 HEQ hml6
    clear hL hml5
    obtain ⟨⟨b0, b1, b2, b3, b4⟩, _⟩ := cellsOf5 HP6.out.blk
    go_wp2_with (at_builtin; refine wpList_slab bytTy 9 (by rfl) _ _ (by rfl) v6 L.length (bytesV L) (by rfl) HP6.out.slab (.string body) (by rfl) body.size (byteCells body) (Src.ofString w6 Tryd.underlying9 body) (by unfold maxLen; omega) (by omega) ?_; intro v7 w7 hs7 hu7; have HP7 := Lib.hid (HP6.out.step (v' := v7) (L' := L ++ body.data.toList) (show BSlab w7 v7 (L ++ body.data.toList) by unfold BSlab; rw [bytesV_append, List.length_append]; exact hs7) hu7); clear hs7 hu7 b0 b1 b2 b3 b4; obtain ⟨⟨b0, b1, b2, b3, b4⟩, _⟩ := cellsOf5 HP7.out.blk)
    obtain ⟨A, cap, rfl, hcap, hcm, hbi⟩ := HP7.out.slab.bytes
    have hlb : (L ++ body.data.toList).length = 24 + body.size := by rw [List.length_append, hml6]; rfl
    have hsum := refSum_c A cap (L ++ body.data.toList) (by unfold maxLen; omega) w7 hbi
    have hcrc := crc_lt (L ++ body.data.toList)
    have HEQ' := Lib.hid (show packed ⟨id, to, (k : Int), body, true⟩ = (L ++ body.data.toList) ++ four (crc (L ++ body.data.toList)) by unfold packed; rw [HEQ.out]; rfl)
    clear HEQ hbi
    generalize L ++ body.data.toList = L9 at *
    have hcall2 := refFour_c _ L9 (crc L9) hcrc (by omega) w7 HP7.out.slab
    have HC2 := Lib.hid hcall2
    clear hcall2 hcrc hlb b0 b1 b2 b3 b4
    go_wp2_with fail
    refine hsum.mono ?_; rintro e w8 ⟨rfl, rfl⟩
    clear hsum
    go_wp2_with fail
    refine HC2.out.mono ?_; rintro e w9 ⟨v9, rfl, hs9, hu9⟩
    have HP9 := Lib.hid (HP7.out.step hs9 hu9)
    clear hs9 hu9 HP7
    go_wp2
    go_ret2
    exact ⟨v9, by rw [HE.out]; rfl, by rw [show packL ⟨id, to, (k : Int), body, true⟩ = packed ⟨id, to, (k : Int), body, true⟩ by unfold packL; rw [if_pos HE.out], HEQ'.out]; exact HP9.out.slab, HP9.out.below, fun g hg => Nat.le_of_lt (HP9.out.own g hg)⟩
theorem refPack_c (m : WMsg) (hm : MsgOk m) (w : World) : Calls Tryd.prog 14 #[.agg (msgV m).toArray] w (PackPost m w) := by
  obtain ⟨id, to, kind, body, sum⟩ := m
  obtain ⟨h1, h2, h3, h4, h5⟩ := hm
  simp only at h1 h2 h3 h4 h5
  show Calls Tryd.prog 14 #[.agg #[.int .u32 (id : Int), .int .u32 (to : Int), .int .i64 kind, .string body, .bool sum]] w (PackPost ⟨id, to, kind, body, sum⟩ w)
  by_cases hk : kind < 1 ∨ 6 < kind
  · exact refPack_kind id to kind body sum hk w
  · obtain ⟨k, rfl⟩ : ∃ k : Nat, kind = (k : Int) := ⟨kind.toNat, by omega⟩
    cases sum with
    | false => exact refPack_false id to k h1 h2 (by omega) (by omega) body h5 w
    | true => exact refPack_true id to k h1 h2 (by omega) (by omega) body h5 w
end Go.Proofs.YtkpickojeghppaaDoor
