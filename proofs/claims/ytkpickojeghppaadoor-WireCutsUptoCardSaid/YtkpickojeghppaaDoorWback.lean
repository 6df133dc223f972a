/- The walk of the law WireBack. Conditions: what lies in the package-level variables. -/
import Derived.Test.YtkpickojeghppaaDoorWlive
import Derived.Test.YtkpickojeghppaaDoorWbackp
namespace Go.Proofs.YtkpickojeghppaaDoor
open Go.RowKit
theorem BSlab.inn {w : World} {A : Option Addr} {n cap : Nat} {l : List UInt8} (h : BSlab w (.slice A n cap) l) : BytesIn w A l := by
  obtain ⟨A', cap', e, _, _, hB⟩ := h.bytes
  injection e with e1 e2 e3
  rw [e1]; exact hB
theorem turned_L (m : WMsg) (L : List UInt8) (hL : packL m = L) (hid : m.id < 4294967296) (hto : m.to < 4294967296) (h : packE m = 0) (hsum : m.sum = true) (j : Nat) (hj : 8 ≤ j) (hjl : j < L.length) (x : UInt8) (hx : x ≠ L[j]) :
    (unpack (L.set j x)).err ≠ 0 ∨ (unpack (L.set j x)).msg.sum = false := by
  subst hL
  exact turned m hid hto h hsum j hj hjl x hx
theorem xor_u8 (y k : UInt8) : bits BinOp.xor IntKind.u8 (y.toNat : Int) (k.toNat : Int) = ((y ^^^ k).toNat : Int) := by
  have h1 := y.toNat_lt
  have h2 := k.toNat_lt
  have h3 : y.toNat ^^^ k.toNat < 256 := Nat.xor_lt_two_pow (n := 8) (by omega) (by omega)
  have e : bits BinOp.xor IntKind.u8 (y.toNat : Int) (k.toNat : Int) = IntKind.u8.wrap ((y.toNat % 2 ^ IntKind.u8.bits ^^^ k.toNat % 2 ^ IntKind.u8.bits : Nat) : Int) := by simp [bits]
  rw [e, show 2 ^ IntKind.u8.bits = 256 from rfl, Nat.mod_eq_of_lt h1, Nat.mod_eq_of_lt h2, UInt8.toNat_xor]
  generalize y.toNat ^^^ k.toNat = z at *
  simp [IntKind.wrap, IntKind.bits, IntKind.signed]
  omega
theorem xor_ne (y k : UInt8) (hk : k ≠ 0) : y ^^^ k ≠ y := by
  intro e
  have h := congrArg (fun z => y ^^^ z) e
  simp only [← UInt8.xor_assoc, UInt8.xor_self, UInt8.zero_xor] at h
  exact hk h
theorem two_pow (c : Nat) (h : c < 8) : (2 ^ c % 256 : Int) = ((UInt8.ofNat (2 ^ c)).toNat : Int) ∧ UInt8.ofNat (2 ^ c) ≠ 0 := by
  have : c = 0 ∨ c = 1 ∨ c = 2 ∨ c = 3 ∨ c = 4 ∨ c = 5 ∨ c = 6 ∨ c = 7 := by omega
  rcases this with rfl | rfl | rfl | rfl | rfl | rfl | rfl | rfl <;> decide
theorem slab_lit (w : World) (g : Nat) (hg : g = w.heap.size) : Slab (w.alloc (.cells #[] 5)) 1 (.slice (some ⟨g, 0, none⟩) 0 0) 0 [] := by
  subst hg
  exact ⟨rfl, .inr ⟨w.heap.size, 0, 0, rfl, Nat.le_refl _, Nat.zero_le _, by simp, (fun j v hj => by simp at hj), (fun j hj => by omega)⟩⟩
theorem unpack_set (L : List UInt8) (hl : L.length ≤ 131072) (j : Nat) (hj : j < L.length) (X : UInt8) (G o cap : Nat) (hc : L.length ≤ cap) (w : World) (hs : BSlab w (.slice (some ⟨G, o, none⟩) L.length cap) L) :
    Calls Tryd.prog 15 #[.slice (some ⟨G, o, none⟩) L.length cap] (w.setCell ⟨G, o + j, none⟩ (.int .u8 (X.toNat : Int))) (UnPost (unpack (L.set j X)) (w.setCell ⟨G, o + j, none⟩ (.int .u8 (X.toNat : Int)))) := by
  have hp := Slab.put hs j (by simpa [bytesV] using hj) (.int .u8 (X.toNat : Int))
  have e : (bytesV L).set j (.int .u8 (X.toNat : Int)) = bytesV (L.set j X) := by simp [bytesV, List.map_set]
  rw [e] at hp
  have hb : BSlab (w.setCell ⟨G, o + j, none⟩ (.int .u8 (X.toNat : Int))) (.slice (some ⟨G, o, none⟩) L.length cap) (L.set j X) := by unfold BSlab; rw [List.length_set]; exact hp
  have := unpack_c (some ⟨G, o, none⟩) cap (L.set j X) (by rw [List.length_set]; omega) (by rw [List.length_set]; exact hc) _ hb.inn
  rw [List.length_set] at this
  exact this
def MsgIn (m : WMsg) : Prop := m.id < 4294967296 ∧ m.to < 4294967296 ∧ -9223372036854775808 ≤ m.kind ∧ m.kind ≤ 9223372036854775807 ∧ m.body.size ≤ 9223372036854775807
theorem MsgIn.ok {m : WMsg} (h : MsgIn m) (hb : m.body.size ≤ 9223372036854770000) : MsgOk m := ⟨h.1, h.2.1, h.2.2.1, h.2.2.2.1, hb⟩
set_option maxRecDepth 20000 in
set_option maxHeartbeats 4000000 in
theorem wireBack_c (m : WMsg) (hm : MsgIn m) (bit : Int) (w : World) (hT : WTabs w) : Calls Tryd.prog 5 #[.agg (msgV m).toArray, .int .i64 bit] w fun r w' => r = .returned (.bool true) ∧ Below w.heap.size w w' := by
  have HT := Lib.hid hT
  have HL := Lib.hid (fun (W : World) (hb : Below w.heap.size w W) => (live_c W (hT.below hb)).mono (R' := fun e w' => e = .returned (.bool true) ∧ Below w.heap.size w w') (fun e w' ⟨he, h⟩ => ⟨he, hb.trans (h.mono hb.size)⟩))
  obtain ⟨id, to, kind, body, sum⟩ := m
  have hbs := hm.2.2.2.2
  simp only at hbs
  show Calls Tryd.prog 5 #[.agg #[.int .u32 (id : Int), .int .u32 (to : Int), .int .i64 kind, .string body, .bool sum], .int .i64 bit] w _
  have HB0 := Lib.hid (show Below w.heap.size w (w.alloc (.cells #[.int .u32 (id : Int), .int .u32 (to : Int), .int .i64 kind, .string body, .bool sum] 27)) from (Below.refl _ _).alloc (Nat.le_refl _) _)
  clear hT
  by_cases hlong : 5000 < body.size
  · clear hm
    go_enter Tryd.func5, Tryd.ntmps5
    go_wp2
    go_ret
    exact ⟨rfl, HB0.out⟩
  · have hbl : body.size ≤ 5000 := by omega
    have HM := Lib.hid (hm.ok (by show body.size ≤ _; omega))
    have HPK' := Lib.hid (fun (W : World) => show Calls Tryd.prog 13 #[.agg #[.int .u32 (id : Int), .int .u32 (to : Int), .int .i64 kind, .string body, .bool sum]] W (PackPost ⟨id, to, kind, body, sum⟩ W) from pack_c ⟨id, to, kind, body, sum⟩ HM.out W)
    clear hm hbs
    by_cases hE : packE ⟨id, to, kind, body, sum⟩ = 0
    · have HE := Lib.hid hE
      have hul := unpack_packed ⟨id, to, kind, body, sum⟩ HM.out.1 HM.out.2.1 hE [1, 2, 3]
      have hpl := packL_len ⟨id, to, kind, body, sum⟩
      obtain ⟨L, hL⟩ : ∃ L, packL ⟨id, to, kind, body, sum⟩ = L := ⟨_, rfl⟩
      rw [hL] at hul hpl
      have HTU := Lib.hid (turned_L ⟨id, to, kind, body, sum⟩ L hL HM.out.1 HM.out.2.1 hE)
      have HLE := Lib.hid hL
      have HUL := Lib.hid hul
      clear hE hul hL
      by_cases hA : bit < 64
      · have hA2 := hA
        go_enter Tryd.func5, Tryd.ntmps5
        go_wp2_with fail
        refine (HPK'.out _).mono ?_; rintro e w1 ⟨v, rfl, hs, hb, hn⟩
        rw [HE.out]
        rw [HLE.out] at hs
        obtain ⟨A, cap, rfl, hlc, hcm, hB⟩ := hs.bytes
        have HS1 := Lib.hid hs
        have HB1 := Lib.hid (HB0.out.trans (hb.mono (by simp)))
        have hm0 : w1.heap[w.heap.size]? = some (.cells #[.int .u32 (id : Int), .int .u32 (to : Int), .int .i64 kind, .string body, .bool sum] 27 (0, 0)) := (hb.block w.heap.size (by simp)).trans (heap_alloc_new w _)
        have HM0 := Lib.hid hm0
        have hsz1 : w.heap.size < w1.heap.size := by have := hb.size; simp at this; omega
        clear hs hb hn hB hm0
        go_wp2_with (first
          | (go_at_call 11; refine (num_c _ _).mono ?_; rintro e w' ⟨rfl, rfl⟩)
          | (at_builtin; refine wpList_slab bytTy 28 (by rfl) _ _ (by rfl) (.slice (some ⟨w1.heap.size, 0, none⟩) 0 0) 0 [] (by rfl) (slab_lit w1 _ rfl) (.slice A L.length cap) (by rfl) L.length (bytesV L) (src_bslab (Slab.below HS1.out ((Below.refl _ _).alloc (Nat.le_refl _) _))) (by unfold maxLen; omega) (by omega) ?_; intro v2 w2 hs2 hu2; rw [Nat.zero_add, List.nil_append] at hs2; have HB2 := Lib.hid ((Below.refl _ w1).alloc (Nat.le_refl _) _ |>.trans (hu2.below (B := w1.heap.size) (by simp) (fun g hg => Nat.le_of_eq (Option.some.inj hg)))); have HS2 := Lib.hid (show BSlab w2 v2 L from hs2); have HN2 := Lib.hid (show ∀ g, v2.ownBlock = some g → w1.heap.size ≤ g from fun g hg => hu2.own.elim (fun e => Nat.le_of_eq (Option.some.inj (e.symm.trans hg))) (fun ⟨q, e, hq⟩ => by rw [e] at hg; have := Option.some.inj hg; simp at hq; omega)); obtain ⟨A2, cap2, hv2, hc2, hm2, _⟩ := Slab.form hs2; subst hv2; clear hs2 hu2)
          | (at_builtin; refine wpList_slab bytTy 28 (by rfl) _ _ (by rfl) (.slice A2 L.length cap2) L.length (bytesV L) (by rfl) (Slab.below HS2.out ((Below.refl _ _).alloc (Nat.le_refl _) _)) (.slice (some ⟨w2.heap.size, 0, none⟩) 3 3) (by rfl) 3 (bytesV [1, 2, 3]) (Src.ofSlice _ bytTy.slice _ 3 3 _ rfl (World.news_of_block (heap_alloc_new w2 _)) (by simp [bytesV, Value.oneCell'])) (by unfold maxLen; omega) (by omega) ?_; intro v3 w3 hs3 hu3; have HS3 := Lib.hid (show BSlab w3 v3 (L ++ [1, 2, 3]) by unfold BSlab; rw [bytesV_append, List.length_append]; exact hs3); have HB3 := Lib.hid (HB2.out.trans (((Below.refl w2.heap.size w2).alloc (Nat.le_refl _) _ |>.mono HB2.out.size).trans (hu3.below (by have := HB2.out.size; simp; omega) HN2.out))); obtain ⟨A3, cap3, hv3, hc3, hm3, _⟩ := Slab.form hs3; subst hv3; have HUN := Lib.hid (show Calls Tryd.prog 15 #[.slice A3 (L.length + 3) cap3] w3 (fun e w' => e = .returned (.tuple #[.agg #[.int .u32 (id : Int), .int .u32 (to : Int), .int .i64 kind, .string body, .bool sum], .int .i64 (L.length : Int), .int .i64 0]) ∧ Below w3.heap.size w3 w') from by have h := unpack_c A3 cap3 (L ++ [1, 2, 3]) (by rw [List.length_append]; simp; omega) (by rw [List.length_append]; exact hc3) w3 HS3.out.inn; rw [HUL.out, List.length_append] at h; exact h); clear hs3 hu3)
          | (go_at_call 15; (with_reducible refine HUN.out.mono ?_); rintro e w4 ⟨rfl, hb4⟩; have HB4 := Lib.hid (HB3.out.trans (hb4.mono HB3.out.size)); have hm4 : w4.heap[w.heap.size]? = _ := (HB4.out.block w.heap.size hsz1).trans HM0.out; have hsz4 : w.heap.size < w4.heap.size := Nat.lt_of_lt_of_le hsz1 HB4.out.size; obtain ⟨⟨b0, b1, b2, b3, b4⟩, _⟩ := cellsOf5 hm4; clear hb4 hm4)
          | (go_at_call 12; refine (HL.out _ ((HB1.out.trans (HB4.out.mono HB1.out.size)).alloc (Nat.le_of_lt hsz4) _)).mono ?_; rintro e w' ⟨rfl, hb⟩))
        go_ret
        exact ⟨rfl, hb⟩
      by_cases hC : 8 * (L.length : Int) ≤ bit
      · have hC2 := hC
        go_enter Tryd.func5, Tryd.ntmps5
        go_wp2_with fail
        refine (HPK'.out _).mono ?_; rintro e w1 ⟨v, rfl, hs, hb, hn⟩
        rw [HE.out]
        rw [HLE.out] at hs
        obtain ⟨A, cap, rfl, hlc, hcm, hB⟩ := hs.bytes
        have HS1 := Lib.hid hs
        have HB1 := Lib.hid (HB0.out.trans (hb.mono (by simp)))
        have hm0 : w1.heap[w.heap.size]? = some (.cells #[.int .u32 (id : Int), .int .u32 (to : Int), .int .i64 kind, .string body, .bool sum] 27 (0, 0)) := (hb.block w.heap.size (by simp)).trans (heap_alloc_new w _)
        have HM0 := Lib.hid hm0
        have hsz1 : w.heap.size < w1.heap.size := by have := hb.size; simp at this; omega
        clear hs hb hn hB hm0
        go_wp2_with (first
          | (go_at_call 11; refine (num_c _ _).mono ?_; rintro e w' ⟨rfl, rfl⟩)
          | (at_builtin; refine wpList_slab bytTy 28 (by rfl) _ _ (by rfl) (.slice (some ⟨w1.heap.size, 0, none⟩) 0 0) 0 [] (by rfl) (slab_lit w1 _ rfl) (.slice A L.length cap) (by rfl) L.length (bytesV L) (src_bslab (Slab.below HS1.out ((Below.refl _ _).alloc (Nat.le_refl _) _))) (by unfold maxLen; omega) (by omega) ?_; intro v2 w2 hs2 hu2; rw [Nat.zero_add, List.nil_append] at hs2; have HB2 := Lib.hid ((Below.refl _ w1).alloc (Nat.le_refl _) _ |>.trans (hu2.below (B := w1.heap.size) (by simp) (fun g hg => Nat.le_of_eq (Option.some.inj hg)))); have HS2 := Lib.hid (show BSlab w2 v2 L from hs2); have HN2 := Lib.hid (show ∀ g, v2.ownBlock = some g → w1.heap.size ≤ g from fun g hg => hu2.own.elim (fun e => Nat.le_of_eq (Option.some.inj (e.symm.trans hg))) (fun ⟨q, e, hq⟩ => by rw [e] at hg; have := Option.some.inj hg; simp at hq; omega)); obtain ⟨A2, cap2, hv2, hc2, hm2, _⟩ := Slab.form hs2; subst hv2; clear hs2 hu2)
          | (at_builtin; refine wpList_slab bytTy 28 (by rfl) _ _ (by rfl) (.slice A2 L.length cap2) L.length (bytesV L) (by rfl) (Slab.below HS2.out ((Below.refl _ _).alloc (Nat.le_refl _) _)) (.slice (some ⟨w2.heap.size, 0, none⟩) 3 3) (by rfl) 3 (bytesV [1, 2, 3]) (Src.ofSlice _ bytTy.slice _ 3 3 _ rfl (World.news_of_block (heap_alloc_new w2 _)) (by simp [bytesV, Value.oneCell'])) (by unfold maxLen; omega) (by omega) ?_; intro v3 w3 hs3 hu3; have HS3 := Lib.hid (show BSlab w3 v3 (L ++ [1, 2, 3]) by unfold BSlab; rw [bytesV_append, List.length_append]; exact hs3); have HB3 := Lib.hid (HB2.out.trans (((Below.refl w2.heap.size w2).alloc (Nat.le_refl _) _ |>.mono HB2.out.size).trans (hu3.below (by have := HB2.out.size; simp; omega) HN2.out))); obtain ⟨A3, cap3, hv3, hc3, hm3, _⟩ := Slab.form hs3; subst hv3; have HUN := Lib.hid (show Calls Tryd.prog 15 #[.slice A3 (L.length + 3) cap3] w3 (fun e w' => e = .returned (.tuple #[.agg #[.int .u32 (id : Int), .int .u32 (to : Int), .int .i64 kind, .string body, .bool sum], .int .i64 (L.length : Int), .int .i64 0]) ∧ Below w3.heap.size w3 w') from by have h := unpack_c A3 cap3 (L ++ [1, 2, 3]) (by rw [List.length_append]; simp; omega) (by rw [List.length_append]; exact hc3) w3 HS3.out.inn; rw [HUL.out, List.length_append] at h; exact h); clear hs3 hu3)
          | (go_at_call 15; (with_reducible refine HUN.out.mono ?_); rintro e w4 ⟨rfl, hb4⟩; have HB4 := Lib.hid (HB3.out.trans (hb4.mono HB3.out.size)); have hm4 : w4.heap[w.heap.size]? = _ := (HB4.out.block w.heap.size hsz1).trans HM0.out; have hsz4 : w.heap.size < w4.heap.size := Nat.lt_of_lt_of_le hsz1 HB4.out.size; obtain ⟨⟨b0, b1, b2, b3, b4⟩, _⟩ := cellsOf5 hm4; clear hb4 hm4)
          | (go_at_call 12; refine (HL.out _ ((HB1.out.trans (HB4.out.mono HB1.out.size)).alloc (Nat.le_of_lt hsz4) _)).mono ?_; rintro e w' ⟨rfl, hb⟩))
        go_ret
        exact ⟨rfl, hb⟩
      cases sum with
      | false =>
        go_enter Tryd.func5, Tryd.ntmps5
        go_wp2_with fail
        refine (HPK'.out _).mono ?_; rintro e w1 ⟨v, rfl, hs, hb, hn⟩
        rw [HE.out]
        rw [HLE.out] at hs
        obtain ⟨A, cap, rfl, hlc, hcm, hB⟩ := hs.bytes
        have HS1 := Lib.hid hs
        have HB1 := Lib.hid (HB0.out.trans (hb.mono (by simp)))
        have hm0 : w1.heap[w.heap.size]? = some (.cells #[.int .u32 (id : Int), .int .u32 (to : Int), .int .i64 kind, .string body, .bool false] 27 (0, 0)) := (hb.block w.heap.size (by simp)).trans (heap_alloc_new w _)
        have HM0 := Lib.hid hm0
        have hsz1 : w.heap.size < w1.heap.size := by have := hb.size; simp at this; omega
        clear hs hb hn hB hm0
        go_wp2_with (first
          | (go_at_call 11; refine (num_c _ _).mono ?_; rintro e w' ⟨rfl, rfl⟩)
          | (at_builtin; refine wpList_slab bytTy 28 (by rfl) _ _ (by rfl) (.slice (some ⟨w1.heap.size, 0, none⟩) 0 0) 0 [] (by rfl) (slab_lit w1 _ rfl) (.slice A L.length cap) (by rfl) L.length (bytesV L) (src_bslab (Slab.below HS1.out ((Below.refl _ _).alloc (Nat.le_refl _) _))) (by unfold maxLen; omega) (by omega) ?_; intro v2 w2 hs2 hu2; rw [Nat.zero_add, List.nil_append] at hs2; have HB2 := Lib.hid ((Below.refl _ w1).alloc (Nat.le_refl _) _ |>.trans (hu2.below (B := w1.heap.size) (by simp) (fun g hg => Nat.le_of_eq (Option.some.inj hg)))); have HS2 := Lib.hid (show BSlab w2 v2 L from hs2); have HN2 := Lib.hid (show ∀ g, v2.ownBlock = some g → w1.heap.size ≤ g from fun g hg => hu2.own.elim (fun e => Nat.le_of_eq (Option.some.inj (e.symm.trans hg))) (fun ⟨q, e, hq⟩ => by rw [e] at hg; have := Option.some.inj hg; simp at hq; omega)); obtain ⟨A2, cap2, hv2, hc2, hm2, _⟩ := Slab.form hs2; subst hv2; clear hs2 hu2)
          | (at_builtin; refine wpList_slab bytTy 28 (by rfl) _ _ (by rfl) (.slice A2 L.length cap2) L.length (bytesV L) (by rfl) (Slab.below HS2.out ((Below.refl _ _).alloc (Nat.le_refl _) _)) (.slice (some ⟨w2.heap.size, 0, none⟩) 3 3) (by rfl) 3 (bytesV [1, 2, 3]) (Src.ofSlice _ bytTy.slice _ 3 3 _ rfl (World.news_of_block (heap_alloc_new w2 _)) (by simp [bytesV, Value.oneCell'])) (by unfold maxLen; omega) (by omega) ?_; intro v3 w3 hs3 hu3; have HS3 := Lib.hid (show BSlab w3 v3 (L ++ [1, 2, 3]) by unfold BSlab; rw [bytesV_append, List.length_append]; exact hs3); have HB3 := Lib.hid (HB2.out.trans (((Below.refl w2.heap.size w2).alloc (Nat.le_refl _) _ |>.mono HB2.out.size).trans (hu3.below (by have := HB2.out.size; simp; omega) HN2.out))); obtain ⟨A3, cap3, hv3, hc3, hm3, _⟩ := Slab.form hs3; subst hv3; have HUN := Lib.hid (show Calls Tryd.prog 15 #[.slice A3 (L.length + 3) cap3] w3 (fun e w' => e = .returned (.tuple #[.agg #[.int .u32 (id : Int), .int .u32 (to : Int), .int .i64 kind, .string body, .bool false], .int .i64 (L.length : Int), .int .i64 0]) ∧ Below w3.heap.size w3 w') from by have h := unpack_c A3 cap3 (L ++ [1, 2, 3]) (by rw [List.length_append]; simp; omega) (by rw [List.length_append]; exact hc3) w3 HS3.out.inn; rw [HUL.out, List.length_append] at h; exact h); clear hs3 hu3)
          | (go_at_call 15; (with_reducible refine HUN.out.mono ?_); rintro e w4 ⟨rfl, hb4⟩; have HB4 := Lib.hid (HB3.out.trans (hb4.mono HB3.out.size)); have hm4 : w4.heap[w.heap.size]? = _ := (HB4.out.block w.heap.size hsz1).trans HM0.out; have hsz4 : w.heap.size < w4.heap.size := Nat.lt_of_lt_of_le hsz1 HB4.out.size; obtain ⟨⟨b0, b1, b2, b3, b4⟩, _⟩ := cellsOf5 hm4; clear hb4 hm4)
          | (go_at_call 12; refine (HL.out _ ((HB1.out.trans (HB4.out.mono HB1.out.size)).alloc (Nat.le_of_lt hsz4) _)).mono ?_; rintro e w' ⟨rfl, hb⟩))
        go_ret
        exact ⟨rfl, hb⟩
      | true =>
        obtain ⟨B, rfl⟩ := Int.eq_ofNat_of_zero_le (show 0 ≤ bit by omega)
        have hB1 : 64 ≤ B := by omega
        have hB2 : B < 8 * L.length := by omega
        obtain ⟨j, hj⟩ : ∃ j, B / 8 = j := ⟨_, rfl⟩
        have hjl : j < L.length := by omega
        have hj8 : 8 ≤ j := by omega
        have hqi : (B : Int) / 8 = (j : Int) := by omega
        obtain ⟨c, hc⟩ : ∃ c, B % 8 = c := ⟨_, rfl⟩
        have hmi : (B : Int) % 8 = (c : Int) := by omega
        have hc0 : (0 : Int) ≤ (c : Int) := by omega
        have hc7 : (c : Int) < 8 := by omega
        have htp := two_pow c (by omega)
        obtain ⟨X, hX⟩ : ∃ X, L[j] ^^^ UInt8.ofNat (2 ^ c) = X := ⟨_, rfl⟩
        have hxor : bits BinOp.xor IntKind.u8 ((L[j]'hjl).toNat : Int) (2 ^ c % 256) = (X.toNat : Int) := by rw [htp.1, xor_u8, hX]
        have hne : X ≠ L[j] := by rw [← hX]; exact xor_ne _ _ htp.2
        have htt := HTU.out rfl j hj8 hjl X hne
        have hus := unpack_set L hpl j hjl X
        clear hj hc htp hX hne hj8
        cases hr : unpack (L.set j X) with
        | bad ee =>
          have hee := (unpack_err _ _ hr).1
          have hnb : ((ee : Int) != 0) = true := by rw [bne_iff_ne]; omega
          rw [hr] at hus
          have HU2 := Lib.hid (fun G o cap (hc : L.length ≤ cap) w hs => show Calls Tryd.prog 15 #[.slice (some ⟨G, o, none⟩) L.length cap] (w.setCell ⟨G, o + j, none⟩ (.int .u8 (X.toNat : Int))) (fun e w' => e = .returned (.tuple #[.agg #[.int .u32 0, .int .u32 0, .int .i64 0, .string ⟨#[]⟩, .bool false], .int .i64 0, .int .i64 (ee : Int)]) ∧ Below (w.setCell ⟨G, o + j, none⟩ (.int .u8 (X.toNat : Int))).heap.size (w.setCell ⟨G, o + j, none⟩ (.int .u8 (X.toNat : Int))) w') from hus G o cap hc w hs)
          clear htt hus hr
          go_enter Tryd.func5, Tryd.ntmps5
          go_wp2_with fail
          refine (HPK'.out _).mono ?_; rintro e w1 ⟨v, rfl, hs, hb, hn⟩
          rw [HE.out]
          rw [HLE.out] at hs
          obtain ⟨A, cap, rfl, hlc, hcm, hB⟩ := hs.bytes
          have HS1 := Lib.hid hs
          have HB1 := Lib.hid (HB0.out.trans (hb.mono (by simp)))
          have hm0 : w1.heap[w.heap.size]? = some (.cells #[.int .u32 (id : Int), .int .u32 (to : Int), .int .i64 kind, .string body, .bool true] 27 (0, 0)) := (hb.block w.heap.size (by simp)).trans (heap_alloc_new w _)
          have HM0 := Lib.hid hm0
          have hsz1 : w.heap.size < w1.heap.size := by have := hb.size; simp at this; omega
          clear hs hb hn hB hm0
          go_wp2_with (first
            | (go_at_call 11; refine (num_c _ _).mono ?_; rintro e w' ⟨rfl, rfl⟩)
            | (at_builtin; refine wpList_slab bytTy 28 (by rfl) _ _ (by rfl) (.slice (some ⟨w1.heap.size, 0, none⟩) 0 0) 0 [] (by rfl) (slab_lit w1 _ rfl) (.slice A L.length cap) (by rfl) L.length (bytesV L) (src_bslab (Slab.below HS1.out ((Below.refl _ _).alloc (Nat.le_refl _) _))) (by unfold maxLen; omega) (by omega) ?_; intro v2 w2 hs2 hu2; rw [Nat.zero_add, List.nil_append] at hs2; have HB2 := Lib.hid ((Below.refl _ w1).alloc (Nat.le_refl _) _ |>.trans (hu2.below (B := w1.heap.size) (by simp) (fun g hg => Nat.le_of_eq (Option.some.inj hg)))); have HS2 := Lib.hid (show BSlab w2 v2 L from hs2); have HN2 := Lib.hid (show ∀ g, v2.ownBlock = some g → w1.heap.size ≤ g from fun g hg => hu2.own.elim (fun e => Nat.le_of_eq (Option.some.inj (e.symm.trans hg))) (fun ⟨q, e, hq⟩ => by rw [e] at hg; have := Option.some.inj hg; simp at hq; omega)); obtain ⟨A2, cap2, hv2, hc2, hm2, _⟩ := Slab.form hs2; subst hv2; clear hs2 hu2)
            | (at_builtin; refine wpList_slab bytTy 28 (by rfl) _ _ (by rfl) (.slice A2 L.length cap2) L.length (bytesV L) (by rfl) (Slab.below HS2.out ((Below.refl _ _).alloc (Nat.le_refl _) _)) (.slice (some ⟨w2.heap.size, 0, none⟩) 3 3) (by rfl) 3 (bytesV [1, 2, 3]) (Src.ofSlice _ bytTy.slice _ 3 3 _ rfl (World.news_of_block (heap_alloc_new w2 _)) (by simp [bytesV, Value.oneCell'])) (by unfold maxLen; omega) (by omega) ?_; intro v3 w3 hs3 hu3; have HS3 := Lib.hid (show BSlab w3 v3 (L ++ [1, 2, 3]) by unfold BSlab; rw [bytesV_append, List.length_append]; exact hs3); have HB3 := Lib.hid (HB2.out.trans (((Below.refl w2.heap.size w2).alloc (Nat.le_refl _) _ |>.mono HB2.out.size).trans (hu3.below (by have := HB2.out.size; simp; omega) HN2.out))); obtain ⟨A3, cap3, hv3, hc3, hm3, _⟩ := Slab.form hs3; subst hv3; have HUN := Lib.hid (show Calls Tryd.prog 15 #[.slice A3 (L.length + 3) cap3] w3 (fun e w' => e = .returned (.tuple #[.agg #[.int .u32 (id : Int), .int .u32 (to : Int), .int .i64 kind, .string body, .bool true], .int .i64 (L.length : Int), .int .i64 0]) ∧ Below w3.heap.size w3 w') from by have h := unpack_c A3 cap3 (L ++ [1, 2, 3]) (by rw [List.length_append]; simp; omega) (by rw [List.length_append]; exact hc3) w3 HS3.out.inn; rw [HUL.out, List.length_append] at h; exact h); clear hs3 hu3)
            | (go_at_call 15; (with_reducible refine HUN.out.mono ?_); rintro e w4 ⟨rfl, hb4⟩; have HB4 := Lib.hid (HB3.out.trans (hb4.mono HB3.out.size)); have hm4 : w4.heap[w.heap.size]? = _ := (HB4.out.block w.heap.size hsz1).trans HM0.out; have hsz4 : w.heap.size < w4.heap.size := Nat.lt_of_lt_of_le hsz1 HB4.out.size; obtain ⟨⟨b0, b1, b2, b3, b4⟩, _⟩ := cellsOf5 hm4; clear hb4 hm4)
            | (at_builtin; refine wpList_slab bytTy 28 (by rfl) _ _ (by rfl) (.slice (some ⟨w4.heap.size + 1, 0, none⟩) 0 0) 0 [] (by rfl) (slab_lit (w4.alloc (.cells #[.int .u32 (id : Int), .int .u32 (to : Int), .int .i64 kind, .string body, .bool true] 27)) _ (by simp)) (.slice A L.length cap) (by rfl) L.length (bytesV L) (src_bslab (Slab.below HS1.out ((HB4.out.alloc HB4.out.size _).alloc (by have := HB4.out.size; simp; omega) _))) (by unfold maxLen; omega) (by omega) ?_; intro v5 w5 hs5 hu5; rw [Nat.zero_add, List.nil_append] at hs5; have HS5 := Lib.hid (show BSlab w5 v5 L from hs5); have HB5 := Lib.hid (show Below w.heap.size w w5 from (((HB1.out.trans (HB4.out.mono HB1.out.size)).alloc (Nat.le_of_lt hsz4) _).alloc (by simp; omega) _).trans (hu5.below (by simp; omega) (fun g hg => by have h1 : w4.heap.size + 1 = g := Option.some.inj hg; omega))); have HO5 := Lib.hid (show ∀ g, v5.ownBlock = some g → w.heap.size ≤ g from fun g hg => hu5.own.elim (fun e => by have h1 : w4.heap.size + 1 = g := Option.some.inj (e.symm.trans hg); omega) (fun ⟨q, e, hq⟩ => by rw [e] at hg; have h1 : q = g := Option.some.inj hg; simp at hq; omega)); obtain ⟨A5, cap5, hv5, hc5, hm5, hF5⟩ := Slab.form hs5; have HC5 := Lib.hid hc5; obtain ⟨G5, o5, rfl, hr5, hth5⟩ : ∃ G5 o5, A5 = some ⟨G5, o5, none⟩ ∧ w5.rangeAt G5 o5 (bytesV L) ∧ w5.there G5 o5 (cap5 * 1) := (by rcases hF5 with ⟨_, h0, _⟩ | ⟨g, off, h1, _, _, h2, h3⟩; omega; exact ⟨g, off, h1, h2, h3⟩); have d5 : w5.cell? ⟨G5, o5 + j, none⟩ = some (.int .u8 ((L[j]'hjl).toNat : Int)) := range_byte hr5 j hjl; have e5 : w5.frozen? ⟨G5, o5 + j, none⟩ = false := (hth5 j (by omega)).2; subst hv5; clear hs5 hu5 hF5 hr5 hth5)
            | (go_at_call 15; refine (HU2.out G5 o5 cap5 HC5.out w5 HS5.out).mono ?_; rintro e w6 ⟨rfl, hb6⟩; have HB6 := Lib.hid ((HB5.out.setCell (p := ⟨G5, o5 + j, none⟩) (HO5.out G5 rfl) (.int .u8 (X.toNat : Int))).trans (hb6.mono (by have := HB5.out.size; simpa using this))); clear hb6)
            | (go_at_call 12; refine (HL.out _ (HB6.out.alloc HB6.out.size _)).mono ?_; rintro e w' ⟨rfl, hb⟩))
          go_ret
          exact ⟨rfl, hb⟩
        | ok y n =>
          rw [hr] at hus htt
          have hys : y.sum = false := by
            rcases htt with h | h
            · exact absurd rfl h
            · exact h
          obtain ⟨yid, yto, ykind, ybody, ysum⟩ := y
          simp only at hys
          subst hys
          have HU2 := Lib.hid (fun G o cap (hc : L.length ≤ cap) w hs => show Calls Tryd.prog 15 #[.slice (some ⟨G, o, none⟩) L.length cap] (w.setCell ⟨G, o + j, none⟩ (.int .u8 (X.toNat : Int))) (fun e w' => e = .returned (.tuple #[.agg #[.int .u32 (yid : Int), .int .u32 (yto : Int), .int .i64 ykind, .string ybody, .bool false], .int .i64 (n : Int), .int .i64 0]) ∧ Below (w.setCell ⟨G, o + j, none⟩ (.int .u8 (X.toNat : Int))).heap.size (w.setCell ⟨G, o + j, none⟩ (.int .u8 (X.toNat : Int))) w') from hus G o cap hc w hs)
          clear htt hus hr
          go_enter Tryd.func5, Tryd.ntmps5
          go_wp2_with fail
          refine (HPK'.out _).mono ?_; rintro e w1 ⟨v, rfl, hs, hb, hn⟩
          rw [HE.out]
          rw [HLE.out] at hs
          obtain ⟨A, cap, rfl, hlc, hcm, hB⟩ := hs.bytes
          have HS1 := Lib.hid hs
          have HB1 := Lib.hid (HB0.out.trans (hb.mono (by simp)))
          have hm0 : w1.heap[w.heap.size]? = some (.cells #[.int .u32 (id : Int), .int .u32 (to : Int), .int .i64 kind, .string body, .bool true] 27 (0, 0)) := (hb.block w.heap.size (by simp)).trans (heap_alloc_new w _)
          have HM0 := Lib.hid hm0
          have hsz1 : w.heap.size < w1.heap.size := by have := hb.size; simp at this; omega
          clear hs hb hn hB hm0
          go_wp2_with (first
            | (go_at_call 11; refine (num_c _ _).mono ?_; rintro e w' ⟨rfl, rfl⟩)
            | (at_builtin; refine wpList_slab bytTy 28 (by rfl) _ _ (by rfl) (.slice (some ⟨w1.heap.size, 0, none⟩) 0 0) 0 [] (by rfl) (slab_lit w1 _ rfl) (.slice A L.length cap) (by rfl) L.length (bytesV L) (src_bslab (Slab.below HS1.out ((Below.refl _ _).alloc (Nat.le_refl _) _))) (by unfold maxLen; omega) (by omega) ?_; intro v2 w2 hs2 hu2; rw [Nat.zero_add, List.nil_append] at hs2; have HB2 := Lib.hid ((Below.refl _ w1).alloc (Nat.le_refl _) _ |>.trans (hu2.below (B := w1.heap.size) (by simp) (fun g hg => Nat.le_of_eq (Option.some.inj hg)))); have HS2 := Lib.hid (show BSlab w2 v2 L from hs2); have HN2 := Lib.hid (show ∀ g, v2.ownBlock = some g → w1.heap.size ≤ g from fun g hg => hu2.own.elim (fun e => Nat.le_of_eq (Option.some.inj (e.symm.trans hg))) (fun ⟨q, e, hq⟩ => by rw [e] at hg; have := Option.some.inj hg; simp at hq; omega)); obtain ⟨A2, cap2, hv2, hc2, hm2, _⟩ := Slab.form hs2; subst hv2; clear hs2 hu2)
            | (at_builtin; refine wpList_slab bytTy 28 (by rfl) _ _ (by rfl) (.slice A2 L.length cap2) L.length (bytesV L) (by rfl) (Slab.below HS2.out ((Below.refl _ _).alloc (Nat.le_refl _) _)) (.slice (some ⟨w2.heap.size, 0, none⟩) 3 3) (by rfl) 3 (bytesV [1, 2, 3]) (Src.ofSlice _ bytTy.slice _ 3 3 _ rfl (World.news_of_block (heap_alloc_new w2 _)) (by simp [bytesV, Value.oneCell'])) (by unfold maxLen; omega) (by omega) ?_; intro v3 w3 hs3 hu3; have HS3 := Lib.hid (show BSlab w3 v3 (L ++ [1, 2, 3]) by unfold BSlab; rw [bytesV_append, List.length_append]; exact hs3); have HB3 := Lib.hid (HB2.out.trans (((Below.refl w2.heap.size w2).alloc (Nat.le_refl _) _ |>.mono HB2.out.size).trans (hu3.below (by have := HB2.out.size; simp; omega) HN2.out))); obtain ⟨A3, cap3, hv3, hc3, hm3, _⟩ := Slab.form hs3; subst hv3; have HUN := Lib.hid (show Calls Tryd.prog 15 #[.slice A3 (L.length + 3) cap3] w3 (fun e w' => e = .returned (.tuple #[.agg #[.int .u32 (id : Int), .int .u32 (to : Int), .int .i64 kind, .string body, .bool true], .int .i64 (L.length : Int), .int .i64 0]) ∧ Below w3.heap.size w3 w') from by have h := unpack_c A3 cap3 (L ++ [1, 2, 3]) (by rw [List.length_append]; simp; omega) (by rw [List.length_append]; exact hc3) w3 HS3.out.inn; rw [HUL.out, List.length_append] at h; exact h); clear hs3 hu3)
            | (go_at_call 15; (with_reducible refine HUN.out.mono ?_); rintro e w4 ⟨rfl, hb4⟩; have HB4 := Lib.hid (HB3.out.trans (hb4.mono HB3.out.size)); have hm4 : w4.heap[w.heap.size]? = _ := (HB4.out.block w.heap.size hsz1).trans HM0.out; have hsz4 : w.heap.size < w4.heap.size := Nat.lt_of_lt_of_le hsz1 HB4.out.size; obtain ⟨⟨b0, b1, b2, b3, b4⟩, _⟩ := cellsOf5 hm4; clear hb4 hm4)
            | (at_builtin; refine wpList_slab bytTy 28 (by rfl) _ _ (by rfl) (.slice (some ⟨w4.heap.size + 1, 0, none⟩) 0 0) 0 [] (by rfl) (slab_lit (w4.alloc (.cells #[.int .u32 (id : Int), .int .u32 (to : Int), .int .i64 kind, .string body, .bool true] 27)) _ (by simp)) (.slice A L.length cap) (by rfl) L.length (bytesV L) (src_bslab (Slab.below HS1.out ((HB4.out.alloc HB4.out.size _).alloc (by have := HB4.out.size; simp; omega) _))) (by unfold maxLen; omega) (by omega) ?_; intro v5 w5 hs5 hu5; rw [Nat.zero_add, List.nil_append] at hs5; have HS5 := Lib.hid (show BSlab w5 v5 L from hs5); have HB5 := Lib.hid (show Below w.heap.size w w5 from (((HB1.out.trans (HB4.out.mono HB1.out.size)).alloc (Nat.le_of_lt hsz4) _).alloc (by simp; omega) _).trans (hu5.below (by simp; omega) (fun g hg => by have h1 : w4.heap.size + 1 = g := Option.some.inj hg; omega))); have HO5 := Lib.hid (show ∀ g, v5.ownBlock = some g → w.heap.size ≤ g from fun g hg => hu5.own.elim (fun e => by have h1 : w4.heap.size + 1 = g := Option.some.inj (e.symm.trans hg); omega) (fun ⟨q, e, hq⟩ => by rw [e] at hg; have h1 : q = g := Option.some.inj hg; simp at hq; omega)); obtain ⟨A5, cap5, hv5, hc5, hm5, hF5⟩ := Slab.form hs5; have HC5 := Lib.hid hc5; obtain ⟨G5, o5, rfl, hr5, hth5⟩ : ∃ G5 o5, A5 = some ⟨G5, o5, none⟩ ∧ w5.rangeAt G5 o5 (bytesV L) ∧ w5.there G5 o5 (cap5 * 1) := (by rcases hF5 with ⟨_, h0, _⟩ | ⟨g, off, h1, _, _, h2, h3⟩; omega; exact ⟨g, off, h1, h2, h3⟩); have d5 : w5.cell? ⟨G5, o5 + j, none⟩ = some (.int .u8 ((L[j]'hjl).toNat : Int)) := range_byte hr5 j hjl; have e5 : w5.frozen? ⟨G5, o5 + j, none⟩ = false := (hth5 j (by omega)).2; subst hv5; clear hs5 hu5 hF5 hr5 hth5)
            | (go_at_call 15; refine (HU2.out G5 o5 cap5 HC5.out w5 HS5.out).mono ?_; rintro e w6 ⟨rfl, hb6⟩; have HB6 := Lib.hid ((HB5.out.setCell (p := ⟨G5, o5 + j, none⟩) (HO5.out G5 rfl) (.int .u8 (X.toNat : Int))).trans (hb6.mono (by have := HB5.out.size; simpa using this))); clear hb6)
            | (go_at_call 12; refine (HL.out _ (HB6.out.alloc HB6.out.size _)).mono ?_; rintro e w' ⟨rfl, hb⟩))
          go_ret
          exact ⟨rfl, hb⟩
    · have hEb : ((packE ⟨id, to, kind, body, sum⟩ : Int) != 0) = true := by rw [bne_iff_ne]; omega
      have HPL := Lib.hid (show packL ⟨id, to, kind, body, sum⟩ = [] from if_neg hE)
      clear hE
      go_enter Tryd.func5, Tryd.ntmps5
      go_wp2_with fail
      refine (HPK'.out _).mono ?_; rintro e w1 ⟨v, rfl, hs, hb, hn⟩
      rw [HPL.out] at hs
      obtain ⟨A, cap, rfl, _, _, _⟩ := hs.bytes
      have HB1 := Lib.hid (HB0.out.trans (hb.mono (by simp)))
      clear hs hb hn
      go_wp2_with (first
        | (go_at_call 11; refine (num_c _ _).mono ?_; rintro e w' ⟨rfl, rfl⟩)
        | (go_at_call 12; refine (HL.out _ HB1.out).mono ?_; rintro e w' ⟨rfl, hb⟩))
      go_ret
      exact ⟨rfl, hb⟩
end Go.Proofs.YtkpickojeghppaaDoor
