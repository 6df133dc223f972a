/- The walk of the law WireMessages. Conditions: what lies in the package-level variables. -/
import Derived.Test.YtkpickojeghppaaDoorWsame
import Derived.Test.YtkpickojeghppaaDoorWback
namespace Go.Proofs.YtkpickojeghppaaDoor
open Go.RowKit
theorem refUnpack_c (A : Option Addr) (cap : Nat) (l : List UInt8) (hl : l.length ≤ 1099511627776) (hc : l.length ≤ cap) (w : World) (h : BytesIn w A l) :
    Calls Tryd.prog 16 #[.slice A l.length cap] w (UnPost (unpack l) w) := by
  rcases Nat.eq_zero_or_pos l.length with h0 | h0
  · obtain rfl : l = [] := List.eq_nil_of_length_eq_zero h0
    exact refUnpack_none A cap w
  · rcases h with h | ⟨G, o, rfl, hr⟩
    · rw [h] at h0; simp at h0
    · exact refUnpack_some G o cap l h0 hl hc w hr
theorem BytesIn.left {w : World} {A : Option Addr} {a b : List UInt8} (h : BytesIn w A (a ++ b)) : BytesIn w A a := by
  rcases h with h | ⟨G, o, rfl, hr⟩
  · exact .inl (List.append_eq_nil_iff.1 h).1
  · refine .inr ⟨G, o, rfl, ?_⟩
    rw [bytesV_append] at hr
    exact rangeAt_left hr
theorem copied {w w1 w2 : World} {g : Nat} (hg : g = w.heap.size) (hb : Below w.heap.size w w1) (hlt : g < w1.heap.size) {v2 : Value} (hu : Upd w1 w2 (some g) v2.ownBlock) : Below w.heap.size w w2 ∧ ∀ q, v2.ownBlock = some q → w.heap.size ≤ q := by
  refine ⟨hb.trans (hu.below hb.size (fun q hq => by have h1 : g = q := Option.some.inj hq; omega)), fun q hq => ?_⟩
  rcases hu.own with e | ⟨r, e, hr⟩
  · have h1 : g = q := Option.some.inj (e.symm.trans hq); omega
  · rw [e] at hq
    have h1 : r = q := Option.some.inj hq
    have := hb.size
    omega
theorem grown {w w1 w2 : World} (hb : Below w.heap.size w w1) {v1 v2 : Value} (hn : ∀ q, v1.ownBlock = some q → w.heap.size ≤ q) (hu : Upd w1 w2 v1.ownBlock v2.ownBlock) : Below w.heap.size w w2 ∧ ∀ q, v2.ownBlock = some q → w.heap.size ≤ q := by
  refine ⟨hb.trans (hu.below hb.size hn), fun q hq => ?_⟩
  rcases hu.own with e | ⟨r, e, hr⟩
  · exact hn q (e.symm.trans hq)
  · rw [e] at hq
    have h1 : r = q := Option.some.inj hq
    have := hb.size
    omega
theorem same_nine (A B : Option Addr) (bl : List UInt8) (c d : Nat) (w : World) (ha : BytesIn w A (bl ++ [9, 9])) (hb : BytesIn w B (bl ++ [9, 9])) :
    Calls Tryd.prog 17 #[.slice A (bl.length + 2) c, .slice B (bl.length + 2) d] w fun e w' => e = .returned (.bool true) ∧ w = w' := by
  have h := same_c A B (bl ++ [9, 9]) (bl ++ [9, 9]) c d w ha hb
  rw [show (bl ++ [9, 9] == bl ++ [9, 9]) = true by simp, List.length_append] at h
  exact h
/-- what holds ahead of the loops -/
structure MsgAt (w w9 : World) (A1 A2 A3 : Option Addr) (c1 c2 c3 : Nat) (L : List UInt8) : Prop where
  p : BSlab w9 (.slice A1 L.length c1) L
  q : BSlab w9 (.slice A2 L.length c2) L
  r : BSlab w9 (.slice A3 L.length c3) L
  pN : ∀ g, (Value.slice A1 L.length c1).ownBlock = some g → w.heap.size ≤ g ∧ (Value.slice A2 L.length c2).ownBlock ≠ some g ∧ (Value.slice A3 L.length c3).ownBlock ≠ some g
  bl : Below w.heap.size w w9
theorem wpList_slab_g {P : Program} {S E : TypeId} {z : Value} {size bytes : Nat} {w : World} {ops : Array Oper} {rest : List Oper} {o : Oper} {a : Act} {Q : Exit → Act → World → Prop} (ty : SlTy P S E z size bytes) (tx : TypeId) (hw : Region.wanted o (yielded ops a.tmps) = true) (s y : Operand)
    (ho : o.op = .call { callee := .builtin .append, args := #[s, y], argTypes := #[S, tx] })
    (v : Value) (n : Nat) (xs : List Value) (hv : a.eval s = v) (hown : Slab w size v n xs) (x : Value) (hx : a.eval y = x) (m : Nat) (news : List Value) (hs : Src P size tx x m news w)
    (h63 : n + m ≤ maxLen) (hbytes : (n + m) * bytes ≤ 140737488355328)
    (h : ∀ v' w', Slab w' size v' (n + m) (xs ++ news) → Upd w w' v.ownBlock v'.ownBlock → wpList P ops Q rest (a.put o.dst v') w') : wpList P ops Q (o :: rest) a w := by
  rw [wpList, if_pos hw]
  exact .inl (wp_slab ty tx s y ho v n xs hv hown x hx m news hs h63 hbytes h)
theorem src_bytes {w : World} {A : Option Addr} {n cap : Nat} {l : List UInt8} (h : BytesIn w A l) (hn : n = l.length) : Src Tryd.prog 1 28 (.slice A n cap) l.length (bytesV l) w := by
  subst hn
  rcases h with rfl | ⟨G, o, rfl, hr⟩
  · cases A with
    | none => exact Src.ofNil w bytTy.slice cap
    | some a => exact Src.ofSlice w bytTy.slice a 0 cap [] rfl (fun j u hj => by simp at hj) (fun u hu => by simp at hu)
  · exact Src.ofSlice w bytTy.slice _ _ _ _ (by simp [bytesV]) (fun j u hj => by rw [Addr.add_mid]; exact hr j u hj) (fun u hu => by
      simp only [bytesV, List.mem_map] at hu
      obtain ⟨c, _, rfl⟩ := hu
      rfl)
set_option maxRecDepth 20000 in
set_option maxHeartbeats 8000000 in
theorem wireMessages_c (m : WMsg) (hm : MsgIn m) (Ab : Option Addr) (bl : List UInt8) (bc : Nat) (hbc : bl.length ≤ bc) (hbm : bc ≤ maxLen) (w : World) (hB : BytesIn w Ab bl) (hT : WTabs w) :
    Calls Tryd.prog 4 #[.agg (msgV m).toArray, .slice Ab bl.length bc] w fun r w' => r = .returned (.bool true) ∧ Below w.heap.size w w' := by
  have HL := Lib.hid (fun (W : World) (hb : Below w.heap.size w W) => (live_c W (hT.below hb)).mono (R' := fun e w' => e = .returned (.bool true) ∧ Below w.heap.size w w') (fun e w' ⟨he, h⟩ => ⟨he, hb.trans (h.mono hb.size)⟩))
  obtain ⟨id, to, kind, body, sum⟩ := m
  have hbs := hm.2.2.2.2
  simp only at hbs
  show Calls Tryd.prog 4 #[.agg #[.int .u32 (id : Int), .int .u32 (to : Int), .int .i64 kind, .string body, .bool sum], .slice Ab bl.length bc] w _
  have HB0 := Lib.hid (show Below w.heap.size w (w.alloc (.cells #[.int .u32 (id : Int), .int .u32 (to : Int), .int .i64 kind, .string body, .bool sum] 27)) from (Below.refl _ _).alloc (Nat.le_refl _) _)
  have HBY := Lib.hid hB
  have hbm2 : bl.length ≤ 9223372036854775807 := by unfold maxLen at hbm; omega
  clear hT hB hbm
  by_cases hlong : 2000000 < body.size
  · clear hm
    go_enter Tryd.func4, Tryd.ntmps4
    go_wp2
    go_ret
    exact ⟨rfl, HB0.out⟩
  have hbl : body.size ≤ 2000000 := by omega
  by_cases hlong2 : 2000000 < bl.length
  · clear hm
    go_enter Tryd.func4, Tryd.ntmps4
    go_wp2
    go_ret
    exact ⟨rfl, HB0.out⟩
  have hbl2 : bl.length ≤ 2000000 := by omega
  have HM := Lib.hid (hm.ok (by show body.size ≤ _; omega))
  have HPK := Lib.hid (fun (W : World) => show Calls Tryd.prog 13 #[.agg #[.int .u32 (id : Int), .int .u32 (to : Int), .int .i64 kind, .string body, .bool sum]] W (PackPost ⟨id, to, kind, body, sum⟩ W) from pack_c ⟨id, to, kind, body, sum⟩ HM.out W)
  have HRP := Lib.hid (fun (W : World) => show Calls Tryd.prog 14 #[.agg #[.int .u32 (id : Int), .int .u32 (to : Int), .int .i64 kind, .string body, .bool sum]] W (PackPost ⟨id, to, kind, body, sum⟩ W) from refPack_c ⟨id, to, kind, body, sum⟩ HM.out W)
  have hpl := packL_len ⟨id, to, kind, body, sum⟩
  obtain ⟨L, hL⟩ : ∃ L, packL ⟨id, to, kind, body, sum⟩ = L := ⟨_, rfl⟩
  obtain ⟨pe, hpe⟩ : ∃ pe, packE ⟨id, to, kind, body, sum⟩ = pe := ⟨_, rfl⟩
  rw [hL] at hpl
  have HLE := Lib.hid (And.intro hL hpe)
  obtain ⟨r, hr⟩ : ∃ r, unpack bl = r := ⟨_, rfl⟩
  obtain ⟨⟨xid, xto, xkind, xbody, xsum⟩, hrm⟩ : ∃ x, r.msg = x := ⟨_, rfl⟩
  obtain ⟨xn, hrn⟩ : ∃ x, r.len = x := ⟨_, rfl⟩
  obtain ⟨xe, hre⟩ : ∃ x, r.err = x := ⟨_, rfl⟩
  have HU := Lib.hid (fun (A : Option Addr) (cap : Nat) (hc : bl.length ≤ cap) (W : World) (h : BytesIn W A bl) => show Calls Tryd.prog 15 #[.slice A bl.length cap] W (fun e w' => e = .returned (.tuple #[.agg #[.int .u32 (xid : Int), .int .u32 (xto : Int), .int .i64 xkind, .string xbody, .bool xsum], .int .i64 (xn : Int), .int .i64 (xe : Int)]) ∧ Below W.heap.size W w') from by
    have h := unpack_c A cap bl (by omega) hc W h
    unfold UnPost at h
    rw [hr, hrm, hrn, hre] at h
    exact h)
  have HRU := Lib.hid (fun (A : Option Addr) (cap : Nat) (hc : bl.length ≤ cap) (W : World) (h : BytesIn W A bl) => show Calls Tryd.prog 16 #[.slice A bl.length cap] W (fun e w' => e = .returned (.tuple #[.agg #[.int .u32 (xid : Int), .int .u32 (xto : Int), .int .i64 xkind, .string xbody, .bool xsum], .int .i64 (xn : Int), .int .i64 (xe : Int)]) ∧ Below W.heap.size W w') from by
    have h := refUnpack_c A cap bl (by omega) hc W h
    unfold UnPost at h
    rw [hr, hrm, hrn, hre] at h
    exact h)
  clear hm hbs hL hpe hr hrm hrn hre
  go_enter Tryd.func4, Tryd.ntmps4
  go_wp2_with fail
  refine (HPK.out _).mono ?_; rintro e w1 ⟨v1, rfl, hs1, hb1, hn1⟩
  rw [HLE.out.1] at hs1
  rw [HLE.out.2]
  obtain ⟨A1, c1, rfl, _, _, _⟩ := hs1.bytes
  have HS1 := Lib.hid hs1
  have HN1 := Lib.hid hn1
  have HB1 := Lib.hid (HB0.out.trans (hb1.mono (by simp)))
  have hm1 : w1.heap[w.heap.size]? = some (.cells #[.int .u32 (id : Int), .int .u32 (to : Int), .int .i64 kind, .string body, .bool sum] 27 (0, 0)) := (hb1.block w.heap.size (by simp)).trans (heap_alloc_new w _)
  have HM1 := Lib.hid hm1
  have hz1 : w.heap.size < w1.heap.size := by have := hb1.size; simp at this; omega
  obtain ⟨⟨b0, b1, b2, b3, b4⟩, _⟩ := cellsOf5 hm1
  clear hs1 hn1 hb1 hm1
  go_wp2_with fail
  refine (HPK.out _).mono ?_; rintro e w2 ⟨v2, rfl, hs2, hb2, hn2⟩
  rw [HLE.out.1] at hs2
  rw [HLE.out.2]
  obtain ⟨A2, c2, rfl, _, _, _⟩ := hs2.bytes
  have HS2 := Lib.hid hs2
  have HN2 := Lib.hid hn2
  have HB2 := Lib.hid hb2
  have hm2 := (hb2.block w.heap.size hz1).trans HM1.out
  have hz2 : w.heap.size < w2.heap.size := by have := hb2.size; omega
  have HM2 := Lib.hid hm2
  clear b0 b1 b2 b3 b4
  obtain ⟨⟨b0, b1, b2, b3, b4⟩, _⟩ := cellsOf5 hm2
  clear hs2 hn2 hb2 hm2
  go_wp2_with fail
  refine (HRP.out _).mono ?_; rintro e w3 ⟨v3, rfl, hs3, hb3, hn3⟩
  rw [HLE.out.1] at hs3
  rw [HLE.out.2]
  obtain ⟨A3, c3, rfl, _, _, _⟩ := hs3.bytes
  have HS3 := Lib.hid hs3
  have HN3 := Lib.hid hn3
  have HB3 := Lib.hid hb3
  clear b0 b1 b2 b3 b4 hs3 hn3 hb3
  have HBW3 := Lib.hid (HB1.out.trans ((HB2.out.trans (HB3.out.mono HB2.out.size)).mono HB1.out.size))
  have HP3 := Lib.hid (show MsgAt w w3 A1 A2 A3 c1 c2 c3 L from
    ⟨Slab.below HS1.out (HB2.out.trans (HB3.out.mono HB2.out.size)), Slab.below HS2.out HB3.out, HS3.out,
     fun g hg => ⟨by have := HN1.out g hg; simp at this; omega, fun e => by have := Slab.lt HS1.out hg; have := HN2.out g e; omega, fun e => by have := Slab.lt HS1.out hg; have := HN3.out g e; have := HB2.out.size; omega⟩, HBW3.out⟩)
  clear HS1 HN1 HB1 HM1 HS2 HN2 HB2 HM2 HS3 HN3 HB3
  go_wp2_with (first
    | (at_builtin; refine wpList_slab bytTy 28 (by rfl) _ _ (by rfl) (.slice (some ⟨w3.heap.size, 0, none⟩) 0 0) 0 [] (by rfl) (slab_lit w3 _ rfl) (.slice Ab bl.length bc) (by rfl) bl.length (bytesV bl) (src_bytes (BytesIn.below HBY.out (HBW3.out.alloc HBW3.out.size _)) rfl) (by unfold maxLen; omega) (by omega) ?_; intro v4 w4 hs4 hu4; rw [Nat.zero_add, List.nil_append] at hs4; obtain ⟨hb4, hn4⟩ := copied (w := w3) rfl ((Below.refl _ _).alloc (Nat.le_refl _) _) (by simp) hu4; have HB4 := Lib.hid hb4; have HN4 := Lib.hid hn4; have HS4 := Lib.hid (show BSlab w4 v4 bl from hs4); obtain ⟨A4, c4, hv4, hc4, hm4, _⟩ := Slab.form hs4; subst hv4; clear hs4 hu4 hb4 hn4)
    | (at_builtin; refine wpList_slab bytTy 28 (by rfl) _ _ (by rfl) (.slice A4 bl.length c4) bl.length (bytesV bl) (by rfl) (Slab.below HS4.out ((Below.refl _ _).alloc (Nat.le_refl _) _)) (.slice (some ⟨w4.heap.size, 0, none⟩) 2 2) (by rfl) 2 (bytesV [9, 9]) (Src.ofSlice _ bytTy.slice _ 2 2 _ rfl (World.news_of_block (heap_alloc_new w4 _)) (by simp [bytesV, Value.oneCell'])) (by unfold maxLen; omega) (by omega) ?_; intro v5 w5 hs5 hu5; have HS5 := Lib.hid (show BSlab w5 v5 (bl ++ [9, 9]) by unfold BSlab; rw [bytesV_append, List.length_append]; exact hs5); obtain ⟨hb5, hn5⟩ := grown (w := w3) (HB4.out.alloc HB4.out.size _) HN4.out hu5; have HB5 := Lib.hid hb5; obtain ⟨A5, c5, hv5, hc5, hm5, _⟩ := Slab.form hs5; subst hv5; clear hs5 hu5 hb5 hn5))
  refine (HU.out A5 c5 (by omega) w5 (BytesIn.left HS5.out.inn)).mono ?_; rintro e w6 ⟨rfl, hb6⟩
  have HB6 := Lib.hid (HB5.out.trans (hb6.mono HB5.out.size))
  have HS6 := Lib.hid (show BSlab w6 (.slice A5 (bl.length + 2) c5) (bl ++ [9, 9]) from Slab.below HS5.out hb6)
  clear hb6
  go_wp2_with fail
  have hb6a : Below w3.heap.size w3 (w6.alloc (.cells #[.int .u32 (xid : Int), .int .u32 (xto : Int), .int .i64 xkind, .string xbody, .bool xsum] 27)) := HB6.out.alloc HB6.out.size _
  have HB6A := Lib.hid hb6a
  have HX6 := Lib.hid (heap_alloc_new w6 (.cells #[.int .u32 (xid : Int), .int .u32 (xto : Int), .int .i64 xkind, .string xbody, .bool xsum] 27))
  have hz6 : w6.heap.size < (w6.alloc (.cells #[.int .u32 (xid : Int), .int .u32 (xto : Int), .int .i64 xkind, .string xbody, .bool xsum] 27)).heap.size := by simp
  have HS6A := Lib.hid (show BSlab (w6.alloc (.cells #[.int .u32 (xid : Int), .int .u32 (xto : Int), .int .i64 xkind, .string xbody, .bool xsum] 27)) (.slice A5 (bl.length + 2) c5) (bl ++ [9, 9]) from Slab.below HS6.out ((Below.refl _ _).alloc (Nat.le_refl _) _))
  clear hb6a
  generalize w6.alloc (.cells #[.int .u32 (xid : Int), .int .u32 (xto : Int), .int .i64 xkind, .string xbody, .bool xsum] 27) = W6 at *
  generalize w6.heap.size = X at *
  refine (HRU.out Ab bc hbc W6 (BytesIn.below HBY.out (HBW3.out.trans (HB6A.out.mono HBW3.out.size)))).mono ?_; rintro e w7 ⟨rfl, hb7⟩
  have HB7 := Lib.hid (HB6A.out.trans (hb7.mono HB6A.out.size))
  have HS7 := Lib.hid (show BSlab w7 (.slice A5 (bl.length + 2) c5) (bl ++ [9, 9]) from Slab.below HS6A.out hb7)
  have HX7 := Lib.hid ((hb7.block X hz6).trans HX6.out)
  have hz7 : X < w7.heap.size := Nat.lt_of_lt_of_le hz6 hb7.size
  clear hb7 HB4 HN4 HS4 HB5 HS5 HB6 HS6 HB6A HX6 HS6A hz6
  obtain ⟨⟨x0, x1, x2, x3, x4⟩, _⟩ := cellsOf5 HX7.out
  have hee : ((xe : Int) != (xe : Int)) = false := by simp
  have hpp : ((pe : Int) != (pe : Int)) = false := by simp
  have hnn : ((xn : Int) != (xn : Int)) = false := by simp
  go_wp2_with (go_at_call 11; refine (num_c _ _).mono ?_; rintro e w' ⟨rfl, rfl⟩)
  clear x0 x1 x2 x3 x4
  have hb8 : Below w7.heap.size w7 (w7.alloc (.cells #[.int .u32 (xid : Int), .int .u32 (xto : Int), .int .i64 xkind, .string xbody, .bool xsum] 27)) := (Below.refl _ _).alloc (Nat.le_refl _) _
  have HB8 := Lib.hid (HB7.out.trans (hb8.mono HB7.out.size))
  have HS8 := Lib.hid (show BSlab (w7.alloc (.cells #[.int .u32 (xid : Int), .int .u32 (xto : Int), .int .i64 xkind, .string xbody, .bool xsum] 27)) (.slice A5 (bl.length + 2) c5) (bl ++ [9, 9]) from Slab.below HS7.out hb8)
  have hx8 := (hb8.block X hz7).trans HX7.out
  have hy8 := heap_alloc_new w7 (.cells #[.int .u32 (xid : Int), .int .u32 (xto : Int), .int .i64 xkind, .string xbody, .bool xsum] 27)
  have hzy : w7.heap.size < (w7.alloc (.cells #[.int .u32 (xid : Int), .int .u32 (xto : Int), .int .i64 xkind, .string xbody, .bool xsum] 27)).heap.size := by simp
  have hzx : X < (w7.alloc (.cells #[.int .u32 (xid : Int), .int .u32 (xto : Int), .int .i64 xkind, .string xbody, .bool xsum] 27)).heap.size := by simp; omega
  clear HB7 HS7 HX7 hz7 hb8
  generalize w7.alloc (.cells #[.int .u32 (xid : Int), .int .u32 (xto : Int), .int .i64 xkind, .string xbody, .bool xsum] 27) = W8 at *
  generalize w7.heap.size = Y at *
  have HP8 := Lib.hid (show MsgAt w W8 A1 A2 A3 c1 c2 c3 L from ⟨Slab.below HP3.out.p HB8.out, Slab.below HP3.out.q HB8.out, Slab.below HP3.out.r HB8.out, HP3.out.pN, HP3.out.bl.trans (HB8.out.mono HP3.out.bl.size)⟩)
  have HBY8 := Lib.hid (BytesIn.below HBY.out HP8.out.bl)
  obtain ⟨⟨x0, x1, x2, x3, x4⟩, _⟩ := cellsOf5 hx8
  obtain ⟨⟨y0, y1, y2, y3, y4⟩, _⟩ := cellsOf5 hy8
  have hs13 : Calls Tryd.prog 17 #[.slice A1 L.length c1, .slice A3 L.length c3] W8 fun e w' => e = .returned (.bool true) ∧ W8 = w' := by
    have h := same_c A1 A3 L L c1 c3 W8 HP8.out.p.inn HP8.out.r.inn
    rwa [show (L == L) = true by simp] at h
  have hs23 : Calls Tryd.prog 17 #[.slice A2 L.length c2, .slice A3 L.length c3] W8 fun e w' => e = .returned (.bool true) ∧ W8 = w' := by
    have h := same_c A2 A3 L L c2 c3 W8 HP8.out.q.inn HP8.out.r.inn
    rwa [show (L == L) = true by simp] at h
  have HS13 := Lib.hid hs13
  have HS23 := Lib.hid hs23
  have HSU := Lib.hid (sum_c A5 c5 bl (by unfold maxLen; omega) W8 (BytesIn.left HS8.out.inn))
  have HRS := Lib.hid (refSum_c Ab bc bl (by unfold maxLen; omega) W8 HBY8.out)
  have hcc : ((crc bl : Int) != (crc bl : Int)) = false := by simp
  clear hs13 hs23 hx8 hy8 HP3 HBW3 HBY
  generalize crc bl = cs at *
  generalize w3.heap.size = N3 at *
  go_wp2_with (first
    | (go_at_call 11; refine (num_c _ _).mono ?_; rintro e w' ⟨rfl, rfl⟩)
    | (go_at_call 17; (with_reducible refine HS13.out.mono ?_); rintro e w' ⟨rfl, rfl⟩)
    | (go_at_call 17; (with_reducible refine HS23.out.mono ?_); rintro e w' ⟨rfl, rfl⟩)
    | (go_at_call 18; refine HSU.out.mono ?_; rintro e w' ⟨rfl, hw⟩; obtain rfl : W8 = w' := hw.symm)
    | (go_at_call 19; refine HRS.out.mono ?_; rintro e w' ⟨rfl, hw⟩; obtain rfl : W8 = w' := hw.symm)
    | (at_builtin; refine wpList_slab_g bytTy 28 (by rfl) _ _ (by rfl) (.slice (some ⟨W8.heap.size, 0, none⟩) 0 0) 0 [] (by rfl) (slab_lit W8 _ rfl) (.slice Ab bl.length bc) (by rfl) bl.length (bytesV bl) (src_bytes (BytesIn.below HBY8.out ((Below.refl _ _).alloc (Nat.le_refl _) _)) rfl) (by unfold maxLen; omega) (by omega) ?_; intro v9 w9 hs9 hu9; rw [Nat.zero_add, List.nil_append] at hs9; obtain ⟨hb9, hn9⟩ := copied (w := W8) rfl ((Below.refl _ _).alloc (Nat.le_refl _) _) (by simp) hu9; have HB9 := Lib.hid hb9; have HN9 := Lib.hid hn9; have HS9 := Lib.hid (show BSlab w9 v9 bl from hs9); obtain ⟨A9, c9, hv9, hc9, hm9, _⟩ := Slab.form hs9; subst hv9; clear hs9 hu9 hb9 hn9)
    | (at_builtin; refine wpList_slab_g bytTy 28 (by rfl) _ _ (by rfl) (.slice A9 bl.length c9) bl.length (bytesV bl) (by rfl) (Slab.below HS9.out ((Below.refl _ _).alloc (Nat.le_refl _) _)) (.slice (some ⟨w9.heap.size, 0, none⟩) 2 2) (by rfl) 2 (bytesV [9, 9]) (Src.ofSlice _ bytTy.slice _ 2 2 _ rfl (World.news_of_block (heap_alloc_new w9 _)) (by simp [bytesV, Value.oneCell'])) (by unfold maxLen; omega) (by omega) ?_; intro v10 w10 hs10 hu10; have HS10 := Lib.hid (show BSlab w10 v10 (bl ++ [9, 9]) by unfold BSlab; rw [bytesV_append, List.length_append]; exact hs10); obtain ⟨hb10, hn10⟩ := grown (w := W8) (HB9.out.alloc HB9.out.size _) HN9.out hu10; have HB10 := Lib.hid hb10; obtain ⟨A10, c10, hv10, hc10, hm10, _⟩ := Slab.form hs10; subst hv10; have HS510 := Lib.hid (same_nine A5 A10 bl c5 c10 w10 (BytesIn.below HS8.out.inn HB10.out) HS10.out.inn); clear hs10 hu10 hb10 hn10)
    | (go_at_call 17; (with_reducible refine HS510.out.mono ?_); rintro e w' ⟨rfl, rfl⟩))
  have HP := Lib.hid (show MsgAt w w10 A1 A2 A3 c1 c2 c3 L from ⟨Slab.below HP8.out.p HB10.out, Slab.below HP8.out.q HB10.out, Slab.below HP8.out.r HB10.out, HP8.out.pN, HP8.out.bl.trans (HB10.out.mono HP8.out.bl.size)⟩)
  clear HP8 HBY8 HS8 HB8 HS13 HS23 HSU HRS HB9 HN9 HS9 HB10 HS10 x0 x1 x2 x3 x4 y0 y1 y2 y3 y4 HU HRU HPK HRP HLE HM
  obtain ⟨S, hS⟩ : ∃ S : Nat → Prop, S = fun g => (Value.slice A1 L.length c1).ownBlock = some g := ⟨_, rfl⟩
  have HSE := Lib.hid hS
  clear hS
  go_loopw [18] (fun i wr => ∃ k : Nat, k ≤ L.length ∧ i = .int .i64 k ∧ Hid (∃ xs, Slab wr 1 (.slice A1 L.length c1) L.length xs) ∧ Hid (Turn S w10 wr)) (fun i _ => L.length - (intOf i).toNat)
  case atStart => exact ⟨0, Nat.zero_le _, rfl, Lib.hid ⟨_, HP.out.p⟩, Lib.hid (Turn.refl _ _)⟩
  case round =>
    obtain ⟨k, hk, rfl, HXS, HTU⟩ := hrel
    by_cases hlt : k < L.length
    · obtain ⟨xs, hxs⟩ := HXS.out
      obtain ⟨A', cap', hv', hcc1, hcc2, hform⟩ := hxs.form
      injection hv' with e1 e2 e3
      subst e1; subst e3
      obtain ⟨G, o, rfl, hth⟩ : ∃ G o, A1 = some ⟨G, o, none⟩ ∧ wr.there G o (c1 * 1) := by
        rcases hform with ⟨_, h0, _⟩ | ⟨g, off, h1, _, _, _, h3⟩
        · omega
        · exact ⟨g, off, h1, h3⟩
      obtain ⟨u, hu⟩ := Option.isSome_iff_exists.1 (hth k (by omega)).1
      have hfz := (hth k (by omega)).2
      have hxl : xs.length = L.length * 1 := hxs.1
      have HPUT := Lib.hid (show ∃ ys, Slab (wr.setCell ⟨G, o + k, none⟩ (.int .u8 238)) 1 (.slice (some ⟨G, o, none⟩) L.length c1) L.length ys from ⟨_, Slab.put hxs k (by omega) (.int .u8 238)⟩)
      have HT2 := Lib.hid (HTU.out.set (g := G) (.inl (by rw [HSE.out]; rfl)) (o + k) (.int .u8 238))
      clear hxs hform hth hxl
      go_wp2
      go_roundw
      case rel => exact ⟨k + 1, by omega, by go_num, HPUT, HT2⟩
      case measure => simp [intOf]; omega
    · obtain rfl : k = L.length := by omega
      go_wp2
      go_loopw [5, 19] (fun p i wq => ∃ (j : Nat) (v' : Value), j ≤ 16 ∧ i = .int .i64 j ∧ v' = p ∧ Hid (∃ xs, Slab wq 1 v' (L.length + j) xs) ∧ Hid (∀ g, v'.ownBlock = some g → S g ∨ w10.heap.size ≤ g) ∧ Hid (Turn S w10 wq)) (fun _ i _ => 16 - (intOf i).toNat)
      case atStart => exact ⟨0, _, Nat.zero_le _, rfl, rfl, HXS, Lib.hid (fun g hg => .inl (by rw [HSE.out]; exact hg)), HTU⟩
      case round =>
        obtain ⟨j, v', hj, rfl, rfl, HX2, HO2, HT2⟩ := hrel
        by_cases hjl : j < 16
        · obtain ⟨xs, hxs⟩ := HX2.out
          have HXS2 := Lib.hid hxs
          clear hxs
          go_wp2_with (at_builtin; refine wpList_slab bytTy 28 (by rfl) _ _ (by rfl) v' (L.length + j) xs (by rfl) (Slab.below HXS2.out ((Below.refl _ _).alloc (Nat.le_refl _) _)) (.slice (some ⟨wr.heap.size, 0, none⟩) 1 1) (by rfl) 1 (bytesV [221]) (Src.ofSlice _ bytTy.slice _ 1 1 _ rfl (World.news_of_block (heap_alloc_new wr _)) (by simp [bytesV, Value.oneCell'])) (by unfold maxLen; omega) (by omega) ?_; intro v2 w2 hs2 hu2; have HS2 := Lib.hid (show ∃ ys, Slab w2 1 v2 (L.length + (j + 1)) ys from ⟨_, hs2⟩); have HT3 := Lib.hid ((HT2.out.trans (Turn.of_below ((Below.refl wr.heap.size wr).alloc (Nat.le_refl _) (.cells #[.int .u8 221] 5)))).upd hu2 HO2.out); have HO3 := Lib.hid (show ∀ g, v2.ownBlock = some g → S g ∨ w10.heap.size ≤ g from fun g hg => hu2.own.elim (fun e => HO2.out g (e.symm.trans hg)) (fun ⟨q, e, hq⟩ => by rw [e] at hg; have h1 : q = g := Option.some.inj hg; have := HT2.out.size; simp at hq; right; omega)); clear hs2 hu2)
          go_roundw
          case rel => exact ⟨j + 1, v2, by omega, by go_num, rfl, HS2, HO3, HT3⟩
          case measure => simp [intOf]; omega
        · obtain rfl : j = 16 := by omega
          have HBF := Lib.hid (HP.out.bl.trans (HT2.out.below (B := w.heap.size) (fun g hg => by rw [HSE.out] at hg; exact (HP.out.pN g hg).1) HP.out.bl.size))
          have HSM := Lib.hid (show Calls Tryd.prog 17 #[.slice A2 L.length c2, .slice A3 L.length c3] wr (fun e w' => e = .returned (.bool true) ∧ wr = w') from by
            have h := same_c A2 A3 L L c2 c3 wr (BSlab.inn (Slab.turn HP.out.q HT2.out (fun g hg hs => by rw [HSE.out] at hs; exact (HP.out.pN g hs).2.1 hg))) (BSlab.inn (Slab.turn HP.out.r HT2.out (fun g hg hs => by rw [HSE.out] at hs; exact (HP.out.pN g hs).2.2 hg)))
            rwa [show (L == L) = true by simp] at h)
          go_wp2_with (first
            | (go_at_call 17; refine HSM.out.mono ?_; rintro e w' ⟨rfl, rfl⟩)
            | (go_at_call 12; refine (HL.out _ HBF.out).mono ?_; rintro e w' ⟨rfl, hb⟩))
          go_ret
          exact ⟨rfl, hb⟩
end Go.Proofs.YtkpickojeghppaaDoor
