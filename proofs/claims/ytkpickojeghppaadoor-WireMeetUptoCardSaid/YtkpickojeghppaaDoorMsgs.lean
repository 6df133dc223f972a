/- The walks of the laws WireBack and WireMessages. Conditions: what the laws name. -/
import Derived.Test.YtkpickojeghppaaDoorBase
import Derived.Test.YtkpickojeghppaaDoorLives
import Derived.Test.YtkpickojeghppaaDoorTabs
import Derived.Lib.SmallJoins
import Derived.Deep.Slices
import Derived.Deep.Fields
import Derived.ChangeSame
namespace Go.Proofs.YtkpickojeghppaaDoor
theorem head_numbs (a b c d e : Nat) (ha : a < 4294967296) (hb : b < 4294967296) (hc : c < 4294967296) (hd : d < 4294967296) (he : e < 4294967296) (t : List UInt8) :
    numb ([100, 107, 116, 49] ++ four a ++ four b ++ four c ++ four d ++ four e ++ t) 4 = a ∧ numb ([100, 107, 116, 49] ++ four a ++ four b ++ four c ++ four d ++ four e ++ t) 8 = b ∧ numb ([100, 107, 116, 49] ++ four a ++ four b ++ four c ++ four d ++ four e ++ t) 12 = c ∧
    numb ([100, 107, 116, 49] ++ four a ++ four b ++ four c ++ four d ++ four e ++ t) 16 = d ∧ numb ([100, 107, 116, 49] ++ four a ++ four b ++ four c ++ four d ++ four e ++ t) 20 = e := by
  have key : ∀ (p : List UInt8) (n k : Nat) (r : List UInt8), n < 4294967296 → p.length = k → numb (p ++ (four n ++ r)) k = n := fun p n k r hn hk => by
    have h := numb_right p (four n ++ r) 0
    rw [Nat.add_zero] at h
    rw [← hk, h, numb_four n hn r]
  refine ⟨?_, ?_, ?_, ?_, ?_⟩
  · simp only [List.append_assoc]; exact key _ _ _ _ ha rfl
  · have := key ([100, 107, 116, 49] ++ four a) b 8 (four c ++ four d ++ four e ++ t) hb rfl
    simpa only [List.append_assoc] using this
  · have := key ([100, 107, 116, 49] ++ four a ++ four b) c 12 (four d ++ four e ++ t) hc rfl
    simpa only [List.append_assoc] using this
  · have := key ([100, 107, 116, 49] ++ four a ++ four b ++ four c) d 16 (four e ++ t) hd rfl
    simpa only [List.append_assoc] using this
  · have := key ([100, 107, 116, 49] ++ four a ++ four b ++ four c ++ four d) e 20 t he rfl
    simpa only [List.append_assoc] using this
theorem packA_len (m : WMsg) : (packA m).length = 24 + m.body.size := by
  unfold packA
  simp only [List.length_append, four_len, List.length_cons, List.length_nil, Array.length_toList]
  rfl
theorem packed_len (m : WMsg) : (packed m).length = m.size := by
  unfold packed WMsg.size
  split
  · rw [List.length_append, packA_len, four_len]
  · rw [packA_len]; omega
theorem packE_zero {m : WMsg} (h : packE m = 0) : 1 ≤ m.kind ∧ m.kind ≤ 6 ∧ m.size ≤ 131072 := by
  unfold packE at h
  split at h
  · cases h
  · split at h
    · cases h
    · omega
theorem packL_zero {m : WMsg} (h : packE m = 0) : packL m = packed m := if_pos h
/-- what the whole message reads as -/
theorem whole_packed (m : WMsg) (hid : m.id < 4294967296) (hto : m.to < 4294967296) (h : packE m = 0) (r : List UInt8) : whole (packed m ++ r) m.size = .ok m m.size ∧ numb (packed m ++ r) 4 = m.size := by
  obtain ⟨h1, h2, h3⟩ := packE_zero h
  obtain ⟨tail, htail⟩ : ∃ t, packed m ++ r = [100, 107, 116, 49] ++ four m.size ++ four m.id ++ four m.to ++ four m.kind.toNat ++ four (if m.sum then 1 else 0) ++ t := by
    obtain ⟨z, hz⟩ : ∃ z, packed m = packA m ++ z := by
      unfold packed
      split
      · exact ⟨_, rfl⟩
      · exact ⟨[], by simp⟩
    rw [hz]
    unfold packA
    exact ⟨m.body.data.toList ++ (z ++ r), by simp only [List.append_assoc]⟩
  obtain ⟨n4, n8, n12, n16, n20⟩ := head_numbs m.size m.id m.to m.kind.toNat (if m.sum then 1 else 0) (by omega) hid hto (by omega) (by split <;> omega) tail
  rw [← htail] at n4 n8 n12 n16 n20
  refine ⟨?_, n4⟩
  have hA := packA_len m
  have hbody : ∀ z : List UInt8, bodyOf (packA m ++ z) 24 (24 + m.body.size) = m.body := fun z => by
    unfold bodyOf
    rw [List.take_append_of_le_length (by omega), List.take_of_length_le (by omega)]
    have : (packA m).drop 24 = m.body.data.toList := by
      unfold packA
      rw [List.drop_append_of_le_length (by simp [four]), List.drop_of_length_le (by simp [four])]
      rfl
    rw [this]
  have hk : ((m.kind.toNat : Nat) : Int) = m.kind := by omega
  unfold whole
  rw [n16, n20, n8, n12, if_neg (by omega)]
  cases hs : m.sum with
  | true =>
    have hsz : m.size = 28 + m.body.size := by unfold WMsg.size; rw [hs]; simp; omega
    have hp : packed m ++ r = packA m ++ (four (crc (packA m)) ++ r) := by unfold packed; rw [if_pos hs, List.append_assoc]
    rw [if_neg (by simp), if_pos (by simp), if_neg (by omega)]
    have e4 : m.size - 4 = 24 + m.body.size := by omega
    rw [e4]
    have ht : (packed m ++ r).take (24 + m.body.size) = packA m := by
      rw [hp, List.take_append_of_le_length (by omega), List.take_of_length_le (by omega)]
    have hn : numb (packed m ++ r) (24 + m.body.size) = crc (packA m) := by
      rw [hp, ← hA]
      have := numb_right (packA m) (four (crc (packA m)) ++ r) 0
      rw [Nat.add_zero] at this
      rw [this, numb_four _ (crc_lt _)]
    rw [ht, hn, if_neg (by simp), hp, hbody, hk]
    obtain ⟨a, b, c, d, e⟩ := m
    simp only at hs
    subst hs
    rfl
  | false =>
    have hsz : m.size = 24 + m.body.size := by unfold WMsg.size; rw [hs]; simp
    have hp : packed m ++ r = packA m ++ r := by unfold packed; rw [hs]; rfl
    rw [if_neg (by simp), if_neg (by simp), hp, hsz, hbody, hk]
    obtain ⟨a, b, c, d, e⟩ := m
    simp only at hs
    subst hs
    rfl
theorem unpack_packed (m : WMsg) (hid : m.id < 4294967296) (hto : m.to < 4294967296) (h : packE m = 0) (r : List UInt8) : unpack (packL m ++ r) = .ok m (packL m).length := by
  obtain ⟨hw, h4⟩ := whole_packed m hid hto h r
  obtain ⟨h1, h2, h3⟩ := packE_zero h
  rw [packL_zero h]
  have hl := packed_len m
  have hm : m.size = 24 + m.body.size + (if m.sum then 4 else 0) := rfl
  have htake : (packed m ++ r).take 4 = [100, 107, 116, 49] := by
    unfold packed packA
    split <;> simp [four]
  unfold unpack
  rw [htake, if_neg, if_neg, h4, if_neg (by omega), if_neg (by omega), if_neg, hw, hl]
  · rw [List.length_append]; omega
  · rw [List.length_append]; omega
  · intro hn; apply hn
    rw [List.take_of_length_le]
    rw [List.length_append]; simp; omega
theorem numb_bts {l l' : List UInt8} {k : Nat} (h : numb l k = numb l' k) : bt l k = bt l' k ∧ bt l (k + 1) = bt l' (k + 1) ∧ bt l (k + 2) = bt l' (k + 2) ∧ bt l (k + 3) = bt l' (k + 3) := by
  have := bt_lt l k
  have := bt_lt l (k + 1)
  have := bt_lt l (k + 2)
  have := bt_lt l (k + 3)
  have := bt_lt l' k
  have := bt_lt l' (k + 1)
  have := bt_lt l' (k + 2)
  have := bt_lt l' (k + 3)
  unfold numb at h
  omega
theorem bt_set_ne (l : List UInt8) (j k : Nat) (x : UInt8) (h : j ≠ k) : bt (l.set j x) k = bt l k := by
  unfold bt
  rw [List.getD_eq_getElem?_getD, List.getD_eq_getElem?_getD, List.getElem?_set_ne h]
theorem numb_set_ne (l : List UInt8) (j k : Nat) (x : UInt8) (h : j < k ∨ k + 4 ≤ j) : numb (l.set j x) k = numb l k := by
  unfold numb
  rw [bt_set_ne _ _ _ _ (by omega), bt_set_ne _ _ _ _ (by omega), bt_set_ne _ _ _ _ (by omega), bt_set_ne _ _ _ _ (by omega)]
theorem turned_p (m : WMsg) (P : List UInt8) (hp : packed m = P) (hid : m.id < 4294967296) (hto : m.to < 4294967296) (h : packE m = 0) (hsum : m.sum = true) (j : Nat) (hj : 8 ≤ j) (hjl : j < P.length) (x : UInt8) (hx : x ≠ P[j]) :
    (unpack (P.set j x)).err ≠ 0 ∨ (unpack (P.set j x)).msg.sum = false := by
  obtain ⟨hw, h4⟩ := whole_packed m hid hto h []
  rw [List.append_nil, hp] at hw h4
  obtain ⟨h1, h2, h3⟩ := packE_zero h
  have hlen := packed_len m
  rw [hp] at hlen
  have hsz : m.size = 28 + m.body.size := by unfold WMsg.size; rw [hsum]; simp; omega
  have hA := packA_len m
  have hPA : P = packA m ++ four (crc (packA m)) := by rw [← hp]; unfold packed; rw [if_pos hsum]
  have c4 : numb (P.set j x) 4 = m.size := by rw [numb_set_ne _ _ _ _ (.inr (by omega)), h4]
  have hlc : (P.set j x).length = m.size := by rw [List.length_set, hlen]
  have hn4 : numb P (m.size - 4) = crc (P.take (m.size - 4)) := by
    have e : m.size - 4 = (packA m).length := by omega
    rw [e, hPA]
    have := numb_right (packA m) (four (crc (packA m))) 0
    rw [Nat.add_zero] at this
    rw [this, List.take_append_of_le_length (Nat.le_refl _), List.take_length]
    have := numb_four (crc (packA m)) (crc_lt _) []
    rwa [List.append_nil] at this
  have hbad : crc ((P.set j x).take (m.size - 4)) ≠ numb (P.set j x) (m.size - 4) := by
    intro heq
    rcases Nat.lt_or_ge j (m.size - 4) with hlt | hge
    · rw [numb_set_ne _ _ _ _ (.inl hlt), hn4, List.take_set] at heq
      have hjt : j < (P.take (m.size - 4)).length := by rw [List.length_take]; omega
      have hd : P.take (m.size - 4) = (P.take (m.size - 4)).take j ++ (P.take (m.size - 4))[j] :: (P.take (m.size - 4)).drop (j + 1) := by
        rw [← List.drop_eq_getElem_cons hjt, List.take_append_drop]
      rw [List.set_eq_take_append_cons_drop, if_pos hjt] at heq
      rw [show crc (P.take (m.size - 4)) = crc ((P.take (m.size - 4)).take j ++ (P.take (m.size - 4))[j] :: (P.take (m.size - 4)).drop (j + 1)) by rw [← hd]] at heq
      have := crc_turned _ _ _ _ heq
      apply hx
      rw [this, List.getElem_take]
    · have ht : (P.set j x).take (m.size - 4) = P.take (m.size - 4) := List.take_set_of_le hge
      rw [ht, ← hn4] at heq
      obtain ⟨b0, b1, b2, b3⟩ := numb_bts heq
      have hset : bt (P.set j x) j = x.toNat := by unfold bt; rw [List.getD_eq_getElem?_getD, List.getElem?_set_self (by omega)]; rfl
      have hold : bt P j = (P[j]).toNat := by unfold bt; rw [List.getD_eq_getElem?_getD, List.getElem?_eq_getElem (by omega)]; rfl
      have hne : x.toNat ≠ (P[j]).toNat := fun e => hx (UInt8.toNat_inj.1 e)
      have hc : j = m.size - 4 ∨ j = m.size - 4 + 1 ∨ j = m.size - 4 + 2 ∨ j = m.size - 4 + 3 := by omega
      rcases hc with e | e | e | e
      · rw [← e] at b0; omega
      · rw [← e] at b1; omega
      · rw [← e] at b2; omega
      · rw [← e] at b3; omega
  have hpos : ∀ e : Nat, (0 < e) → (UR.bad e).err ≠ 0 := fun e he => by show e ≠ 0; omega
  unfold unpack
  split
  · exact .inl (hpos _ (by omega))
  split
  · exact .inl (hpos _ (by omega))
  rw [c4]
  split
  · exact .inl (hpos _ (by omega))
  split
  · exact .inl (hpos _ (by omega))
  split
  · exact .inl (hpos _ (by omega))
  unfold whole
  split
  · exact .inl (hpos _ (by omega))
  split
  · exact .inl (hpos _ (by omega))
  split
  · split
    · exact .inl (hpos _ (by omega))
    · exact .inl (hpos _ (by omega))
  · exact .inr rfl
/-- a byte behind the length is turned: that shows, or the message bears no sum any more -/
theorem turned (m : WMsg) (hid : m.id < 4294967296) (hto : m.to < 4294967296) (h : packE m = 0) (hsum : m.sum = true) (j : Nat) (hj : 8 ≤ j) (hjl : j < (packL m).length) (x : UInt8) (hx : x ≠ (packL m)[j]) :
    (unpack ((packL m).set j x)).err ≠ 0 ∨ (unpack ((packL m).set j x)).msg.sum = false :=
  turned_p m _ (packL_zero h).symm hid hto h hsum j hj hjl x hx
end Go.Proofs.YtkpickojeghppaaDoor
namespace Go.Proofs.YtkpickojeghppaaDoor
open Go.RowKit
theorem BSlab.inn {w : World} {A : Option Addr} {n cap : Nat} {l : List UInt8} (h : BSlab w (.slice A n cap) l) : BytesIn w A l := by
  obtain ⟨A', cap', e, _, _, hB⟩ := h.bytes
  injection e with e1 e2 e3
  rw [e1]; exact hB
theorem turned_L (m : WMsg) (L : List UInt8) (hL : packL m = L) (hid : m.id < 4294967296) (hto : m.to < 4294967296) (h : packE m = 0) (hsum : m.sum = true) (j : Nat) (hj : 8 ≤ j) (hjl : j < L.length) (x : UInt8) (hx : x ≠ L[j]) :
    (unpack (L.set j x)).err ≠ 0 ∨ (unpack (L.set j x)).msg.sum = false := by
  subst hL
  exact turned m hid hto h hsum j hj hjl x hx
theorem xor_u8 (y k : UInt8) : bits BinOp.xor IntKind.u8 (y.toNat : Int) (k.toNat : Int) = ((y ^^^ k).toNat : Int) := by
  have h1 := y.toNat_lt
  have h2 := k.toNat_lt
  have h3 : y.toNat ^^^ k.toNat < 256 := Nat.xor_lt_two_pow (n := 8) (by omega) (by omega)
  have e : bits BinOp.xor IntKind.u8 (y.toNat : Int) (k.toNat : Int) = IntKind.u8.wrap ((y.toNat % 2 ^ IntKind.u8.bits ^^^ k.toNat % 2 ^ IntKind.u8.bits : Nat) : Int) := by simp [bits]
  rw [e, show 2 ^ IntKind.u8.bits = 256 from rfl, Nat.mod_eq_of_lt h1, Nat.mod_eq_of_lt h2, UInt8.toNat_xor]
  generalize y.toNat ^^^ k.toNat = z at *
  simp [IntKind.wrap, IntKind.bits, IntKind.signed]
  omega
theorem xor_ne (y k : UInt8) (hk : k ≠ 0) : y ^^^ k ≠ y := by
  intro e
  have h := congrArg (fun z => y ^^^ z) e
  simp only [← UInt8.xor_assoc, UInt8.xor_self, UInt8.zero_xor] at h
  exact hk h
theorem two_pow (c : Nat) (h : c < 8) : (2 ^ c % 256 : Int) = ((UInt8.ofNat (2 ^ c)).toNat : Int) ∧ UInt8.ofNat (2 ^ c) ≠ 0 := by
  have : c = 0 ∨ c = 1 ∨ c = 2 ∨ c = 3 ∨ c = 4 ∨ c = 5 ∨ c = 6 ∨ c = 7 := by omega
  rcases this with rfl | rfl | rfl | rfl | rfl | rfl | rfl | rfl <;> decide
theorem slab_lit (w : World) (g : Nat) (hg : g = w.heap.size) : Slab (w.alloc (.cells #[] 5)) 1 (.slice (some ⟨g, 0, none⟩) 0 0) 0 [] := by
  subst hg
  exact ⟨rfl, .inr ⟨w.heap.size, 0, 0, rfl, Nat.le_refl _, Nat.zero_le _, by simp, (fun j v hj => by simp at hj), (fun j hj => by omega)⟩⟩
theorem unpack_set (L : List UInt8) (hl : L.length ≤ 131072) (j : Nat) (hj : j < L.length) (X : UInt8) (G o cap : Nat) (hc : L.length ≤ cap) (w : World) (hs : BSlab w (.slice (some ⟨G, o, none⟩) L.length cap) L) :
    Calls Tryd.prog 15 #[.slice (some ⟨G, o, none⟩) L.length cap] (w.setCell ⟨G, o + j, none⟩ (.int .u8 (X.toNat : Int))) (UnPost (unpack (L.set j X)) (w.setCell ⟨G, o + j, none⟩ (.int .u8 (X.toNat : Int)))) := by
  have hp := Slab.put hs j (by simpa [bytesV] using hj) (.int .u8 (X.toNat : Int))
  have e : (bytesV L).set j (.int .u8 (X.toNat : Int)) = bytesV (L.set j X) := by simp [bytesV, List.map_set]
  rw [e] at hp
  have hb : BSlab (w.setCell ⟨G, o + j, none⟩ (.int .u8 (X.toNat : Int))) (.slice (some ⟨G, o, none⟩) L.length cap) (L.set j X) := by unfold BSlab; rw [List.length_set]; exact hp
  have := unpack_c (some ⟨G, o, none⟩) cap (L.set j X) (by rw [List.length_set]; omega) (by rw [List.length_set]; exact hc) _ hb.inn
  rw [List.length_set] at this
  exact this
def MsgIn (m : WMsg) : Prop := m.id < 4294967296 ∧ m.to < 4294967296 ∧ -9223372036854775808 ≤ m.kind ∧ m.kind ≤ 9223372036854775807 ∧ m.body.size ≤ 9223372036854775807
theorem MsgIn.ok {m : WMsg} (h : MsgIn m) (hb : m.body.size ≤ 9223372036854770000) : MsgOk m := ⟨h.1, h.2.1, h.2.2.1, h.2.2.2.1, hb⟩
set_option maxRecDepth 20000 in
set_option maxHeartbeats 4000000 in
theorem wireBack_c (m : WMsg) (hm : MsgIn m) (bit : Int) (w : World) (hT : WTabs w) : Calls Tryd.prog 5 #[.agg (msgV m).toArray, .int .i64 bit] w fun r w' => r = .returned (.bool true) ∧ Below w.heap.size w w' := by
  have HT := Lib.hid hT
  have HL := Lib.hid (fun (W : World) (hb : Below w.heap.size w W) => (live_c W (hT.below hb)).mono (R' := fun e w' => e = .returned (.bool true) ∧ Below w.heap.size w w') (fun e w' ⟨he, h⟩ => ⟨he, hb.trans (h.mono hb.size)⟩))
  obtain ⟨id, to, kind, body, sum⟩ := m
  have hbs := hm.2.2.2.2
  simp only at hbs
  show Calls Tryd.prog 5 #[.agg #[.int .u32 (id : Int), .int .u32 (to : Int), .int .i64 kind, .string body, .bool sum], .int .i64 bit] w _
  have HB0 := Lib.hid (show Below w.heap.size w (w.alloc (.cells #[.int .u32 (id : Int), .int .u32 (to : Int), .int .i64 kind, .string body, .bool sum] 27)) from (Below.refl _ _).alloc (Nat.le_refl _) _)
  clear hT
  by_cases hlong : 5000 < body.size
  · clear hm
    go_enter Tryd.func5, Tryd.ntmps5
    go_wp2
    go_ret
    exact ⟨rfl, HB0.out⟩
  · have hbl : body.size ≤ 5000 := by omega
    have HM := Lib.hid (hm.ok (by show body.size ≤ _; omega))
    have HPK' := Lib.hid (fun (W : World) => show Calls Tryd.prog 13 #[.agg #[.int .u32 (id : Int), .int .u32 (to : Int), .int .i64 kind, .string body, .bool sum]] W (PackPost ⟨id, to, kind, body, sum⟩ W) from pack_c ⟨id, to, kind, body, sum⟩ HM.out W)
    clear hm hbs
    by_cases hE : packE ⟨id, to, kind, body, sum⟩ = 0
    · have HE := Lib.hid hE
      have hul := unpack_packed ⟨id, to, kind, body, sum⟩ HM.out.1 HM.out.2.1 hE [1, 2, 3]
      have hpl := packL_len ⟨id, to, kind, body, sum⟩
      obtain ⟨L, hL⟩ : ∃ L, packL ⟨id, to, kind, body, sum⟩ = L := ⟨_, rfl⟩
      rw [hL] at hul hpl
      have HTU := Lib.hid (turned_L ⟨id, to, kind, body, sum⟩ L hL HM.out.1 HM.out.2.1 hE)
      have HLE := Lib.hid hL
      have HUL := Lib.hid hul
      clear hE hul hL
      by_cases hA : bit < 64
      · have hA2 := hA
        go_enter Tryd.func5, Tryd.ntmps5
        go_wp2_with fail
        refine (HPK'.out _).mono ?_; rintro e w1 ⟨v, rfl, hs, hb, hn⟩
        rw [HE.out]
        rw [HLE.out] at hs
        obtain ⟨A, cap, rfl, hlc, hcm, hB⟩ := hs.bytes
        have HS1 := Lib.hid hs
        have HB1 := Lib.hid (HB0.out.trans (hb.mono (by simp)))
        have hm0 : w1.heap[w.heap.size]? = some (.cells #[.int .u32 (id : Int), .int .u32 (to : Int), .int .i64 kind, .string body, .bool sum] 27 (0, 0)) := (hb.block w.heap.size (by simp)).trans (heap_alloc_new w _)
        have HM0 := Lib.hid hm0
        have hsz1 : w.heap.size < w1.heap.size := by have := hb.size; simp at this; omega
        clear hs hb hn hB hm0
        go_wp2_with (first
          | (go_at_call 11; refine (num_c _ _).mono ?_; rintro e w' ⟨rfl, rfl⟩)
          | (at_builtin; refine wpList_slab bytTy 28 (by rfl) _ _ (by rfl) (.slice (some ⟨w1.heap.size, 0, none⟩) 0 0) 0 [] (by rfl) (slab_lit w1 _ rfl) (.slice A L.length cap) (by rfl) L.length (bytesV L) (src_bslab (Slab.below HS1.out ((Below.refl _ _).alloc (Nat.le_refl _) _))) (by unfold maxLen; omega) (by omega) ?_; intro v2 w2 hs2 hu2; rw [Nat.zero_add, List.nil_append] at hs2; have HB2 := Lib.hid ((Below.refl _ w1).alloc (Nat.le_refl _) _ |>.trans (hu2.below (B := w1.heap.size) (by simp) (fun g hg => Nat.le_of_eq (Option.some.inj hg)))); have HS2 := Lib.hid (show BSlab w2 v2 L from hs2); have HN2 := Lib.hid (show ∀ g, v2.ownBlock = some g → w1.heap.size ≤ g from fun g hg => hu2.own.elim (fun e => Nat.le_of_eq (Option.some.inj (e.symm.trans hg))) (fun ⟨q, e, hq⟩ => by rw [e] at hg; have := Option.some.inj hg; simp at hq; omega)); obtain ⟨A2, cap2, hv2, hc2, hm2, _⟩ := Slab.form hs2; subst hv2; clear hs2 hu2)
          | (at_builtin; refine wpList_slab bytTy 28 (by rfl) _ _ (by rfl) (.slice A2 L.length cap2) L.length (bytesV L) (by rfl) (Slab.below HS2.out ((Below.refl _ _).alloc (Nat.le_refl _) _)) (.slice (some ⟨w2.heap.size, 0, none⟩) 3 3) (by rfl) 3 (bytesV [1, 2, 3]) (Src.ofSlice _ bytTy.slice _ 3 3 _ rfl (World.news_of_block (heap_alloc_new w2 _)) (by simp [bytesV, Value.oneCell'])) (by unfold maxLen; omega) (by omega) ?_; intro v3 w3 hs3 hu3; have HS3 := Lib.hid (show BSlab w3 v3 (L ++ [1, 2, 3]) by unfold BSlab; rw [bytesV_append, List.length_append]; exact hs3); have HB3 := Lib.hid (HB2.out.trans (((Below.refl w2.heap.size w2).alloc (Nat.le_refl _) _ |>.mono HB2.out.size).trans (hu3.below (by have := HB2.out.size; simp; omega) HN2.out))); obtain ⟨A3, cap3, hv3, hc3, hm3, _⟩ := Slab.form hs3; subst hv3; have HUN := Lib.hid (show Calls Tryd.prog 15 #[.slice A3 (L.length + 3) cap3] w3 (fun e w' => e = .returned (.tuple #[.agg #[.int .u32 (id : Int), .int .u32 (to : Int), .int .i64 kind, .string body, .bool sum], .int .i64 (L.length : Int), .int .i64 0]) ∧ Below w3.heap.size w3 w') from by have h := unpack_c A3 cap3 (L ++ [1, 2, 3]) (by rw [List.length_append]; simp; omega) (by rw [List.length_append]; exact hc3) w3 HS3.out.inn; rw [HUL.out, List.length_append] at h; exact h); clear hs3 hu3)
          | (go_at_call 15; (with_reducible refine HUN.out.mono ?_); rintro e w4 ⟨rfl, hb4⟩; have HB4 := Lib.hid (HB3.out.trans (hb4.mono HB3.out.size)); have hm4 : w4.heap[w.heap.size]? = _ := (HB4.out.block w.heap.size hsz1).trans HM0.out; have hsz4 : w.heap.size < w4.heap.size := Nat.lt_of_lt_of_le hsz1 HB4.out.size; obtain ⟨⟨b0, b1, b2, b3, b4⟩, _⟩ := cellsOf5 hm4; clear hb4 hm4)
          | (go_at_call 12; refine (HL.out _ ((HB1.out.trans (HB4.out.mono HB1.out.size)).alloc (Nat.le_of_lt hsz4) _)).mono ?_; rintro e w' ⟨rfl, hb⟩))
        go_ret
        exact ⟨rfl, hb⟩
      by_cases hC : 8 * (L.length : Int) ≤ bit
      · have hC2 := hC
        go_enter Tryd.func5, Tryd.ntmps5
        go_wp2_with fail
        refine (HPK'.out _).mono ?_; rintro e w1 ⟨v, rfl, hs, hb, hn⟩
        rw [HE.out]
        rw [HLE.out] at hs
        obtain ⟨A, cap, rfl, hlc, hcm, hB⟩ := hs.bytes
        have HS1 := Lib.hid hs
        have HB1 := Lib.hid (HB0.out.trans (hb.mono (by simp)))
        have hm0 : w1.heap[w.heap.size]? = some (.cells #[.int .u32 (id : Int), .int .u32 (to : Int), .int .i64 kind, .string body, .bool sum] 27 (0, 0)) := (hb.block w.heap.size (by simp)).trans (heap_alloc_new w _)
        have HM0 := Lib.hid hm0
        have hsz1 : w.heap.size < w1.heap.size := by have := hb.size; simp at this; omega
        clear hs hb hn hB hm0
        go_wp2_with (first
          | (go_at_call 11; refine (num_c _ _).mono ?_; rintro e w' ⟨rfl, rfl⟩)
          | (at_builtin; refine wpList_slab bytTy 28 (by rfl) _ _ (by rfl) (.slice (some ⟨w1.heap.size, 0, none⟩) 0 0) 0 [] (by rfl) (slab_lit w1 _ rfl) (.slice A L.length cap) (by rfl) L.length (bytesV L) (src_bslab (Slab.below HS1.out ((Below.refl _ _).alloc (Nat.le_refl _) _))) (by unfold maxLen; omega) (by omega) ?_; intro v2 w2 hs2 hu2; rw [Nat.zero_add, List.nil_append] at hs2; have HB2 := Lib.hid ((Below.refl _ w1).alloc (Nat.le_refl _) _ |>.trans (hu2.below (B := w1.heap.size) (by simp) (fun g hg => Nat.le_of_eq (Option.some.inj hg)))); have HS2 := Lib.hid (show BSlab w2 v2 L from hs2); have HN2 := Lib.hid (show ∀ g, v2.ownBlock = some g → w1.heap.size ≤ g from fun g hg => hu2.own.elim (fun e => Nat.le_of_eq (Option.some.inj (e.symm.trans hg))) (fun ⟨q, e, hq⟩ => by rw [e] at hg; have := Option.some.inj hg; simp at hq; omega)); obtain ⟨A2, cap2, hv2, hc2, hm2, _⟩ := Slab.form hs2; subst hv2; clear hs2 hu2)
          | (at_builtin; refine wpList_slab bytTy 28 (by rfl) _ _ (by rfl) (.slice A2 L.length cap2) L.length (bytesV L) (by rfl) (Slab.below HS2.out ((Below.refl _ _).alloc (Nat.le_refl _) _)) (.slice (some ⟨w2.heap.size, 0, none⟩) 3 3) (by rfl) 3 (bytesV [1, 2, 3]) (Src.ofSlice _ bytTy.slice _ 3 3 _ rfl (World.news_of_block (heap_alloc_new w2 _)) (by simp [bytesV, Value.oneCell'])) (by unfold maxLen; omega) (by omega) ?_; intro v3 w3 hs3 hu3; have HS3 := Lib.hid (show BSlab w3 v3 (L ++ [1, 2, 3]) by unfold BSlab; rw [bytesV_append, List.length_append]; exact hs3); have HB3 := Lib.hid (HB2.out.trans (((Below.refl w2.heap.size w2).alloc (Nat.le_refl _) _ |>.mono HB2.out.size).trans (hu3.below (by have := HB2.out.size; simp; omega) HN2.out))); obtain ⟨A3, cap3, hv3, hc3, hm3, _⟩ := Slab.form hs3; subst hv3; have HUN := Lib.hid (show Calls Tryd.prog 15 #[.slice A3 (L.length + 3) cap3] w3 (fun e w' => e = .returned (.tuple #[.agg #[.int .u32 (id : Int), .int .u32 (to : Int), .int .i64 kind, .string body, .bool sum], .int .i64 (L.length : Int), .int .i64 0]) ∧ Below w3.heap.size w3 w') from by have h := unpack_c A3 cap3 (L ++ [1, 2, 3]) (by rw [List.length_append]; simp; omega) (by rw [List.length_append]; exact hc3) w3 HS3.out.inn; rw [HUL.out, List.length_append] at h; exact h); clear hs3 hu3)
          | (go_at_call 15; (with_reducible refine HUN.out.mono ?_); rintro e w4 ⟨rfl, hb4⟩; have HB4 := Lib.hid (HB3.out.trans (hb4.mono HB3.out.size)); have hm4 : w4.heap[w.heap.size]? = _ := (HB4.out.block w.heap.size hsz1).trans HM0.out; have hsz4 : w.heap.size < w4.heap.size := Nat.lt_of_lt_of_le hsz1 HB4.out.size; obtain ⟨⟨b0, b1, b2, b3, b4⟩, _⟩ := cellsOf5 hm4; clear hb4 hm4)
          | (go_at_call 12; refine (HL.out _ ((HB1.out.trans (HB4.out.mono HB1.out.size)).alloc (Nat.le_of_lt hsz4) _)).mono ?_; rintro e w' ⟨rfl, hb⟩))
        go_ret
        exact ⟨rfl, hb⟩
      cases sum with
      | false =>
        go_enter Tryd.func5, Tryd.ntmps5
        go_wp2_with fail
        refine (HPK'.out _).mono ?_; rintro e w1 ⟨v, rfl, hs, hb, hn⟩
        rw [HE.out]
        rw [HLE.out] at hs
        obtain ⟨A, cap, rfl, hlc, hcm, hB⟩ := hs.bytes
        have HS1 := Lib.hid hs
        have HB1 := Lib.hid (HB0.out.trans (hb.mono (by simp)))
        have hm0 : w1.heap[w.heap.size]? = some (.cells #[.int .u32 (id : Int), .int .u32 (to : Int), .int .i64 kind, .string body, .bool false] 27 (0, 0)) := (hb.block w.heap.size (by simp)).trans (heap_alloc_new w _)
        have HM0 := Lib.hid hm0
        have hsz1 : w.heap.size < w1.heap.size := by have := hb.size; simp at this; omega
        clear hs hb hn hB hm0
        go_wp2_with (first
          | (go_at_call 11; refine (num_c _ _).mono ?_; rintro e w' ⟨rfl, rfl⟩)
          | (at_builtin; refine wpList_slab bytTy 28 (by rfl) _ _ (by rfl) (.slice (some ⟨w1.heap.size, 0, none⟩) 0 0) 0 [] (by rfl) (slab_lit w1 _ rfl) (.slice A L.length cap) (by rfl) L.length (bytesV L) (src_bslab (Slab.below HS1.out ((Below.refl _ _).alloc (Nat.le_refl _) _))) (by unfold maxLen; omega) (by omega) ?_; intro v2 w2 hs2 hu2; rw [Nat.zero_add, List.nil_append] at hs2; have HB2 := Lib.hid ((Below.refl _ w1).alloc (Nat.le_refl _) _ |>.trans (hu2.below (B := w1.heap.size) (by simp) (fun g hg => Nat.le_of_eq (Option.some.inj hg)))); have HS2 := Lib.hid (show BSlab w2 v2 L from hs2); have HN2 := Lib.hid (show ∀ g, v2.ownBlock = some g → w1.heap.size ≤ g from fun g hg => hu2.own.elim (fun e => Nat.le_of_eq (Option.some.inj (e.symm.trans hg))) (fun ⟨q, e, hq⟩ => by rw [e] at hg; have := Option.some.inj hg; simp at hq; omega)); obtain ⟨A2, cap2, hv2, hc2, hm2, _⟩ := Slab.form hs2; subst hv2; clear hs2 hu2)
          | (at_builtin; refine wpList_slab bytTy 28 (by rfl) _ _ (by rfl) (.slice A2 L.length cap2) L.length (bytesV L) (by rfl) (Slab.below HS2.out ((Below.refl _ _).alloc (Nat.le_refl _) _)) (.slice (some ⟨w2.heap.size, 0, none⟩) 3 3) (by rfl) 3 (bytesV [1, 2, 3]) (Src.ofSlice _ bytTy.slice _ 3 3 _ rfl (World.news_of_block (heap_alloc_new w2 _)) (by simp [bytesV, Value.oneCell'])) (by unfold maxLen; omega) (by omega) ?_; intro v3 w3 hs3 hu3; have HS3 := Lib.hid (show BSlab w3 v3 (L ++ [1, 2, 3]) by unfold BSlab; rw [bytesV_append, List.length_append]; exact hs3); have HB3 := Lib.hid (HB2.out.trans (((Below.refl w2.heap.size w2).alloc (Nat.le_refl _) _ |>.mono HB2.out.size).trans (hu3.below (by have := HB2.out.size; simp; omega) HN2.out))); obtain ⟨A3, cap3, hv3, hc3, hm3, _⟩ := Slab.form hs3; subst hv3; have HUN := Lib.hid (show Calls Tryd.prog 15 #[.slice A3 (L.length + 3) cap3] w3 (fun e w' => e = .returned (.tuple #[.agg #[.int .u32 (id : Int), .int .u32 (to : Int), .int .i64 kind, .string body, .bool false], .int .i64 (L.length : Int), .int .i64 0]) ∧ Below w3.heap.size w3 w') from by have h := unpack_c A3 cap3 (L ++ [1, 2, 3]) (by rw [List.length_append]; simp; omega) (by rw [List.length_append]; exact hc3) w3 HS3.out.inn; rw [HUL.out, List.length_append] at h; exact h); clear hs3 hu3)
          | (go_at_call 15; (with_reducible refine HUN.out.mono ?_); rintro e w4 ⟨rfl, hb4⟩; have HB4 := Lib.hid (HB3.out.trans (hb4.mono HB3.out.size)); have hm4 : w4.heap[w.heap.size]? = _ := (HB4.out.block w.heap.size hsz1).trans HM0.out; have hsz4 : w.heap.size < w4.heap.size := Nat.lt_of_lt_of_le hsz1 HB4.out.size; obtain ⟨⟨b0, b1, b2, b3, b4⟩, _⟩ := cellsOf5 hm4; clear hb4 hm4)
          | (go_at_call 12; refine (HL.out _ ((HB1.out.trans (HB4.out.mono HB1.out.size)).alloc (Nat.le_of_lt hsz4) _)).mono ?_; rintro e w' ⟨rfl, hb⟩))
        go_ret
        exact ⟨rfl, hb⟩
      | true =>
        obtain ⟨B, rfl⟩ := Int.eq_ofNat_of_zero_le (show 0 ≤ bit by omega)
        have hB1 : 64 ≤ B := by omega
        have hB2 : B < 8 * L.length := by omega
        obtain ⟨j, hj⟩ : ∃ j, B / 8 = j := ⟨_, rfl⟩
        have hjl : j < L.length := by omega
        have hj8 : 8 ≤ j := by omega
        have hqi : (B : Int) / 8 = (j : Int) := by omega
        obtain ⟨c, hc⟩ : ∃ c, B % 8 = c := ⟨_, rfl⟩
        have hmi : (B : Int) % 8 = (c : Int) := by omega
        have hc0 : (0 : Int) ≤ (c : Int) := by omega
        have hc7 : (c : Int) < 8 := by omega
        have htp := two_pow c (by omega)
        obtain ⟨X, hX⟩ : ∃ X, L[j] ^^^ UInt8.ofNat (2 ^ c) = X := ⟨_, rfl⟩
        have hxor : bits BinOp.xor IntKind.u8 ((L[j]'hjl).toNat : Int) (2 ^ c % 256) = (X.toNat : Int) := by rw [htp.1, xor_u8, hX]
        have hne : X ≠ L[j] := by rw [← hX]; exact xor_ne _ _ htp.2
        have htt := HTU.out rfl j hj8 hjl X hne
        have hus := unpack_set L hpl j hjl X
        clear hj hc htp hX hne hj8
        cases hr : unpack (L.set j X) with
        | bad ee =>
          have hee := (unpack_err _ _ hr).1
          have hnb : ((ee : Int) != 0) = true := by rw [bne_iff_ne]; omega
          rw [hr] at hus
          have HU2 := Lib.hid (fun G o cap (hc : L.length ≤ cap) w hs => show Calls Tryd.prog 15 #[.slice (some ⟨G, o, none⟩) L.length cap] (w.setCell ⟨G, o + j, none⟩ (.int .u8 (X.toNat : Int))) (fun e w' => e = .returned (.tuple #[.agg #[.int .u32 0, .int .u32 0, .int .i64 0, .string ⟨#[]⟩, .bool false], .int .i64 0, .int .i64 (ee : Int)]) ∧ Below (w.setCell ⟨G, o + j, none⟩ (.int .u8 (X.toNat : Int))).heap.size (w.setCell ⟨G, o + j, none⟩ (.int .u8 (X.toNat : Int))) w') from hus G o cap hc w hs)
          clear htt hus hr
          go_enter Tryd.func5, Tryd.ntmps5
          go_wp2_with fail
          refine (HPK'.out _).mono ?_; rintro e w1 ⟨v, rfl, hs, hb, hn⟩
          rw [HE.out]
          rw [HLE.out] at hs
          obtain ⟨A, cap, rfl, hlc, hcm, hB⟩ := hs.bytes
          have HS1 := Lib.hid hs
          have HB1 := Lib.hid (HB0.out.trans (hb.mono (by simp)))
          have hm0 : w1.heap[w.heap.size]? = some (.cells #[.int .u32 (id : Int), .int .u32 (to : Int), .int .i64 kind, .string body, .bool true] 27 (0, 0)) := (hb.block w.heap.size (by simp)).trans (heap_alloc_new w _)
          have HM0 := Lib.hid hm0
          have hsz1 : w.heap.size < w1.heap.size := by have := hb.size; simp at this; omega
          clear hs hb hn hB hm0
          go_wp2_with (first
            | (go_at_call 11; refine (num_c _ _).mono ?_; rintro e w' ⟨rfl, rfl⟩)
            | (at_builtin; refine wpList_slab bytTy 28 (by rfl) _ _ (by rfl) (.slice (some ⟨w1.heap.size, 0, none⟩) 0 0) 0 [] (by rfl) (slab_lit w1 _ rfl) (.slice A L.length cap) (by rfl) L.length (bytesV L) (src_bslab (Slab.below HS1.out ((Below.refl _ _).alloc (Nat.le_refl _) _))) (by unfold maxLen; omega) (by omega) ?_; intro v2 w2 hs2 hu2; rw [Nat.zero_add, List.nil_append] at hs2; have HB2 := Lib.hid ((Below.refl _ w1).alloc (Nat.le_refl _) _ |>.trans (hu2.below (B := w1.heap.size) (by simp) (fun g hg => Nat.le_of_eq (Option.some.inj hg)))); have HS2 := Lib.hid (show BSlab w2 v2 L from hs2); have HN2 := Lib.hid (show ∀ g, v2.ownBlock = some g → w1.heap.size ≤ g from fun g hg => hu2.own.elim (fun e => Nat.le_of_eq (Option.some.inj (e.symm.trans hg))) (fun ⟨q, e, hq⟩ => by rw [e] at hg; have := Option.some.inj hg; simp at hq; omega)); obtain ⟨A2, cap2, hv2, hc2, hm2, _⟩ := Slab.form hs2; subst hv2; clear hs2 hu2)
            | (at_builtin; refine wpList_slab bytTy 28 (by rfl) _ _ (by rfl) (.slice A2 L.length cap2) L.length (bytesV L) (by rfl) (Slab.below HS2.out ((Below.refl _ _).alloc (Nat.le_refl _) _)) (.slice (some ⟨w2.heap.size, 0, none⟩) 3 3) (by rfl) 3 (bytesV [1, 2, 3]) (Src.ofSlice _ bytTy.slice _ 3 3 _ rfl (World.news_of_block (heap_alloc_new w2 _)) (by simp [bytesV, Value.oneCell'])) (by unfold maxLen; omega) (by omega) ?_; intro v3 w3 hs3 hu3; have HS3 := Lib.hid (show BSlab w3 v3 (L ++ [1, 2, 3]) by unfold BSlab; rw [bytesV_append, List.length_append]; exact hs3); have HB3 := Lib.hid (HB2.out.trans (((Below.refl w2.heap.size w2).alloc (Nat.le_refl _) _ |>.mono HB2.out.size).trans (hu3.below (by have := HB2.out.size; simp; omega) HN2.out))); obtain ⟨A3, cap3, hv3, hc3, hm3, _⟩ := Slab.form hs3; subst hv3; have HUN := Lib.hid (show Calls Tryd.prog 15 #[.slice A3 (L.length + 3) cap3] w3 (fun e w' => e = .returned (.tuple #[.agg #[.int .u32 (id : Int), .int .u32 (to : Int), .int .i64 kind, .string body, .bool true], .int .i64 (L.length : Int), .int .i64 0]) ∧ Below w3.heap.size w3 w') from by have h := unpack_c A3 cap3 (L ++ [1, 2, 3]) (by rw [List.length_append]; simp; omega) (by rw [List.length_append]; exact hc3) w3 HS3.out.inn; rw [HUL.out, List.length_append] at h; exact h); clear hs3 hu3)
            | (go_at_call 15; (with_reducible refine HUN.out.mono ?_); rintro e w4 ⟨rfl, hb4⟩; have HB4 := Lib.hid (HB3.out.trans (hb4.mono HB3.out.size)); have hm4 : w4.heap[w.heap.size]? = _ := (HB4.out.block w.heap.size hsz1).trans HM0.out; have hsz4 : w.heap.size < w4.heap.size := Nat.lt_of_lt_of_le hsz1 HB4.out.size; obtain ⟨⟨b0, b1, b2, b3, b4⟩, _⟩ := cellsOf5 hm4; clear hb4 hm4)
            | (at_builtin; refine wpList_slab bytTy 28 (by rfl) _ _ (by rfl) (.slice (some ⟨w4.heap.size + 1, 0, none⟩) 0 0) 0 [] (by rfl) (slab_lit (w4.alloc (.cells #[.int .u32 (id : Int), .int .u32 (to : Int), .int .i64 kind, .string body, .bool true] 27)) _ (by simp)) (.slice A L.length cap) (by rfl) L.length (bytesV L) (src_bslab (Slab.below HS1.out ((HB4.out.alloc HB4.out.size _).alloc (by have := HB4.out.size; simp; omega) _))) (by unfold maxLen; omega) (by omega) ?_; intro v5 w5 hs5 hu5; rw [Nat.zero_add, List.nil_append] at hs5; have HS5 := Lib.hid (show BSlab w5 v5 L from hs5); have HB5 := Lib.hid (show Below w.heap.size w w5 from (((HB1.out.trans (HB4.out.mono HB1.out.size)).alloc (Nat.le_of_lt hsz4) _).alloc (by simp; omega) _).trans (hu5.below (by simp; omega) (fun g hg => by have h1 : w4.heap.size + 1 = g := Option.some.inj hg; omega))); have HO5 := Lib.hid (show ∀ g, v5.ownBlock = some g → w.heap.size ≤ g from fun g hg => hu5.own.elim (fun e => by have h1 : w4.heap.size + 1 = g := Option.some.inj (e.symm.trans hg); omega) (fun ⟨q, e, hq⟩ => by rw [e] at hg; have h1 : q = g := Option.some.inj hg; simp at hq; omega)); obtain ⟨A5, cap5, hv5, hc5, hm5, hF5⟩ := Slab.form hs5; have HC5 := Lib.hid hc5; obtain ⟨G5, o5, rfl, hr5, hth5⟩ : ∃ G5 o5, A5 = some ⟨G5, o5, none⟩ ∧ w5.rangeAt G5 o5 (bytesV L) ∧ w5.there G5 o5 (cap5 * 1) := (by rcases hF5 with ⟨_, h0, _⟩ | ⟨g, off, h1, _, _, h2, h3⟩; omega; exact ⟨g, off, h1, h2, h3⟩); have d5 : w5.cell? ⟨G5, o5 + j, none⟩ = some (.int .u8 ((L[j]'hjl).toNat : Int)) := range_byte hr5 j hjl; have e5 : w5.frozen? ⟨G5, o5 + j, none⟩ = false := (hth5 j (by omega)).2; subst hv5; clear hs5 hu5 hF5 hr5 hth5)
            | (go_at_call 15; refine (HU2.out G5 o5 cap5 HC5.out w5 HS5.out).mono ?_; rintro e w6 ⟨rfl, hb6⟩; have HB6 := Lib.hid ((HB5.out.setCell (p := ⟨G5, o5 + j, none⟩) (HO5.out G5 rfl) (.int .u8 (X.toNat : Int))).trans (hb6.mono (by have := HB5.out.size; simpa using this))); clear hb6)
            | (go_at_call 12; refine (HL.out _ (HB6.out.alloc HB6.out.size _)).mono ?_; rintro e w' ⟨rfl, hb⟩))
          go_ret
          exact ⟨rfl, hb⟩
        | ok y n =>
          rw [hr] at hus htt
          have hys : y.sum = false := by
            rcases htt with h | h
            · exact absurd rfl h
            · exact h
          obtain ⟨yid, yto, ykind, ybody, ysum⟩ := y
          simp only at hys
          subst hys
          have HU2 := Lib.hid (fun G o cap (hc : L.length ≤ cap) w hs => show Calls Tryd.prog 15 #[.slice (some ⟨G, o, none⟩) L.length cap] (w.setCell ⟨G, o + j, none⟩ (.int .u8 (X.toNat : Int))) (fun e w' => e = .returned (.tuple #[.agg #[.int .u32 (yid : Int), .int .u32 (yto : Int), .int .i64 ykind, .string ybody, .bool false], .int .i64 (n : Int), .int .i64 0]) ∧ Below (w.setCell ⟨G, o + j, none⟩ (.int .u8 (X.toNat : Int))).heap.size (w.setCell ⟨G, o + j, none⟩ (.int .u8 (X.toNat : Int))) w') from hus G o cap hc w hs)
          clear htt hus hr
          go_enter Tryd.func5, Tryd.ntmps5
          go_wp2_with fail
          refine (HPK'.out _).mono ?_; rintro e w1 ⟨v, rfl, hs, hb, hn⟩
          rw [HE.out]
          rw [HLE.out] at hs
          obtain ⟨A, cap, rfl, hlc, hcm, hB⟩ := hs.bytes
          have HS1 := Lib.hid hs
          have HB1 := Lib.hid (HB0.out.trans (hb.mono (by simp)))
          have hm0 : w1.heap[w.heap.size]? = some (.cells #[.int .u32 (id : Int), .int .u32 (to : Int), .int .i64 kind, .string body, .bool true] 27 (0, 0)) := (hb.block w.heap.size (by simp)).trans (heap_alloc_new w _)
          have HM0 := Lib.hid hm0
          have hsz1 : w.heap.size < w1.heap.size := by have := hb.size; simp at this; omega
          clear hs hb hn hB hm0
          go_wp2_with (first
            | (go_at_call 11; refine (num_c _ _).mono ?_; rintro e w' ⟨rfl, rfl⟩)
            | (at_builtin; refine wpList_slab bytTy 28 (by rfl) _ _ (by rfl) (.slice (some ⟨w1.heap.size, 0, none⟩) 0 0) 0 [] (by rfl) (slab_lit w1 _ rfl) (.slice A L.length cap) (by rfl) L.length (bytesV L) (src_bslab (Slab.below HS1.out ((Below.refl _ _).alloc (Nat.le_refl _) _))) (by unfold maxLen; omega) (by omega) ?_; intro v2 w2 hs2 hu2; rw [Nat.zero_add, List.nil_append] at hs2; have HB2 := Lib.hid ((Below.refl _ w1).alloc (Nat.le_refl _) _ |>.trans (hu2.below (B := w1.heap.size) (by simp) (fun g hg => Nat.le_of_eq (Option.some.inj hg)))); have HS2 := Lib.hid (show BSlab w2 v2 L from hs2); have HN2 := Lib.hid (show ∀ g, v2.ownBlock = some g → w1.heap.size ≤ g from fun g hg => hu2.own.elim (fun e => Nat.le_of_eq (Option.some.inj (e.symm.trans hg))) (fun ⟨q, e, hq⟩ => by rw [e] at hg; have := Option.some.inj hg; simp at hq; omega)); obtain ⟨A2, cap2, hv2, hc2, hm2, _⟩ := Slab.form hs2; subst hv2; clear hs2 hu2)
            | (at_builtin; refine wpList_slab bytTy 28 (by rfl) _ _ (by rfl) (.slice A2 L.length cap2) L.length (bytesV L) (by rfl) (Slab.below HS2.out ((Below.refl _ _).alloc (Nat.le_refl _) _)) (.slice (some ⟨w2.heap.size, 0, none⟩) 3 3) (by rfl) 3 (bytesV [1, 2, 3]) (Src.ofSlice _ bytTy.slice _ 3 3 _ rfl (World.news_of_block (heap_alloc_new w2 _)) (by simp [bytesV, Value.oneCell'])) (by unfold maxLen; omega) (by omega) ?_; intro v3 w3 hs3 hu3; have HS3 := Lib.hid (show BSlab w3 v3 (L ++ [1, 2, 3]) by unfold BSlab; rw [bytesV_append, List.length_append]; exact hs3); have HB3 := Lib.hid (HB2.out.trans (((Below.refl w2.heap.size w2).alloc (Nat.le_refl _) _ |>.mono HB2.out.size).trans (hu3.below (by have := HB2.out.size; simp; omega) HN2.out))); obtain ⟨A3, cap3, hv3, hc3, hm3, _⟩ := Slab.form hs3; subst hv3; have HUN := Lib.hid (show Calls Tryd.prog 15 #[.slice A3 (L.length + 3) cap3] w3 (fun e w' => e = .returned (.tuple #[.agg #[.int .u32 (id : Int), .int .u32 (to : Int), .int .i64 kind, .string body, .bool true], .int .i64 (L.length : Int), .int .i64 0]) ∧ Below w3.heap.size w3 w') from by have h := unpack_c A3 cap3 (L ++ [1, 2, 3]) (by rw [List.length_append]; simp; omega) (by rw [List.length_append]; exact hc3) w3 HS3.out.inn; rw [HUL.out, List.length_append] at h; exact h); clear hs3 hu3)
            | (go_at_call 15; (with_reducible refine HUN.out.mono ?_); rintro e w4 ⟨rfl, hb4⟩; have HB4 := Lib.hid (HB3.out.trans (hb4.mono HB3.out.size)); have hm4 : w4.heap[w.heap.size]? = _ := (HB4.out.block w.heap.size hsz1).trans HM0.out; have hsz4 : w.heap.size < w4.heap.size := Nat.lt_of_lt_of_le hsz1 HB4.out.size; obtain ⟨⟨b0, b1, b2, b3, b4⟩, _⟩ := cellsOf5 hm4; clear hb4 hm4)
            | (at_builtin; refine wpList_slab bytTy 28 (by rfl) _ _ (by rfl) (.slice (some ⟨w4.heap.size + 1, 0, none⟩) 0 0) 0 [] (by rfl) (slab_lit (w4.alloc (.cells #[.int .u32 (id : Int), .int .u32 (to : Int), .int .i64 kind, .string body, .bool true] 27)) _ (by simp)) (.slice A L.length cap) (by rfl) L.length (bytesV L) (src_bslab (Slab.below HS1.out ((HB4.out.alloc HB4.out.size _).alloc (by have := HB4.out.size; simp; omega) _))) (by unfold maxLen; omega) (by omega) ?_; intro v5 w5 hs5 hu5; rw [Nat.zero_add, List.nil_append] at hs5; have HS5 := Lib.hid (show BSlab w5 v5 L from hs5); have HB5 := Lib.hid (show Below w.heap.size w w5 from (((HB1.out.trans (HB4.out.mono HB1.out.size)).alloc (Nat.le_of_lt hsz4) _).alloc (by simp; omega) _).trans (hu5.below (by simp; omega) (fun g hg => by have h1 : w4.heap.size + 1 = g := Option.some.inj hg; omega))); have HO5 := Lib.hid (show ∀ g, v5.ownBlock = some g → w.heap.size ≤ g from fun g hg => hu5.own.elim (fun e => by have h1 : w4.heap.size + 1 = g := Option.some.inj (e.symm.trans hg); omega) (fun ⟨q, e, hq⟩ => by rw [e] at hg; have h1 : q = g := Option.some.inj hg; simp at hq; omega)); obtain ⟨A5, cap5, hv5, hc5, hm5, hF5⟩ := Slab.form hs5; have HC5 := Lib.hid hc5; obtain ⟨G5, o5, rfl, hr5, hth5⟩ : ∃ G5 o5, A5 = some ⟨G5, o5, none⟩ ∧ w5.rangeAt G5 o5 (bytesV L) ∧ w5.there G5 o5 (cap5 * 1) := (by rcases hF5 with ⟨_, h0, _⟩ | ⟨g, off, h1, _, _, h2, h3⟩; omega; exact ⟨g, off, h1, h2, h3⟩); have d5 : w5.cell? ⟨G5, o5 + j, none⟩ = some (.int .u8 ((L[j]'hjl).toNat : Int)) := range_byte hr5 j hjl; have e5 : w5.frozen? ⟨G5, o5 + j, none⟩ = false := (hth5 j (by omega)).2; subst hv5; clear hs5 hu5 hF5 hr5 hth5)
            | (go_at_call 15; refine (HU2.out G5 o5 cap5 HC5.out w5 HS5.out).mono ?_; rintro e w6 ⟨rfl, hb6⟩; have HB6 := Lib.hid ((HB5.out.setCell (p := ⟨G5, o5 + j, none⟩) (HO5.out G5 rfl) (.int .u8 (X.toNat : Int))).trans (hb6.mono (by have := HB5.out.size; simpa using this))); clear hb6)
            | (go_at_call 12; refine (HL.out _ (HB6.out.alloc HB6.out.size _)).mono ?_; rintro e w' ⟨rfl, hb⟩))
          go_ret
          exact ⟨rfl, hb⟩
    · have hEb : ((packE ⟨id, to, kind, body, sum⟩ : Int) != 0) = true := by rw [bne_iff_ne]; omega
      have HPL := Lib.hid (show packL ⟨id, to, kind, body, sum⟩ = [] from if_neg hE)
      clear hE
      go_enter Tryd.func5, Tryd.ntmps5
      go_wp2_with fail
      refine (HPK'.out _).mono ?_; rintro e w1 ⟨v, rfl, hs, hb, hn⟩
      rw [HPL.out] at hs
      obtain ⟨A, cap, rfl, _, _, _⟩ := hs.bytes
      have HB1 := Lib.hid (HB0.out.trans (hb.mono (by simp)))
      clear hs hb hn
      go_wp2_with (first
        | (go_at_call 11; refine (num_c _ _).mono ?_; rintro e w' ⟨rfl, rfl⟩)
        | (go_at_call 12; refine (HL.out _ HB1.out).mono ?_; rintro e w' ⟨rfl, hb⟩))
      go_ret
      exact ⟨rfl, hb⟩
end Go.Proofs.YtkpickojeghppaaDoor
namespace Go.Proofs.YtkpickojeghppaaDoor
open Go.Joins Go.ChangeShapes Go.WideShapes Go.RowKit Go.Deep
theorem wf_u8 {n : Int} (h : (Lit.int .u8 n).wf = true) : 0 ≤ n ∧ n ≤ 255 := by
  simp [Lit.wf, IntKind.min, IntKind.max, IntKind.bits, IntKind.signed] at h; omega
theorem wf_u32 {n : Int} (h : (Lit.int .u32 n).wf = true) : 0 ≤ n ∧ n ≤ 4294967295 := by
  simp [Lit.wf, IntKind.min, IntKind.max, IntKind.bits, IntKind.signed] at h; omega
theorem wf_i64 {n : Int} (h : (Lit.int .i64 n).wf = true) : -9223372036854775808 ≤ n ∧ n ≤ 9223372036854775807 := by
  simp [Lit.wf, IntKind.min, IntKind.max, IntKind.bits, IntKind.signed] at h; omega
theorem spot_none {w : World} {a : Addr} {v : Value} (h : w.cell? a = some v) : a.spot = none := by
  cases e : a.spot with
  | none => rfl
  | some n =>
    unfold World.cell? at h
    rw [e] at h
    split at h <;> simp at h
theorem add_none (b o j : Nat) : (⟨b, o, none⟩ : Addr).add j = ⟨b, o + j, none⟩ := by unfold Addr.add; split <;> simp_all
theorem bytes_of {P : Program} {T E : TypeId} {H : Type} {enc : TypeId × Value → H} {W : World} {base : Nat} {spare : Nat → Bool} {held : Bool} {r : Reach} {b0 : Nat} {v : Value} {d : DataW H} {p : List MemPlace}
    (ht : P.underlying T = some (.slice E)) (he : P.underlying E = some (.int .u8)) (hc : P.cellsOf E = 1) (hv : Value.okWide P W r b0 T v) (h : DataW.Trod enc P W base spare held T v d p) :
    ∃ (A : Option Addr) (l : List UInt8) (c : Nat), v = .slice A l.length c ∧ l.length ≤ c ∧ c ≤ maxLen ∧ BytesIn W A l := by
  obtain ⟨a0, len0, cap0, rfl⟩ := okWide_slice ht hv
  obtain ⟨fuel, hf⟩ := h
  have hf' : DataW.trod enc P W base spare held fuel T [.slice a0 len0 cap0] = some (d, p) := hf
  rcases open_ints ht he hc hf' with ⟨h1, h2⟩ | ⟨a, len, cap, zs, h1, _, hlc, hcm, hz, h2, hcell, hwf⟩
  · injection h1 with h1 _
    injection h1 with e1 e2 e3
    subst e1; subst e2; subst e3
    exact ⟨none, [], 0, rfl, Nat.zero_le _, Nat.zero_le _, .inl rfl⟩
  · injection h1 with h1 _
    injection h1 with e1 e2 e3
    subst e1; subst e2; subst e3
    have hlz : len0 ≤ zs.length := by rw [hz]; split <;> omega
    have hl : ((zs.take len0).map (fun z => UInt8.ofNat z.toNat)).length = len0 := by rw [List.length_map, List.length_take]; omega
    refine ⟨some a, (zs.take len0).map (fun z => UInt8.ofNat z.toNat), cap0, by rw [hl], by rw [hl]; exact hlc, hcm, ?_⟩
    by_cases h0 : len0 = 0
    · left; subst h0; simp
    · right
      have hsp : a.spot = none := spot_none (w := W) (a := a) (v := .int .u8 (zs.getD 0 0)) (by have := hcell 0 (by omega); simpa [Addr.add] using this)
      obtain ⟨B, o, sp⟩ := a
      obtain rfl : sp = none := hsp
      refine ⟨B, o, rfl, fun j u hj => ?_⟩
      unfold bytesV at hj
      rw [List.map_map, List.getElem?_map] at hj
      have hjl : j < len0 := by
        rcases Nat.lt_or_ge j len0 with h | h
        · exact h
        · rw [List.getElem?_eq_none (by rw [List.length_take]; omega)] at hj; cases hj
      have hjz : j < zs.length := by omega
      rw [List.getElem?_take, if_pos hjl, List.getElem?_eq_getElem hjz] at hj
      injection hj with hj
      have h4 := hcell j hjz
      rw [add_none] at h4
      have h5 := wf_u8 (hwf zs[j] (List.getElem_mem hjz))
      rw [h4, ← hj]
      congr 2
      show zs.getD j 0 = (((UInt8.ofNat zs[j].toNat).toNat : Nat) : Int)
      rw [UInt8.toNat_ofNat', List.getD, List.getElem?_eq_getElem hjz, Option.getD_some]
      omega
section
variable {H : Type} {enc : TypeId × Value → H} {P : Program} {w : World} {base : Nat} {spare : Nat → Bool} {held : Bool}
theorem open_agg5 {r : Reach} {b0 : Nat} {t : TypeId} {f0 f1 f2 f3 f4 : Field} {v : Value} {d : DataW H} {p : List MemPlace} (hs : P.underlying t = some (.struct #[f0, f1, f2, f3, f4])) (hone : oneCellFields P #[f0, f1, f2, f3, f4] = true) (hC : P.cellsOf t = 5)
    (hv : Value.okWide P w r b0 t v) (h : DataW.Trod enc P w base spare held t v d p) :
    ∃ (v0 v1 v2 v3 v4 : Value) (y0 y1 y2 y3 y4 : DataW H × List MemPlace) (n : Nat), v = .agg #[v0, v1, v2, v3, v4] ∧
      DataW.trod enc P w base spare held n f0.type [v0] = some y0 ∧ DataW.trod enc P w base spare held n f1.type [v1] = some y1 ∧ DataW.trod enc P w base spare held n f2.type [v2] = some y2 ∧ DataW.trod enc P w base spare held n f3.type [v3] = some y3 ∧ DataW.trod enc P w base spare held n f4.type [v4] = some y4 := by
  obtain ⟨cs, rfl, hsz⟩ := okWide_struct hs hv
  obtain ⟨l⟩ := cs
  match l, hsz.trans hC with
  | [c0, c1, c2, c3, c4], _ =>
    obtain ⟨fuel, hf⟩ := h
    obtain ⟨xs, n, _, hx, _, hlen, hg⟩ := DataW.trod_struct hs hf
    obtain ⟨o0, k0⟩ := hone_of hone 0 f0 rfl
    obtain ⟨o1, k1⟩ := hone_of hone 1 f1 rfl
    obtain ⟨o2, k2⟩ := hone_of hone 2 f2 rfl
    obtain ⟨o3, k3⟩ := hone_of hone 3 f3 rfl
    obtain ⟨o4, k4⟩ := hone_of hone 4 f4 rfl
    match xs, hlen with
    | [y0, y1, y2, y3, y4], _ =>
      exact ⟨c0, c1, c2, c3, c4, y0, y1, y2, y3, y4, n, rfl, by simpa [Value.cells, o0, k0] using hg 0 f0 rfl, by simpa [Value.cells, o1, k1] using hg 1 f1 rfl, by simpa [Value.cells, o2, k2] using hg 2 f2 rfl, by simpa [Value.cells, o3, k3] using hg 3 f3 rfl, by simpa [Value.cells, o4, k4] using hg 4 f4 rfl⟩
end
set_option maxRecDepth 100000 in
theorem msg_open {H : Type} {enc : TypeId × Value → H} {w : World} {base : Nat} {spare : Nat → Bool} {held : Bool} {r : Reach} {b0 : Nat} {v : Value} {d : DataW H} {p : List MemPlace}
    (hv : Value.okWide Tryd.prog w r b0 27 v) (h : DataW.Trod enc Tryd.prog w base spare held 27 v d p) : ∃ m : WMsg, v = .agg (msgV m).toArray ∧ MsgIn m := by
  obtain ⟨v0, v1, v2, v3, v4, y0, y1, y2, y3, y4, n, rfl, h0, h1, h2, h3, h4⟩ := open_agg5 Tryd.underlying27 (by kernel_rfl) (by kernel_rfl) hv h
  obtain ⟨a, e0, _, w0⟩ := DataW.trod_int Tryd.underlying25 h0
  obtain ⟨b, e1, _, w1⟩ := DataW.trod_int Tryd.underlying25 h1
  obtain ⟨c, e2, _, w2⟩ := DataW.trod_int Tryd.underlying3 h2
  obtain ⟨s, e3, _, hs⟩ := DataW.trod_string Tryd.underlying9 h3
  obtain ⟨q, e4, _⟩ := DataW.trod_bool Tryd.underlying4 h4
  obtain rfl : v0 = .int .u32 a := by injection e0
  obtain rfl : v1 = .int .u32 b := by injection e1
  obtain rfl : v2 = .int .i64 c := by injection e2
  obtain rfl : v3 = .string s := by injection e3
  obtain rfl : v4 = .bool q := by injection e4
  have g0 := wf_u32 w0
  have g1 := wf_u32 w1
  have g2 := wf_i64 w2
  refine ⟨⟨a.toNat, b.toNat, c, s, q⟩, ?_, ?_⟩
  · have ea : ((a.toNat : Nat) : Int) = a := by omega
    have eb : ((b.toNat : Nat) : Int) = b := by omega
    show _ = Value.agg #[.int .u32 ((a.toNat : Nat) : Int), .int .u32 ((b.toNat : Nat) : Int), .int .i64 c, .string s, .bool q]
    rw [ea, eb]
  · unfold maxLen at hs
    exact ⟨by show a.toNat < _; omega, by show b.toNat < _; omega, g2.1, g2.2, hs⟩
end Go.Proofs.YtkpickojeghppaaDoor
namespace Go.Proofs.YtkpickojeghppaaDoor
open Go.RowKit
theorem conv_any {A : Option Addr} {l : List UInt8} (cap : Nat) (w : World) (h : BytesIn w A l) : (convert 28 9 (.slice A l.length cap)).run Tryd.prog w = .ok (.string ⟨l.toArray⟩) w := by
  rcases h with rfl | ⟨G, o, rfl, hr⟩
  · cases A with
    | none => exact run_convert_bytes_nil (P := Tryd.prog) (w := w) 28 5 bytTy.slice Tryd.underlying5 0 cap 9 Tryd.underlying9
    | some a =>
      rw [run_convert_bytes_string (P := Tryd.prog) w 28 9 5 (some a) _ cap bytTy.slice Tryd.underlying5 Tryd.underlying9]
      exact run_bytesToString (P := Tryd.prog) w a 0 cap [] (by simp [loadCells, loadCellsFrom, Sem.run_pure])
  · have := conv_bytes hr 0 l.length l.length cap (Nat.zero_le _) (Nat.le_refl _) (by omega)
    simpa [bodyOf] using this
set_option maxRecDepth 20000 in
set_option maxHeartbeats 4000000 in
theorem same_c (A B : Option Addr) (l m : List UInt8) (c d : Nat) (w : World) (ha : BytesIn w A l) (hb : BytesIn w B m) :
    Calls Tryd.prog 17 #[.slice A l.length c, .slice B m.length d] w fun e w' => e = .returned (.bool (l == m)) ∧ w = w' := by
  have k1 := conv_any c w ha
  have k2 := conv_any d w hb
  have hq : ((⟨l.toArray⟩ : ByteArray).toList == (⟨m.toArray⟩ : ByteArray).toList) = (l == m) := by rw [ByteArray.toList_eq, ByteArray.toList_eq]
  clear ha hb
  generalize l.length = n at *
  generalize m.length = n2 at *
  generalize (⟨l.toArray⟩ : ByteArray) = s at *
  generalize (⟨m.toArray⟩ : ByteArray) = t at *
  generalize (l == m) = r at *
  have HQ := Lib.hid hq
  clear hq
  go_enter Tryd.func17, Tryd.ntmps17
  go_wp2
  go_ret
  exact ⟨ret_bool HQ.out, rfl⟩
set_option maxRecDepth 20000 in
set_option maxHeartbeats 4000000 in
theorem refUnpack_none (A : Option Addr) (cap : Nat) (w : World) : Calls Tryd.prog 16 #[.slice A 0 cap] w (UnPost (.bad 3) w) := by
  go_enter Tryd.func16, Tryd.ntmps16
  go_wp2
  go_loopg [6] 1 (fun gk i wr => i = .int .i64 0 ∧ 0 < gk ∧ wr = (w.alloc (.cells #[.int .u32 0, .int .u32 0, .int .i64 0, .string ⟨#[]⟩, .bool false] 27)))
  case atStart => exact ⟨rfl, by omega, rfl⟩
  case round =>
    obtain ⟨rfl, hgk, rfl⟩ := hrel
    have HH := Lib.hid (heap_alloc_new w (.cells #[.int .u32 0, .int .u32 0, .int .i64 0, .string ⟨#[]⟩, .bool false] 27))
    go_wp2
    refine bodyPost_ret (results_cell2 rfl _ _ w.heap.size 27 _ (0, 0) _ (by rfl) HH.out Tryd.underlying27 rfl (by kernel_rfl)) rfl ?_
    exact ⟨rfl, (Below.refl _ _).alloc (Nat.le_refl _) _⟩
end Go.Proofs.YtkpickojeghppaaDoor
namespace Go.Proofs.YtkpickojeghppaaDoor
open Go.RowKit
theorem refUnpack_c (A : Option Addr) (cap : Nat) (l : List UInt8) (hl : l.length ≤ 1099511627776) (hc : l.length ≤ cap) (w : World) (h : BytesIn w A l) :
    Calls Tryd.prog 16 #[.slice A l.length cap] w (UnPost (unpack l) w) := by
  rcases Nat.eq_zero_or_pos l.length with h0 | h0
  · obtain rfl : l = [] := List.eq_nil_of_length_eq_zero h0
    exact refUnpack_none A cap w
  · rcases h with h | ⟨G, o, rfl, hr⟩
    · rw [h] at h0; simp at h0
    · exact refUnpack_some G o cap l h0 hl hc w hr
theorem BytesIn.left {w : World} {A : Option Addr} {a b : List UInt8} (h : BytesIn w A (a ++ b)) : BytesIn w A a := by
  rcases h with h | ⟨G, o, rfl, hr⟩
  · exact .inl (List.append_eq_nil_iff.1 h).1
  · refine .inr ⟨G, o, rfl, ?_⟩
    rw [bytesV_append] at hr
    exact rangeAt_left hr
theorem copied {w w1 w2 : World} {g : Nat} (hg : g = w.heap.size) (hb : Below w.heap.size w w1) (hlt : g < w1.heap.size) {v2 : Value} (hu : Upd w1 w2 (some g) v2.ownBlock) : Below w.heap.size w w2 ∧ ∀ q, v2.ownBlock = some q → w.heap.size ≤ q := by
  refine ⟨hb.trans (hu.below hb.size (fun q hq => by have h1 : g = q := Option.some.inj hq; omega)), fun q hq => ?_⟩
  rcases hu.own with e | ⟨r, e, hr⟩
  · have h1 : g = q := Option.some.inj (e.symm.trans hq); omega
  · rw [e] at hq
    have h1 : r = q := Option.some.inj hq
    have := hb.size
    omega
theorem grown {w w1 w2 : World} (hb : Below w.heap.size w w1) {v1 v2 : Value} (hn : ∀ q, v1.ownBlock = some q → w.heap.size ≤ q) (hu : Upd w1 w2 v1.ownBlock v2.ownBlock) : Below w.heap.size w w2 ∧ ∀ q, v2.ownBlock = some q → w.heap.size ≤ q := by
  refine ⟨hb.trans (hu.below hb.size hn), fun q hq => ?_⟩
  rcases hu.own with e | ⟨r, e, hr⟩
  · exact hn q (e.symm.trans hq)
  · rw [e] at hq
    have h1 : r = q := Option.some.inj hq
    have := hb.size
    omega
theorem same_nine (A B : Option Addr) (bl : List UInt8) (c d : Nat) (w : World) (ha : BytesIn w A (bl ++ [9, 9])) (hb : BytesIn w B (bl ++ [9, 9])) :
    Calls Tryd.prog 17 #[.slice A (bl.length + 2) c, .slice B (bl.length + 2) d] w fun e w' => e = .returned (.bool true) ∧ w = w' := by
  have h := same_c A B (bl ++ [9, 9]) (bl ++ [9, 9]) c d w ha hb
  rw [show (bl ++ [9, 9] == bl ++ [9, 9]) = true by simp, List.length_append] at h
  exact h
/-- what holds ahead of the loops -/
structure MsgAt (w w9 : World) (A1 A2 A3 : Option Addr) (c1 c2 c3 : Nat) (L : List UInt8) : Prop where
  p : BSlab w9 (.slice A1 L.length c1) L
  q : BSlab w9 (.slice A2 L.length c2) L
  r : BSlab w9 (.slice A3 L.length c3) L
  pN : ∀ g, (Value.slice A1 L.length c1).ownBlock = some g → w.heap.size ≤ g ∧ (Value.slice A2 L.length c2).ownBlock ≠ some g ∧ (Value.slice A3 L.length c3).ownBlock ≠ some g
  bl : Below w.heap.size w w9
theorem wpList_slab_g {P : Program} {S E : TypeId} {z : Value} {size bytes : Nat} {w : World} {ops : Array Oper} {rest : List Oper} {o : Oper} {a : Act} {Q : Exit → Act → World → Prop} (ty : SlTy P S E z size bytes) (tx : TypeId) (hw : Region.wanted o (yielded ops a.tmps) = true) (s y : Operand)
    (ho : o.op = .call { callee := .builtin .append, args := #[s, y], argTypes := #[S, tx] })
    (v : Value) (n : Nat) (xs : List Value) (hv : a.eval s = v) (hown : Slab w size v n xs) (x : Value) (hx : a.eval y = x) (m : Nat) (news : List Value) (hs : Src P size tx x m news w)
    (h63 : n + m ≤ maxLen) (hbytes : (n + m) * bytes ≤ 140737488355328)
    (h : ∀ v' w', Slab w' size v' (n + m) (xs ++ news) → Upd w w' v.ownBlock v'.ownBlock → wpList P ops Q rest (a.put o.dst v') w') : wpList P ops Q (o :: rest) a w := by
  rw [wpList, if_pos hw]
  exact .inl (wp_slab ty tx s y ho v n xs hv hown x hx m news hs h63 hbytes h)
theorem src_bytes {w : World} {A : Option Addr} {n cap : Nat} {l : List UInt8} (h : BytesIn w A l) (hn : n = l.length) : Src Tryd.prog 1 28 (.slice A n cap) l.length (bytesV l) w := by
  subst hn
  rcases h with rfl | ⟨G, o, rfl, hr⟩
  · cases A with
    | none => exact Src.ofNil w bytTy.slice cap
    | some a => exact Src.ofSlice w bytTy.slice a 0 cap [] rfl (fun j u hj => by simp at hj) (fun u hu => by simp at hu)
  · exact Src.ofSlice w bytTy.slice _ _ _ _ (by simp [bytesV]) (fun j u hj => by rw [Addr.add_mid]; exact hr j u hj) (fun u hu => by
      simp only [bytesV, List.mem_map] at hu
      obtain ⟨c, _, rfl⟩ := hu
      rfl)
set_option maxRecDepth 20000 in
set_option maxHeartbeats 8000000 in
theorem wireMessages_c (m : WMsg) (hm : MsgIn m) (Ab : Option Addr) (bl : List UInt8) (bc : Nat) (hbc : bl.length ≤ bc) (hbm : bc ≤ maxLen) (w : World) (hB : BytesIn w Ab bl) (hT : WTabs w) :
    Calls Tryd.prog 4 #[.agg (msgV m).toArray, .slice Ab bl.length bc] w fun r w' => r = .returned (.bool true) ∧ Below w.heap.size w w' := by
  have HL := Lib.hid (fun (W : World) (hb : Below w.heap.size w W) => (live_c W (hT.below hb)).mono (R' := fun e w' => e = .returned (.bool true) ∧ Below w.heap.size w w') (fun e w' ⟨he, h⟩ => ⟨he, hb.trans (h.mono hb.size)⟩))
  obtain ⟨id, to, kind, body, sum⟩ := m
  have hbs := hm.2.2.2.2
  simp only at hbs
  show Calls Tryd.prog 4 #[.agg #[.int .u32 (id : Int), .int .u32 (to : Int), .int .i64 kind, .string body, .bool sum], .slice Ab bl.length bc] w _
  have HB0 := Lib.hid (show Below w.heap.size w (w.alloc (.cells #[.int .u32 (id : Int), .int .u32 (to : Int), .int .i64 kind, .string body, .bool sum] 27)) from (Below.refl _ _).alloc (Nat.le_refl _) _)
  have HBY := Lib.hid hB
  have hbm2 : bl.length ≤ 9223372036854775807 := by unfold maxLen at hbm; omega
  clear hT hB hbm
  by_cases hlong : 2000000 < body.size
  · clear hm
    go_enter Tryd.func4, Tryd.ntmps4
    go_wp2
    go_ret
    exact ⟨rfl, HB0.out⟩
  have hbl : body.size ≤ 2000000 := by omega
  by_cases hlong2 : 2000000 < bl.length
  · clear hm
    go_enter Tryd.func4, Tryd.ntmps4
    go_wp2
    go_ret
    exact ⟨rfl, HB0.out⟩
  have hbl2 : bl.length ≤ 2000000 := by omega
  have HM := Lib.hid (hm.ok (by show body.size ≤ _; omega))
  have HPK := Lib.hid (fun (W : World) => show Calls Tryd.prog 13 #[.agg #[.int .u32 (id : Int), .int .u32 (to : Int), .int .i64 kind, .string body, .bool sum]] W (PackPost ⟨id, to, kind, body, sum⟩ W) from pack_c ⟨id, to, kind, body, sum⟩ HM.out W)
  have HRP := Lib.hid (fun (W : World) => show Calls Tryd.prog 14 #[.agg #[.int .u32 (id : Int), .int .u32 (to : Int), .int .i64 kind, .string body, .bool sum]] W (PackPost ⟨id, to, kind, body, sum⟩ W) from refPack_c ⟨id, to, kind, body, sum⟩ HM.out W)
  have hpl := packL_len ⟨id, to, kind, body, sum⟩
  obtain ⟨L, hL⟩ : ∃ L, packL ⟨id, to, kind, body, sum⟩ = L := ⟨_, rfl⟩
  obtain ⟨pe, hpe⟩ : ∃ pe, packE ⟨id, to, kind, body, sum⟩ = pe := ⟨_, rfl⟩
  rw [hL] at hpl
  have HLE := Lib.hid (And.intro hL hpe)
  obtain ⟨r, hr⟩ : ∃ r, unpack bl = r := ⟨_, rfl⟩
  obtain ⟨⟨xid, xto, xkind, xbody, xsum⟩, hrm⟩ : ∃ x, r.msg = x := ⟨_, rfl⟩
  obtain ⟨xn, hrn⟩ : ∃ x, r.len = x := ⟨_, rfl⟩
  obtain ⟨xe, hre⟩ : ∃ x, r.err = x := ⟨_, rfl⟩
  have HU := Lib.hid (fun (A : Option Addr) (cap : Nat) (hc : bl.length ≤ cap) (W : World) (h : BytesIn W A bl) => show Calls Tryd.prog 15 #[.slice A bl.length cap] W (fun e w' => e = .returned (.tuple #[.agg #[.int .u32 (xid : Int), .int .u32 (xto : Int), .int .i64 xkind, .string xbody, .bool xsum], .int .i64 (xn : Int), .int .i64 (xe : Int)]) ∧ Below W.heap.size W w') from by
    have h := unpack_c A cap bl (by omega) hc W h
    unfold UnPost at h
    rw [hr, hrm, hrn, hre] at h
    exact h)
  have HRU := Lib.hid (fun (A : Option Addr) (cap : Nat) (hc : bl.length ≤ cap) (W : World) (h : BytesIn W A bl) => show Calls Tryd.prog 16 #[.slice A bl.length cap] W (fun e w' => e = .returned (.tuple #[.agg #[.int .u32 (xid : Int), .int .u32 (xto : Int), .int .i64 xkind, .string xbody, .bool xsum], .int .i64 (xn : Int), .int .i64 (xe : Int)]) ∧ Below W.heap.size W w') from by
    have h := refUnpack_c A cap bl (by omega) hc W h
    unfold UnPost at h
    rw [hr, hrm, hrn, hre] at h
    exact h)
  clear hm hbs hL hpe hr hrm hrn hre
  go_enter Tryd.func4, Tryd.ntmps4
  go_wp2_with fail
  refine (HPK.out _).mono ?_; rintro e w1 ⟨v1, rfl, hs1, hb1, hn1⟩
  rw [HLE.out.1] at hs1
  rw [HLE.out.2]
  obtain ⟨A1, c1, rfl, _, _, _⟩ := hs1.bytes
  have HS1 := Lib.hid hs1
  have HN1 := Lib.hid hn1
  have HB1 := Lib.hid (HB0.out.trans (hb1.mono (by simp)))
  have hm1 : w1.heap[w.heap.size]? = some (.cells #[.int .u32 (id : Int), .int .u32 (to : Int), .int .i64 kind, .string body, .bool sum] 27 (0, 0)) := (hb1.block w.heap.size (by simp)).trans (heap_alloc_new w _)
  have HM1 := Lib.hid hm1
  have hz1 : w.heap.size < w1.heap.size := by have := hb1.size; simp at this; omega
  obtain ⟨⟨b0, b1, b2, b3, b4⟩, _⟩ := cellsOf5 hm1
  clear hs1 hn1 hb1 hm1
  go_wp2_with fail
  refine (HPK.out _).mono ?_; rintro e w2 ⟨v2, rfl, hs2, hb2, hn2⟩
  rw [HLE.out.1] at hs2
  rw [HLE.out.2]
  obtain ⟨A2, c2, rfl, _, _, _⟩ := hs2.bytes
  have HS2 := Lib.hid hs2
  have HN2 := Lib.hid hn2
  have HB2 := Lib.hid hb2
  have hm2 := (hb2.block w.heap.size hz1).trans HM1.out
  have hz2 : w.heap.size < w2.heap.size := by have := hb2.size; omega
  have HM2 := Lib.hid hm2
  clear b0 b1 b2 b3 b4
  obtain ⟨⟨b0, b1, b2, b3, b4⟩, _⟩ := cellsOf5 hm2
  clear hs2 hn2 hb2 hm2
  go_wp2_with fail
  refine (HRP.out _).mono ?_; rintro e w3 ⟨v3, rfl, hs3, hb3, hn3⟩
  rw [HLE.out.1] at hs3
  rw [HLE.out.2]
  obtain ⟨A3, c3, rfl, _, _, _⟩ := hs3.bytes
  have HS3 := Lib.hid hs3
  have HN3 := Lib.hid hn3
  have HB3 := Lib.hid hb3
  clear b0 b1 b2 b3 b4 hs3 hn3 hb3
  have HBW3 := Lib.hid (HB1.out.trans ((HB2.out.trans (HB3.out.mono HB2.out.size)).mono HB1.out.size))
  have HP3 := Lib.hid (show MsgAt w w3 A1 A2 A3 c1 c2 c3 L from
    ⟨Slab.below HS1.out (HB2.out.trans (HB3.out.mono HB2.out.size)), Slab.below HS2.out HB3.out, HS3.out,
     fun g hg => ⟨by have := HN1.out g hg; simp at this; omega, fun e => by have := Slab.lt HS1.out hg; have := HN2.out g e; omega, fun e => by have := Slab.lt HS1.out hg; have := HN3.out g e; have := HB2.out.size; omega⟩, HBW3.out⟩)
  clear HS1 HN1 HB1 HM1 HS2 HN2 HB2 HM2 HS3 HN3 HB3
  go_wp2_with (first
    | (at_builtin; refine wpList_slab bytTy 28 (by rfl) _ _ (by rfl) (.slice (some ⟨w3.heap.size, 0, none⟩) 0 0) 0 [] (by rfl) (slab_lit w3 _ rfl) (.slice Ab bl.length bc) (by rfl) bl.length (bytesV bl) (src_bytes (BytesIn.below HBY.out (HBW3.out.alloc HBW3.out.size _)) rfl) (by unfold maxLen; omega) (by omega) ?_; intro v4 w4 hs4 hu4; rw [Nat.zero_add, List.nil_append] at hs4; obtain ⟨hb4, hn4⟩ := copied (w := w3) rfl ((Below.refl _ _).alloc (Nat.le_refl _) _) (by simp) hu4; have HB4 := Lib.hid hb4; have HN4 := Lib.hid hn4; have HS4 := Lib.hid (show BSlab w4 v4 bl from hs4); obtain ⟨A4, c4, hv4, hc4, hm4, _⟩ := Slab.form hs4; subst hv4; clear hs4 hu4 hb4 hn4)
    | (at_builtin; refine wpList_slab bytTy 28 (by rfl) _ _ (by rfl) (.slice A4 bl.length c4) bl.length (bytesV bl) (by rfl) (Slab.below HS4.out ((Below.refl _ _).alloc (Nat.le_refl _) _)) (.slice (some ⟨w4.heap.size, 0, none⟩) 2 2) (by rfl) 2 (bytesV [9, 9]) (Src.ofSlice _ bytTy.slice _ 2 2 _ rfl (World.news_of_block (heap_alloc_new w4 _)) (by simp [bytesV, Value.oneCell'])) (by unfold maxLen; omega) (by omega) ?_; intro v5 w5 hs5 hu5; have HS5 := Lib.hid (show BSlab w5 v5 (bl ++ [9, 9]) by unfold BSlab; rw [bytesV_append, List.length_append]; exact hs5); obtain ⟨hb5, hn5⟩ := grown (w := w3) (HB4.out.alloc HB4.out.size _) HN4.out hu5; have HB5 := Lib.hid hb5; obtain ⟨A5, c5, hv5, hc5, hm5, _⟩ := Slab.form hs5; subst hv5; clear hs5 hu5 hb5 hn5))
  refine (HU.out A5 c5 (by omega) w5 (BytesIn.left HS5.out.inn)).mono ?_; rintro e w6 ⟨rfl, hb6⟩
  have HB6 := Lib.hid (HB5.out.trans (hb6.mono HB5.out.size))
  have HS6 := Lib.hid (show BSlab w6 (.slice A5 (bl.length + 2) c5) (bl ++ [9, 9]) from Slab.below HS5.out hb6)
  clear hb6
  go_wp2_with fail
  have hb6a : Below w3.heap.size w3 (w6.alloc (.cells #[.int .u32 (xid : Int), .int .u32 (xto : Int), .int .i64 xkind, .string xbody, .bool xsum] 27)) := HB6.out.alloc HB6.out.size _
  have HB6A := Lib.hid hb6a
  have HX6 := Lib.hid (heap_alloc_new w6 (.cells #[.int .u32 (xid : Int), .int .u32 (xto : Int), .int .i64 xkind, .string xbody, .bool xsum] 27))
  have hz6 : w6.heap.size < (w6.alloc (.cells #[.int .u32 (xid : Int), .int .u32 (xto : Int), .int .i64 xkind, .string xbody, .bool xsum] 27)).heap.size := by simp
  have HS6A := Lib.hid (show BSlab (w6.alloc (.cells #[.int .u32 (xid : Int), .int .u32 (xto : Int), .int .i64 xkind, .string xbody, .bool xsum] 27)) (.slice A5 (bl.length + 2) c5) (bl ++ [9, 9]) from Slab.below HS6.out ((Below.refl _ _).alloc (Nat.le_refl _) _))
  clear hb6a
  generalize w6.alloc (.cells #[.int .u32 (xid : Int), .int .u32 (xto : Int), .int .i64 xkind, .string xbody, .bool xsum] 27) = W6 at *
  generalize w6.heap.size = X at *
  refine (HRU.out Ab bc hbc W6 (BytesIn.below HBY.out (HBW3.out.trans (HB6A.out.mono HBW3.out.size)))).mono ?_; rintro e w7 ⟨rfl, hb7⟩
  have HB7 := Lib.hid (HB6A.out.trans (hb7.mono HB6A.out.size))
  have HS7 := Lib.hid (show BSlab w7 (.slice A5 (bl.length + 2) c5) (bl ++ [9, 9]) from Slab.below HS6A.out hb7)
  have HX7 := Lib.hid ((hb7.block X hz6).trans HX6.out)
  have hz7 : X < w7.heap.size := Nat.lt_of_lt_of_le hz6 hb7.size
  clear hb7 HB4 HN4 HS4 HB5 HS5 HB6 HS6 HB6A HX6 HS6A hz6
  obtain ⟨⟨x0, x1, x2, x3, x4⟩, _⟩ := cellsOf5 HX7.out
  have hee : ((xe : Int) != (xe : Int)) = false := by simp
  have hpp : ((pe : Int) != (pe : Int)) = false := by simp
  have hnn : ((xn : Int) != (xn : Int)) = false := by simp
  go_wp2_with (go_at_call 11; refine (num_c _ _).mono ?_; rintro e w' ⟨rfl, rfl⟩)
  clear x0 x1 x2 x3 x4
  have hb8 : Below w7.heap.size w7 (w7.alloc (.cells #[.int .u32 (xid : Int), .int .u32 (xto : Int), .int .i64 xkind, .string xbody, .bool xsum] 27)) := (Below.refl _ _).alloc (Nat.le_refl _) _
  have HB8 := Lib.hid (HB7.out.trans (hb8.mono HB7.out.size))
  have HS8 := Lib.hid (show BSlab (w7.alloc (.cells #[.int .u32 (xid : Int), .int .u32 (xto : Int), .int .i64 xkind, .string xbody, .bool xsum] 27)) (.slice A5 (bl.length + 2) c5) (bl ++ [9, 9]) from Slab.below HS7.out hb8)
  have hx8 := (hb8.block X hz7).trans HX7.out
  have hy8 := heap_alloc_new w7 (.cells #[.int .u32 (xid : Int), .int .u32 (xto : Int), .int .i64 xkind, .string xbody, .bool xsum] 27)
  have hzy : w7.heap.size < (w7.alloc (.cells #[.int .u32 (xid : Int), .int .u32 (xto : Int), .int .i64 xkind, .string xbody, .bool xsum] 27)).heap.size := by simp
  have hzx : X < (w7.alloc (.cells #[.int .u32 (xid : Int), .int .u32 (xto : Int), .int .i64 xkind, .string xbody, .bool xsum] 27)).heap.size := by simp; omega
  clear HB7 HS7 HX7 hz7 hb8
  generalize w7.alloc (.cells #[.int .u32 (xid : Int), .int .u32 (xto : Int), .int .i64 xkind, .string xbody, .bool xsum] 27) = W8 at *
  generalize w7.heap.size = Y at *
  have HP8 := Lib.hid (show MsgAt w W8 A1 A2 A3 c1 c2 c3 L from ⟨Slab.below HP3.out.p HB8.out, Slab.below HP3.out.q HB8.out, Slab.below HP3.out.r HB8.out, HP3.out.pN, HP3.out.bl.trans (HB8.out.mono HP3.out.bl.size)⟩)
  have HBY8 := Lib.hid (BytesIn.below HBY.out HP8.out.bl)
  obtain ⟨⟨x0, x1, x2, x3, x4⟩, _⟩ := cellsOf5 hx8
  obtain ⟨⟨y0, y1, y2, y3, y4⟩, _⟩ := cellsOf5 hy8
  have hs13 : Calls Tryd.prog 17 #[.slice A1 L.length c1, .slice A3 L.length c3] W8 fun e w' => e = .returned (.bool true) ∧ W8 = w' := by
    have h := same_c A1 A3 L L c1 c3 W8 HP8.out.p.inn HP8.out.r.inn
    rwa [show (L == L) = true by simp] at h
  have hs23 : Calls Tryd.prog 17 #[.slice A2 L.length c2, .slice A3 L.length c3] W8 fun e w' => e = .returned (.bool true) ∧ W8 = w' := by
    have h := same_c A2 A3 L L c2 c3 W8 HP8.out.q.inn HP8.out.r.inn
    rwa [show (L == L) = true by simp] at h
  have HS13 := Lib.hid hs13
  have HS23 := Lib.hid hs23
  have HSU := Lib.hid (sum_c A5 c5 bl (by unfold maxLen; omega) W8 (BytesIn.left HS8.out.inn))
  have HRS := Lib.hid (refSum_c Ab bc bl (by unfold maxLen; omega) W8 HBY8.out)
  have hcc : ((crc bl : Int) != (crc bl : Int)) = false := by simp
  clear hs13 hs23 hx8 hy8 HP3 HBW3 HBY
  generalize crc bl = cs at *
  generalize w3.heap.size = N3 at *
  go_wp2_with (first
    | (go_at_call 11; refine (num_c _ _).mono ?_; rintro e w' ⟨rfl, rfl⟩)
    | (go_at_call 17; (with_reducible refine HS13.out.mono ?_); rintro e w' ⟨rfl, rfl⟩)
    | (go_at_call 17; (with_reducible refine HS23.out.mono ?_); rintro e w' ⟨rfl, rfl⟩)
    | (go_at_call 18; refine HSU.out.mono ?_; rintro e w' ⟨rfl, hw⟩; obtain rfl : W8 = w' := hw.symm)
    | (go_at_call 19; refine HRS.out.mono ?_; rintro e w' ⟨rfl, hw⟩; obtain rfl : W8 = w' := hw.symm)
    | (at_builtin; refine wpList_slab_g bytTy 28 (by rfl) _ _ (by rfl) (.slice (some ⟨W8.heap.size, 0, none⟩) 0 0) 0 [] (by rfl) (slab_lit W8 _ rfl) (.slice Ab bl.length bc) (by rfl) bl.length (bytesV bl) (src_bytes (BytesIn.below HBY8.out ((Below.refl _ _).alloc (Nat.le_refl _) _)) rfl) (by unfold maxLen; omega) (by omega) ?_; intro v9 w9 hs9 hu9; rw [Nat.zero_add, List.nil_append] at hs9; obtain ⟨hb9, hn9⟩ := copied (w := W8) rfl ((Below.refl _ _).alloc (Nat.le_refl _) _) (by simp) hu9; have HB9 := Lib.hid hb9; have HN9 := Lib.hid hn9; have HS9 := Lib.hid (show BSlab w9 v9 bl from hs9); obtain ⟨A9, c9, hv9, hc9, hm9, _⟩ := Slab.form hs9; subst hv9; clear hs9 hu9 hb9 hn9)
    | (at_builtin; refine wpList_slab_g bytTy 28 (by rfl) _ _ (by rfl) (.slice A9 bl.length c9) bl.length (bytesV bl) (by rfl) (Slab.below HS9.out ((Below.refl _ _).alloc (Nat.le_refl _) _)) (.slice (some ⟨w9.heap.size, 0, none⟩) 2 2) (by rfl) 2 (bytesV [9, 9]) (Src.ofSlice _ bytTy.slice _ 2 2 _ rfl (World.news_of_block (heap_alloc_new w9 _)) (by simp [bytesV, Value.oneCell'])) (by unfold maxLen; omega) (by omega) ?_; intro v10 w10 hs10 hu10; have HS10 := Lib.hid (show BSlab w10 v10 (bl ++ [9, 9]) by unfold BSlab; rw [bytesV_append, List.length_append]; exact hs10); obtain ⟨hb10, hn10⟩ := grown (w := W8) (HB9.out.alloc HB9.out.size _) HN9.out hu10; have HB10 := Lib.hid hb10; obtain ⟨A10, c10, hv10, hc10, hm10, _⟩ := Slab.form hs10; subst hv10; have HS510 := Lib.hid (same_nine A5 A10 bl c5 c10 w10 (BytesIn.below HS8.out.inn HB10.out) HS10.out.inn); clear hs10 hu10 hb10 hn10)
    | (go_at_call 17; (with_reducible refine HS510.out.mono ?_); rintro e w' ⟨rfl, rfl⟩))
  have HP := Lib.hid (show MsgAt w w10 A1 A2 A3 c1 c2 c3 L from ⟨Slab.below HP8.out.p HB10.out, Slab.below HP8.out.q HB10.out, Slab.below HP8.out.r HB10.out, HP8.out.pN, HP8.out.bl.trans (HB10.out.mono HP8.out.bl.size)⟩)
  clear HP8 HBY8 HS8 HB8 HS13 HS23 HSU HRS HB9 HN9 HS9 HB10 HS10 x0 x1 x2 x3 x4 y0 y1 y2 y3 y4 HU HRU HPK HRP HLE HM
  obtain ⟨S, hS⟩ : ∃ S : Nat → Prop, S = fun g => (Value.slice A1 L.length c1).ownBlock = some g := ⟨_, rfl⟩
  have HSE := Lib.hid hS
  clear hS
  go_loopw [18] (fun i wr => ∃ k : Nat, k ≤ L.length ∧ i = .int .i64 k ∧ Hid (∃ xs, Slab wr 1 (.slice A1 L.length c1) L.length xs) ∧ Hid (Turn S w10 wr)) (fun i _ => L.length - (intOf i).toNat)
  case atStart => exact ⟨0, Nat.zero_le _, rfl, Lib.hid ⟨_, HP.out.p⟩, Lib.hid (Turn.refl _ _)⟩
  case round =>
    obtain ⟨k, hk, rfl, HXS, HTU⟩ := hrel
    by_cases hlt : k < L.length
    · obtain ⟨xs, hxs⟩ := HXS.out
      obtain ⟨A', cap', hv', hcc1, hcc2, hform⟩ := hxs.form
      injection hv' with e1 e2 e3
      subst e1; subst e3
      obtain ⟨G, o, rfl, hth⟩ : ∃ G o, A1 = some ⟨G, o, none⟩ ∧ wr.there G o (c1 * 1) := by
        rcases hform with ⟨_, h0, _⟩ | ⟨g, off, h1, _, _, _, h3⟩
        · omega
        · exact ⟨g, off, h1, h3⟩
      obtain ⟨u, hu⟩ := Option.isSome_iff_exists.1 (hth k (by omega)).1
      have hfz := (hth k (by omega)).2
      have hxl : xs.length = L.length * 1 := hxs.1
      have HPUT := Lib.hid (show ∃ ys, Slab (wr.setCell ⟨G, o + k, none⟩ (.int .u8 238)) 1 (.slice (some ⟨G, o, none⟩) L.length c1) L.length ys from ⟨_, Slab.put hxs k (by omega) (.int .u8 238)⟩)
      have HT2 := Lib.hid (HTU.out.set (g := G) (.inl (by rw [HSE.out]; rfl)) (o + k) (.int .u8 238))
      clear hxs hform hth hxl
      go_wp2
      go_roundw
      case rel => exact ⟨k + 1, by omega, by go_num, HPUT, HT2⟩
      case measure => simp [intOf]; omega
    · obtain rfl : k = L.length := by omega
      go_wp2
      go_loopw [5, 19] (fun p i wq => ∃ (j : Nat) (v' : Value), j ≤ 16 ∧ i = .int .i64 j ∧ v' = p ∧ Hid (∃ xs, Slab wq 1 v' (L.length + j) xs) ∧ Hid (∀ g, v'.ownBlock = some g → S g ∨ w10.heap.size ≤ g) ∧ Hid (Turn S w10 wq)) (fun _ i _ => 16 - (intOf i).toNat)
      case atStart => exact ⟨0, _, Nat.zero_le _, rfl, rfl, HXS, Lib.hid (fun g hg => .inl (by rw [HSE.out]; exact hg)), HTU⟩
      case round =>
        obtain ⟨j, v', hj, rfl, rfl, HX2, HO2, HT2⟩ := hrel
        by_cases hjl : j < 16
        · obtain ⟨xs, hxs⟩ := HX2.out
          have HXS2 := Lib.hid hxs
          clear hxs
          go_wp2_with (at_builtin; refine wpList_slab bytTy 28 (by rfl) _ _ (by rfl) v' (L.length + j) xs (by rfl) (Slab.below HXS2.out ((Below.refl _ _).alloc (Nat.le_refl _) _)) (.slice (some ⟨wr.heap.size, 0, none⟩) 1 1) (by rfl) 1 (bytesV [221]) (Src.ofSlice _ bytTy.slice _ 1 1 _ rfl (World.news_of_block (heap_alloc_new wr _)) (by simp [bytesV, Value.oneCell'])) (by unfold maxLen; omega) (by omega) ?_; intro v2 w2 hs2 hu2; have HS2 := Lib.hid (show ∃ ys, Slab w2 1 v2 (L.length + (j + 1)) ys from ⟨_, hs2⟩); have HT3 := Lib.hid ((HT2.out.trans (Turn.of_below ((Below.refl wr.heap.size wr).alloc (Nat.le_refl _) (.cells #[.int .u8 221] 5)))).upd hu2 HO2.out); have HO3 := Lib.hid (show ∀ g, v2.ownBlock = some g → S g ∨ w10.heap.size ≤ g from fun g hg => hu2.own.elim (fun e => HO2.out g (e.symm.trans hg)) (fun ⟨q, e, hq⟩ => by rw [e] at hg; have h1 : q = g := Option.some.inj hg; have := HT2.out.size; simp at hq; right; omega)); clear hs2 hu2)
          go_roundw
          case rel => exact ⟨j + 1, v2, by omega, by go_num, rfl, HS2, HO3, HT3⟩
          case measure => simp [intOf]; omega
        · obtain rfl : j = 16 := by omega
          have HBF := Lib.hid (HP.out.bl.trans (HT2.out.below (B := w.heap.size) (fun g hg => by rw [HSE.out] at hg; exact (HP.out.pN g hg).1) HP.out.bl.size))
          have HSM := Lib.hid (show Calls Tryd.prog 17 #[.slice A2 L.length c2, .slice A3 L.length c3] wr (fun e w' => e = .returned (.bool true) ∧ wr = w') from by
            have h := same_c A2 A3 L L c2 c3 wr (BSlab.inn (Slab.turn HP.out.q HT2.out (fun g hg hs => by rw [HSE.out] at hs; exact (HP.out.pN g hs).2.1 hg))) (BSlab.inn (Slab.turn HP.out.r HT2.out (fun g hg hs => by rw [HSE.out] at hs; exact (HP.out.pN g hs).2.2 hg)))
            rwa [show (L == L) = true by simp] at h)
          go_wp2_with (first
            | (go_at_call 17; refine HSM.out.mono ?_; rintro e w' ⟨rfl, rfl⟩)
            | (go_at_call 12; refine (HL.out _ HBF.out).mono ?_; rintro e w' ⟨rfl, hb⟩))
          go_ret
          exact ⟨rfl, hb⟩
end Go.Proofs.YtkpickojeghppaaDoor
