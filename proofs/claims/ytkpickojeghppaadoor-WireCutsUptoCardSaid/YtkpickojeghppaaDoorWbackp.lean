/- A message there and back, and a byte turned, in plain Lean. Conditions: none. -/
import Derived.Test.YtkpickojeghppaaDoorWplain
namespace Go.Proofs.YtkpickojeghppaaDoor
theorem head_numbs (a b c d e : Nat) (ha : a < 4294967296) (hb : b < 4294967296) (hc : c < 4294967296) (hd : d < 4294967296) (he : e < 4294967296) (t : List UInt8) :
    numb ([100, 107, 116, 49] ++ four a ++ four b ++ four c ++ four d ++ four e ++ t) 4 = a ∧ numb ([100, 107, 116, 49] ++ four a ++ four b ++ four c ++ four d ++ four e ++ t) 8 = b ∧ numb ([100, 107, 116, 49] ++ four a ++ four b ++ four c ++ four d ++ four e ++ t) 12 = c ∧
    numb ([100, 107, 116, 49] ++ four a ++ four b ++ four c ++ four d ++ four e ++ t) 16 = d ∧ numb ([100, 107, 116, 49] ++ four a ++ four b ++ four c ++ four d ++ four e ++ t) 20 = e := by
  have key : ∀ (p : List UInt8) (n k : Nat) (r : List UInt8), n < 4294967296 → p.length = k → numb (p ++ (four n ++ r)) k = n := fun p n k r hn hk => by
    have h := numb_right p (four n ++ r) 0
    rw [Nat.add_zero] at h
    rw [← hk, h, numb_four n hn r]
  refine ⟨?_, ?_, ?_, ?_, ?_⟩
  · simp only [List.append_assoc]; exact key _ _ _ _ ha rfl
  · have := key ([100, 107, 116, 49] ++ four a) b 8 (four c ++ four d ++ four e ++ t) hb rfl
    simpa only [List.append_assoc] using this
  · have := key ([100, 107, 116, 49] ++ four a ++ four b) c 12 (four d ++ four e ++ t) hc rfl
    simpa only [List.append_assoc] using this
  · have := key ([100, 107, 116, 49] ++ four a ++ four b ++ four c) d 16 (four e ++ t) hd rfl
    simpa only [List.append_assoc] using this
  · have := key ([100, 107, 116, 49] ++ four a ++ four b ++ four c ++ four d) e 20 t he rfl
    simpa only [List.append_assoc] using this
theorem packA_len (m : WMsg) : (packA m).length = 24 + m.body.size := by
  unfold packA
  simp only [List.length_append, four_len, List.length_cons, List.length_nil, Array.length_toList]
  rfl
theorem packed_len (m : WMsg) : (packed m).length = m.size := by
  unfold packed WMsg.size
  split
  · rw [List.length_append, packA_len, four_len]
  · rw [packA_len]; omega
theorem packE_zero {m : WMsg} (h : packE m = 0) : 1 ≤ m.kind ∧ m.kind ≤ 6 ∧ m.size ≤ 131072 := by
  unfold packE at h
  split at h
  · cases h
  · split at h
    · cases h
    · omega
theorem packL_zero {m : WMsg} (h : packE m = 0) : packL m = packed m := if_pos h
/-- what the whole message reads as -/
theorem whole_packed (m : WMsg) (hid : m.id < 4294967296) (hto : m.to < 4294967296) (h : packE m = 0) (r : List UInt8) : whole (packed m ++ r) m.size = .ok m m.size ∧ numb (packed m ++ r) 4 = m.size := by
  obtain ⟨h1, h2, h3⟩ := packE_zero h
  obtain ⟨tail, htail⟩ : ∃ t, packed m ++ r = [100, 107, 116, 49] ++ four m.size ++ four m.id ++ four m.to ++ four m.kind.toNat ++ four (if m.sum then 1 else 0) ++ t := by
    obtain ⟨z, hz⟩ : ∃ z, packed m = packA m ++ z := by
      unfold packed
      split
      · exact ⟨_, rfl⟩
      · exact ⟨[], by simp⟩
    rw [hz]
    unfold packA
    exact ⟨m.body.data.toList ++ (z ++ r), by simp only [List.append_assoc]⟩
  obtain ⟨n4, n8, n12, n16, n20⟩ := head_numbs m.size m.id m.to m.kind.toNat (if m.sum then 1 else 0) (by omega) hid hto (by omega) (by split <;> omega) tail
  rw [← htail] at n4 n8 n12 n16 n20
  refine ⟨?_, n4⟩
  have hA := packA_len m
  have hbody : ∀ z : List UInt8, bodyOf (packA m ++ z) 24 (24 + m.body.size) = m.body := fun z => by
    unfold bodyOf
    rw [List.take_append_of_le_length (by omega), List.take_of_length_le (by omega)]
    have : (packA m).drop 24 = m.body.data.toList := by
      unfold packA
      rw [List.drop_append_of_le_length (by simp [four]), List.drop_of_length_le (by simp [four])]
      rfl
    rw [this]
  have hk : ((m.kind.toNat : Nat) : Int) = m.kind := by omega
  unfold whole
  rw [n16, n20, n8, n12, if_neg (by omega)]
  cases hs : m.sum with
  | true =>
    have hsz : m.size = 28 + m.body.size := by unfold WMsg.size; rw [hs]; simp; omega
    have hp : packed m ++ r = packA m ++ (four (crc (packA m)) ++ r) := by unfold packed; rw [if_pos hs, List.append_assoc]
    rw [if_neg (by simp), if_pos (by simp), if_neg (by omega)]
    have e4 : m.size - 4 = 24 + m.body.size := by omega
    rw [e4]
    have ht : (packed m ++ r).take (24 + m.body.size) = packA m := by
      rw [hp, List.take_append_of_le_length (by omega), List.take_of_length_le (by omega)]
    have hn : numb (packed m ++ r) (24 + m.body.size) = crc (packA m) := by
      rw [hp, ← hA]
      have := numb_right (packA m) (four (crc (packA m)) ++ r) 0
      rw [Nat.add_zero] at this
      rw [this, numb_four _ (crc_lt _)]
    rw [ht, hn, if_neg (by simp), hp, hbody, hk]
    obtain ⟨a, b, c, d, e⟩ := m
    simp only at hs
    subst hs
    rfl
  | false =>
    have hsz : m.size = 24 + m.body.size := by unfold WMsg.size; rw [hs]; simp
    have hp : packed m ++ r = packA m ++ r := by unfold packed; rw [hs]; rfl
    rw [if_neg (by simp), if_neg (by simp), hp, hsz, hbody, hk]
    obtain ⟨a, b, c, d, e⟩ := m
    simp only at hs
    subst hs
    rfl
theorem unpack_packed (m : WMsg) (hid : m.id < 4294967296) (hto : m.to < 4294967296) (h : packE m = 0) (r : List UInt8) : unpack (packL m ++ r) = .ok m (packL m).length := by
  obtain ⟨hw, h4⟩ := whole_packed m hid hto h r
  obtain ⟨h1, h2, h3⟩ := packE_zero h
  rw [packL_zero h]
  have hl := packed_len m
  have hm : m.size = 24 + m.body.size + (if m.sum then 4 else 0) := rfl
  have htake : (packed m ++ r).take 4 = [100, 107, 116, 49] := by
    unfold packed packA
    split <;> simp [four]
  unfold unpack
  rw [htake, if_neg, if_neg, h4, if_neg (by omega), if_neg (by omega), if_neg, hw, hl]
  · rw [List.length_append]; omega
  · rw [List.length_append]; omega
  · intro hn; apply hn
    rw [List.take_of_length_le]
    rw [List.length_append]; simp; omega
theorem numb_bts {l l' : List UInt8} {k : Nat} (h : numb l k = numb l' k) : bt l k = bt l' k ∧ bt l (k + 1) = bt l' (k + 1) ∧ bt l (k + 2) = bt l' (k + 2) ∧ bt l (k + 3) = bt l' (k + 3) := by
  have := bt_lt l k
  have := bt_lt l (k + 1)
  have := bt_lt l (k + 2)
  have := bt_lt l (k + 3)
  have := bt_lt l' k
  have := bt_lt l' (k + 1)
  have := bt_lt l' (k + 2)
  have := bt_lt l' (k + 3)
  unfold numb at h
  omega
theorem bt_set_ne (l : List UInt8) (j k : Nat) (x : UInt8) (h : j ≠ k) : bt (l.set j x) k = bt l k := by
  unfold bt
  rw [List.getD_eq_getElem?_getD, List.getD_eq_getElem?_getD, List.getElem?_set_ne h]
theorem numb_set_ne (l : List UInt8) (j k : Nat) (x : UInt8) (h : j < k ∨ k + 4 ≤ j) : numb (l.set j x) k = numb l k := by
  unfold numb
  rw [bt_set_ne _ _ _ _ (by omega), bt_set_ne _ _ _ _ (by omega), bt_set_ne _ _ _ _ (by omega), bt_set_ne _ _ _ _ (by omega)]
theorem turned_p (m : WMsg) (P : List UInt8) (hp : packed m = P) (hid : m.id < 4294967296) (hto : m.to < 4294967296) (h : packE m = 0) (hsum : m.sum = true) (j : Nat) (hj : 8 ≤ j) (hjl : j < P.length) (x : UInt8) (hx : x ≠ P[j]) :
    (unpack (P.set j x)).err ≠ 0 ∨ (unpack (P.set j x)).msg.sum = false := by
  obtain ⟨hw, h4⟩ := whole_packed m hid hto h []
  rw [List.append_nil, hp] at hw h4
  obtain ⟨h1, h2, h3⟩ := packE_zero h
  have hlen := packed_len m
  rw [hp] at hlen
  have hsz : m.size = 28 + m.body.size := by unfold WMsg.size; rw [hsum]; simp; omega
  have hA := packA_len m
  have hPA : P = packA m ++ four (crc (packA m)) := by rw [← hp]; unfold packed; rw [if_pos hsum]
  have c4 : numb (P.set j x) 4 = m.size := by rw [numb_set_ne _ _ _ _ (.inr (by omega)), h4]
  have hlc : (P.set j x).length = m.size := by rw [List.length_set, hlen]
  have hn4 : numb P (m.size - 4) = crc (P.take (m.size - 4)) := by
    have e : m.size - 4 = (packA m).length := by omega
    rw [e, hPA]
    have := numb_right (packA m) (four (crc (packA m))) 0
    rw [Nat.add_zero] at this
    rw [this, List.take_append_of_le_length (Nat.le_refl _), List.take_length]
    have := numb_four (crc (packA m)) (crc_lt _) []
    rwa [List.append_nil] at this
  have hbad : crc ((P.set j x).take (m.size - 4)) ≠ numb (P.set j x) (m.size - 4) := by
    intro heq
    rcases Nat.lt_or_ge j (m.size - 4) with hlt | hge
    · rw [numb_set_ne _ _ _ _ (.inl hlt), hn4, List.take_set] at heq
      have hjt : j < (P.take (m.size - 4)).length := by rw [List.length_take]; omega
      have hd : P.take (m.size - 4) = (P.take (m.size - 4)).take j ++ (P.take (m.size - 4))[j] :: (P.take (m.size - 4)).drop (j + 1) := by
        rw [← List.drop_eq_getElem_cons hjt, List.take_append_drop]
      rw [List.set_eq_take_append_cons_drop, if_pos hjt] at heq
      rw [show crc (P.take (m.size - 4)) = crc ((P.take (m.size - 4)).take j ++ (P.take (m.size - 4))[j] :: (P.take (m.size - 4)).drop (j + 1)) by rw [← hd]] at heq
      have := crc_turned _ _ _ _ heq
      apply hx
      rw [this, List.getElem_take]
    · have ht : (P.set j x).take (m.size - 4) = P.take (m.size - 4) := List.take_set_of_le hge
      rw [ht, ← hn4] at heq
      obtain ⟨b0, b1, b2, b3⟩ := numb_bts heq
      have hset : bt (P.set j x) j = x.toNat := by unfold bt; rw [List.getD_eq_getElem?_getD, List.getElem?_set_self (by omega)]; rfl
      have hold : bt P j = (P[j]).toNat := by unfold bt; rw [List.getD_eq_getElem?_getD, List.getElem?_eq_getElem (by omega)]; rfl
      have hne : x.toNat ≠ (P[j]).toNat := fun e => hx (UInt8.toNat_inj.1 e)
      have hc : j = m.size - 4 ∨ j = m.size - 4 + 1 ∨ j = m.size - 4 + 2 ∨ j = m.size - 4 + 3 := by omega
      rcases hc with e | e | e | e
      · rw [← e] at b0; omega
      · rw [← e] at b1; omega
      · rw [← e] at b2; omega
      · rw [← e] at b3; omega
  have hpos : ∀ e : Nat, (0 < e) → (UR.bad e).err ≠ 0 := fun e he => by show e ≠ 0; omega
  unfold unpack
  split
  · exact .inl (hpos _ (by omega))
  split
  · exact .inl (hpos _ (by omega))
  rw [c4]
  split
  · exact .inl (hpos _ (by omega))
  split
  · exact .inl (hpos _ (by omega))
  split
  · exact .inl (hpos _ (by omega))
  unfold whole
  split
  · exact .inl (hpos _ (by omega))
  split
  · exact .inl (hpos _ (by omega))
  split
  · split
    · exact .inl (hpos _ (by omega))
    · exact .inl (hpos _ (by omega))
  · exact .inr rfl
/-- a byte behind the length is turned: that shows, or the message bears no sum any more -/
theorem turned (m : WMsg) (hid : m.id < 4294967296) (hto : m.to < 4294967296) (h : packE m = 0) (hsum : m.sum = true) (j : Nat) (hj : 8 ≤ j) (hjl : j < (packL m).length) (x : UInt8) (hx : x ≠ (packL m)[j]) :
    (unpack ((packL m).set j x)).err ≠ 0 ∨ (unpack ((packL m).set j x)).msg.sum = false :=
  turned_p m _ (packL_zero h).symm hid hto h hsum j hj hjl x hx
end Go.Proofs.YtkpickojeghppaaDoor
