/- Plain law: the bytes of values lie as values do, and none are a beginning of another's. Conditions: none. -/
import Derived.Test.YtjmhoccikbgigaaDoorChk
import Derived.Test.YtjmhoccikbgigaaDoorOrdtotal
import Derived.Test.YtjmhoccikbgigaaDoorOrdtexts
namespace Go.Proofs.YtjmhoccikbgigaaDoor
open Go.RowKit
mutual
/-- a value that fits its kind, as all in it -/
def okV : JV → Prop
  | .mk k n s ns is => fitsB k n s ns.length is.length = true ∧ okVs is
def okVs : List JV → Prop
  | [] => True
  | t :: r => okV t ∧ okVs r
end
mutual
theorem okV_chk : ∀ (t : JV) (d : Int), chk t d = 0 → okV t
  | .mk k n s ns is, d, h => by
    rw [chk] at h
    rw [okV]
    split at h
    · exact absurd h (by decide)
    · split at h
      · exact absurd h (by decide)
      · rename_i h2
        exact ⟨by simpa using h2, okV_chkL _ _ _ _ _ h⟩
theorem okV_chkL : ∀ (o : Bool) (ns seen : List ByteArray) (is : List JV) (d : Int), chkL o ns seen is d = 0 → okVs is
  | _, _, _, [], _, _ => by rw [okVs]; trivial
  | o, ns, seen, t :: r, d, h => by
    rw [chkL] at h
    rw [okVs]
    split at h
    · exact absurd h (by decide)
    · split at h
      · exact absurd h (by decide)
      · split at h
        · rename_i h3
          exact ⟨okV_chk t (d + 1) h3, okV_chkL _ _ _ _ _ h⟩
        · contradiction
end
theorem fits_kind {k n : Int} {s : ByteArray} {ln li : Nat} (h : fitsB k n s ln li = true) : k = 0 ∨ k = 1 ∨ k = 2 ∨ k = 3 ∨ k = 4 ∨ k = 5 ∨ k = 6 := by
  unfold fitsB at h
  split at h
  · omega
  · split at h
    · omega
    · split at h
      · omega
      · split at h
        · omega
        · split at h
          · omega
          · cases h
theorem empty_text {s : ByteArray} (h : s.toList.isEmpty = true) : s = ⟨#[]⟩ := by
  rw [ByteArray.toList_eq, List.isEmpty_iff] at h
  exact ByteArray.ext (Array.ext' h)
/-- what a value that fits has -/
theorem fits_form {k n : Int} {s : ByteArray} {ln li : Nat} (h : fitsB k n s ln li = true) :
    (k ≠ 3 → n = 0) ∧ (k ≠ 4 → s = ⟨#[]⟩) ∧ (k ≠ 6 → ln = 0) ∧ (k ≠ 5 → k ≠ 6 → li = 0) ∧ (k = 6 → ln = li) := by
  rcases fits_kind h with rfl | rfl | rfl | rfl | rfl | rfl | rfl
  all_goals simp [fitsB] at h
  · exact ⟨fun _ => h.1.1.1, fun _ => empty_text (by simpa using h.1.1.2), fun _ => by omega, fun _ _ => by omega, fun e => absurd e (by decide)⟩
  · exact ⟨fun _ => h.1.1.1, fun _ => empty_text (by simpa using h.1.1.2), fun _ => by omega, fun _ _ => by omega, fun e => absurd e (by decide)⟩
  · exact ⟨fun _ => h.1.1.1, fun _ => empty_text (by simpa using h.1.1.2), fun _ => by omega, fun _ _ => by omega, fun e => absurd e (by decide)⟩
  · exact ⟨fun e => absurd rfl e, fun _ => empty_text (by simpa using h.1.1), fun _ => by omega, fun _ _ => by omega, fun e => absurd e (by decide)⟩
  · exact ⟨fun _ => h.1.1.1, fun e => absurd rfl e, fun _ => by omega, fun _ _ => by omega, fun e => absurd e (by decide)⟩
  · exact ⟨fun _ => h.1.1, fun _ => empty_text (by simpa using h.1.2), fun _ => by omega, fun e => absurd rfl e, fun e => absurd e (by decide)⟩
  · exact ⟨fun _ => h.1.1, fun _ => empty_text (by simpa using h.1.2), fun e => absurd rfl e, fun _ e => absurd rfl e, fun _ => by omega⟩
theorem txt_eq {a b : List UInt8} (h : txt a b = 0) : a = b := by
  rcases txt_spec a b with ⟨_, h2⟩ | ⟨_, _, h3⟩ | ⟨h1, _⟩
  · rw [h] at h2; exact absurd h2 (by decide)
  · rw [h] at h3; exact absurd h3 (by decide)
  · exact h1
theorem text_eq {a b : ByteArray} (h : txt a.data.toList b.data.toList = 0) : a = b := ByteArray.ext (Array.ext' (txt_eq h))
theorem sgn_zero {a b : Int} (h : sgn a b = 0) : a = b := by unfold sgn at h; split at h; cases h; split at h; cases h; omega
theorem rank_eq {k k' : Int} (hk : k = 0 ∨ k = 1 ∨ k = 2 ∨ k = 3 ∨ k = 4 ∨ k = 5 ∨ k = 6) (hk' : k' = 0 ∨ k' = 1 ∨ k' = 2 ∨ k' = 3 ∨ k' = 4 ∨ k' = 5 ∨ k' = 6) (h : rankK k = rankK k') : k = k' := by
  rcases hk with rfl | rfl | rfl | rfl | rfl | rfl | rfl <;> rcases hk' with rfl | rfl | rfl | rfl | rfl | rfl | rfl <;> first | rfl | (revert h; decide)
theorem ordM_nil_cons (m : ByteArray) (ns : List ByteArray) (y : JV) (b : List JV) : ordM [] [] (m :: ns) (y :: b) = -1 := by
  rw [ordM]
  · unfold sgn; rw [if_pos (by simp only [List.length_cons, List.length_nil]; omega)]
  all_goals (intros; contradiction)
theorem ordM_cons_nil (m : ByteArray) (ns : List ByteArray) (y : JV) (b : List JV) : ordM (m :: ns) (y :: b) [] [] = 1 := by
  rw [ordM]
  · unfold sgn; rw [if_neg (by simp only [List.length_cons, List.length_nil]; omega), if_pos (by simp only [List.length_cons, List.length_nil]; omega)]
  all_goals (intros; contradiction)
mutual
/-- two values that fit stand alike only if they are the same -/
theorem ord_zero : ∀ (t u : JV), okV t → okV u → ord t u = 0 → t = u
  | .mk k n s ns is, .mk k' n' s' ns' is', ht, hu, h => by
    rw [okV] at ht hu
    obtain ⟨hf, hi⟩ := ht
    obtain ⟨hf', hi'⟩ := hu
    rw [ord] at h
    by_cases hr : sgn (rankK k) (rankK k') ≠ 0
    · rw [if_pos hr] at h; exact absurd h hr
    · rw [if_neg hr] at h
      obtain rfl : k = k' := rank_eq (fits_kind hf) (fits_kind hf') (sgn_zero (by simpa using hr))
      obtain ⟨f1, f2, f3, f4, f5⟩ := fits_form hf
      obtain ⟨g1, g2, g3, g4, g5⟩ := fits_form hf'
      have e1 : n = n' := by
        by_cases h3 : k = 3
        · rw [if_pos h3] at h; exact sgn_zero h
        · rw [f1 h3, g1 h3]
      have e2 : s = s' := by
        by_cases h4 : k = 4
        · rw [if_neg (by omega), if_pos h4] at h; exact text_eq h
        · rw [f2 h4, g2 h4]
      by_cases h5 : k = 5
      · rw [if_neg (by omega), if_neg (by omega), if_pos h5] at h
        have e3 := ordL_zero is is' hi hi' h
        have n1 := List.eq_nil_of_length_eq_zero (f3 (by omega))
        have n2 := List.eq_nil_of_length_eq_zero (g3 (by omega))
        rw [e1, e2, e3, n1, n2]
      · by_cases h6 : k = 6
        · rw [if_neg (by omega), if_neg (by omega), if_neg h5, if_pos h6] at h
          obtain ⟨e3, e4⟩ := ordM_zero ns is ns' is' (f5 h6) (g5 h6) hi hi' h
          rw [e1, e2, e3, e4]
        · have n1 := List.eq_nil_of_length_eq_zero (f3 h6)
          have n2 := List.eq_nil_of_length_eq_zero (g3 h6)
          have n3 := List.eq_nil_of_length_eq_zero (f4 h5 h6)
          have n4 := List.eq_nil_of_length_eq_zero (g4 h5 h6)
          rw [e1, e2, n1, n2, n3, n4]
theorem ordL_zero : ∀ (a b : List JV), okVs a → okVs b → ordL a b = 0 → a = b
  | [], [], _, _, _ => rfl
  | [], _ :: _, _, _, h => by rw [ordL] at h; exact absurd h (by decide)
  | _ :: _, [], _, _, h => by rw [ordL] at h; exact absurd h (by decide)
  | x :: a, y :: b, ha, hb, h => by
    rw [okVs] at ha hb
    rw [ordL] at h
    by_cases ho : ord x y ≠ 0
    · rw [if_pos ho] at h; exact absurd h ho
    · rw [if_neg ho] at h
      rw [ord_zero x y ha.1 hb.1 (by simpa using ho), ordL_zero a b ha.2 hb.2 h]
theorem ordM_zero : ∀ (ns : List ByteArray) (a : List JV) (ns' : List ByteArray) (b : List JV), ns.length = a.length → ns'.length = b.length → okVs a → okVs b → ordM ns a ns' b = 0 → ns = ns' ∧ a = b
  | [], [], [], [], _, _, _, _, _ => ⟨rfl, rfl⟩
  | [], [], m :: ns', y :: b, _, _, _, _, h => by rw [ordM_nil_cons] at h; exact absurd h (by decide)
  | m :: ns, x :: a, [], [], _, _, _, _, h => by rw [ordM_cons_nil] at h; exact absurd h (by decide)
  | m :: ns, x :: a, m' :: ns', y :: b, h1, h2, ha, hb, h => by
    rw [okVs] at ha hb
    rw [ordM] at h
    by_cases ht : txt m.data.toList m'.data.toList ≠ 0
    · rw [if_pos ht] at h; exact absurd h ht
    · rw [if_neg ht] at h
      by_cases ho : ord x y ≠ 0
      · rw [if_pos ho] at h; exact absurd h ho
      · rw [if_neg ho] at h
        obtain ⟨e1, e2⟩ := ordM_zero ns a ns' b (by simpa using h1) (by simpa using h2) ha.2 hb.2 h
        have e3 : m = m' := text_eq (by simpa using ht)
        have e4 : x = y := ord_zero x y ha.1 hb.1 (by simpa using ho)
        rw [e1, e2, e3, e4]
        exact ⟨rfl, rfl⟩
end
theorem txt_cons_lt {a b : UInt8} (h : a.toNat < b.toNat) (x y : List UInt8) : txt (a :: x) (b :: y) = -1 := by rw [txt, if_pos h]
theorem txt_cons_gt {a b : UInt8} (h : b.toNat < a.toNat) (x y : List UInt8) : txt (a :: x) (b :: y) = 1 := by rw [txt, if_neg (by omega), if_pos h]
theorem txt_cons_eq (a : UInt8) (x y : List UInt8) : txt (a :: x) (a :: y) = txt x y := by rw [txt, if_neg (by omega), if_neg (by omega)]
theorem flat_zero (r : List UInt8) : encT (0 :: r) = 0 :: 255 :: encT r := by simp [encT]
theorem flat_other {c : UInt8} (h : c ≠ 0) (r : List UInt8) : encT (c :: r) = c :: encT r := by simp [encT, h]
theorem flat_end : encT [] = [0, 1] := rfl
theorem pos_of_ne {c : UInt8} (h : c ≠ 0) : (0 : UInt8).toNat < c.toNat := by
  rcases Nat.eq_zero_or_pos c.toNat with e | e
  · exact absurd (UInt8.toNat_inj.1 (by rw [e]; rfl)) h
  · exact e
/-- texts lie as they do -/
theorem lies_text : ∀ (a b x y : List UInt8), txt (encT a ++ x) (encT b ++ y) = if txt a b ≠ 0 then txt a b else txt x y
  | [], [], x, y => by
    rw [flat_end]; show txt (0 :: 1 :: x) (0 :: 1 :: y) = _
    rw [txt_cons_eq, txt_cons_eq]; rfl
  | [], c :: r, x, y => by
    have e : txt [] (c :: r) = -1 := rfl
    rw [e, if_pos (by decide), flat_end]
    by_cases h : c = 0
    · subst h; rw [flat_zero]; show txt (0 :: 1 :: x) (0 :: 255 :: _) = _
      rw [txt_cons_eq, txt_cons_lt (by decide)]
    · rw [flat_other h]; exact txt_cons_lt (pos_of_ne h) _ _
  | c :: r, [], x, y => by
    have e : txt (c :: r) [] = 1 := rfl
    rw [e, if_pos (by decide), flat_end]
    by_cases h : c = 0
    · subst h; rw [flat_zero]; show txt (0 :: 255 :: _) (0 :: 1 :: y) = _
      rw [txt_cons_eq, txt_cons_gt (by decide)]
    · rw [flat_other h]; exact txt_cons_gt (pos_of_ne h) _ _
  | c :: r, d :: q, x, y => by
    have ih := lies_text r q x y
    by_cases h : c = 0
    · subst h
      by_cases h' : d = 0
      · subst h'
        rw [flat_zero, flat_zero, txt_cons_eq 0 r q]
        show txt (0 :: 255 :: (encT r ++ x)) (0 :: 255 :: (encT q ++ y)) = _
        rw [txt_cons_eq, txt_cons_eq]; exact ih
      · rw [flat_zero, flat_other h', txt_cons_lt (pos_of_ne h') r q, if_pos (by decide)]
        exact txt_cons_lt (pos_of_ne h') _ _
    · by_cases h' : d = 0
      · subst h'
        rw [flat_zero, flat_other h, txt_cons_gt (pos_of_ne h) r q, if_pos (by decide)]
        exact txt_cons_gt (pos_of_ne h) _ _
      · rw [flat_other h, flat_other h']
        rcases Nat.lt_trichotomy c.toNat d.toNat with e | e | e
        · rw [txt_cons_lt e r q, if_pos (by decide)]; exact txt_cons_lt e _ _
        · obtain rfl := UInt8.toNat_inj.1 e
          rw [txt_cons_eq c r q]
          show txt (c :: (encT r ++ x)) (c :: (encT q ++ y)) = _
          rw [txt_cons_eq]; exact ih
        · rw [txt_cons_gt e r q, if_pos (by decide)]; exact txt_cons_gt e _ _
/-- a number's last k bytes, the greatest first -/
def beN : Nat → Nat → List UInt8
  | 0, _ => []
  | k + 1, N => UInt8.ofNat (N / 256 ^ k) :: beN k N
theorem lies_be : ∀ (k N M : Nat) (x y : List UInt8), txt (beN k N ++ x) (beN k M ++ y) = if N % 256 ^ k < M % 256 ^ k then -1 else if M % 256 ^ k < N % 256 ^ k then 1 else txt x y
  | 0, N, M, x, y => by simp [beN, Nat.mod_one]
  | k + 1, N, M, x, y => by
    have ih := lies_be k N M x y
    have eN : N % 256 ^ (k + 1) = N % 256 ^ k + 256 ^ k * (N / 256 ^ k % 256) := by rw [Nat.pow_succ, Nat.mod_mul]
    have eM : M % 256 ^ (k + 1) = M % 256 ^ k + 256 ^ k * (M / 256 ^ k % 256) := by rw [Nat.pow_succ, Nat.mod_mul]
    have hB : 0 < 256 ^ k := Nat.pow_pos (by decide)
    have hN := Nat.mod_lt N hB
    have hM := Nat.mod_lt M hB
    have tN : (UInt8.ofNat (N / 256 ^ k)).toNat = N / 256 ^ k % 256 := by rw [UInt8.toNat_ofNat']
    have tM : (UInt8.ofNat (M / 256 ^ k)).toNat = M / 256 ^ k % 256 := by rw [UInt8.toNat_ofNat']
    rw [eN, eM]
    show txt (UInt8.ofNat (N / 256 ^ k) :: (beN k N ++ x)) (UInt8.ofNat (M / 256 ^ k) :: (beN k M ++ y)) = _
    rw [txt, tN, tM, ih]
    generalize N / 256 ^ k % 256 = a
    generalize M / 256 ^ k % 256 = b
    generalize N % 256 ^ k = p at *
    generalize M % 256 ^ k = q at *
    generalize 256 ^ k = B at *
    rcases Nat.lt_trichotomy a b with h | h | h
    · have h2 : B * (a + 1) ≤ B * b := Nat.mul_le_mul_left _ h
      rw [Nat.mul_add] at h2
      rw [if_pos h, if_pos (by omega)]
    · subst h
      rw [if_neg (Nat.lt_irrefl _), if_neg (Nat.lt_irrefl _)]
      simp only [Nat.add_lt_add_iff_right]
    · have h2 : B * (b + 1) ≤ B * a := Nat.mul_le_mul_left _ h
      rw [Nat.mul_add] at h2
      rw [if_neg (by omega), if_pos h, if_neg (by omega), if_pos (by omega)]
theorem encN_be (n : Int) : encN n = beN 8 (n + 9223372036854775808).toNat := by
  unfold encN
  simp only [List.range, List.range.loop, List.map, byteN, beN]
theorem lies_num (n m : Int) (hn : -9223372036854775808 ≤ n ∧ n ≤ 9223372036854775807) (hm : -9223372036854775808 ≤ m ∧ m ≤ 9223372036854775807) (x y : List UInt8) :
    txt (encN n ++ x) (encN m ++ y) = if sgn n m ≠ 0 then sgn n m else txt x y := by
  rw [encN_be, encN_be, lies_be, Nat.mod_eq_of_lt (show _ < 256 ^ 8 by omega), Nat.mod_eq_of_lt (show _ < 256 ^ 8 by omega)]
  rcases Int.lt_trichotomy n m with h | h | h
  · rw [if_pos (by omega), show sgn n m = -1 from if_pos h, if_pos (by decide)]
  · subst h; rw [if_neg (by omega), if_neg (by omega), show sgn n n = 0 by simp [sgn], if_neg (by decide)]
  · rw [if_neg (by omega), if_pos (by omega), show sgn n m = 1 by unfold sgn; rw [if_neg (by omega), if_pos h], if_pos (by decide)]
mutual
/-- whose numbers are numbers -/
def okN : JV → Prop
  | .mk _ n _ _ is => (-9223372036854775808 ≤ n ∧ n ≤ 9223372036854775807) ∧ okNs is
def okNs : List JV → Prop
  | [] => True
  | t :: r => okN t ∧ okNs r
end
mutual
theorem okN_rep {w : World} {ok : Nat → Prop} : ∀ (t : JV) (cs : List Value), Rep w ok t cs → okN t
  | .mk k n s ns is, cs, h => by
    rw [rep_mk] at h
    obtain ⟨_, h2, _, an, cn, ai, ci, _, _, _, _, h7⟩ := h
    rw [okN]
    refine ⟨h2, ?_⟩
    rcases h7 with rfl | ⟨b, off, _, _, hl⟩
    · rw [okNs]; trivial
    · exact okNs_rep is b off hl
theorem okNs_rep {w : World} {ok : Nat → Prop} : ∀ (l : List JV) (b off : Nat), RepAll w ok l b off → okNs l
  | [], _, _, _ => by rw [okNs]; trivial
  | t :: r, b, off, h => by
    rw [RepAll] at h
    obtain ⟨⟨cs, h1, _⟩, h3⟩ := h
    rw [okNs]
    exact ⟨okN_rep t cs h1, okNs_rep r b (off + 5) h3⟩
end
/-- the first byte of a value of a kind -/
def tagOf (k : Int) : UInt8 := if k = 0 then 5 else if k = 1 then 80 else if k = 2 then 81 else if k = 3 then 16 else if k = 4 then 32 else if k = 6 then 48 else 64
def restOf : JV → List UInt8
  | .mk k n s ns is => if k = 0 then [] else if k = 1 then [] else if k = 2 then [] else if k = 3 then encN n else if k = 4 then encT s.data.toList else if k = 6 then encM ns is ++ [1] else encL is ++ [1]
theorem enc_tag (k n : Int) (s : ByteArray) (ns : List ByteArray) (is : List JV) : enc (.mk k n s ns is) = tagOf k :: restOf (.mk k n s ns is) := by
  rw [enc, restOf]; unfold tagOf
  by_cases h0 : k = 0
  · rw [if_pos h0, if_pos h0, if_pos h0]
  rw [if_neg h0, if_neg h0, if_neg h0]
  by_cases h1 : k = 1
  · rw [if_pos h1, if_pos h1, if_pos h1]
  rw [if_neg h1, if_neg h1, if_neg h1]
  by_cases h2 : k = 2
  · rw [if_pos h2, if_pos h2, if_pos h2]
  rw [if_neg h2, if_neg h2, if_neg h2]
  by_cases h3 : k = 3
  · rw [if_pos h3, if_pos h3, if_pos h3]
  rw [if_neg h3, if_neg h3, if_neg h3]
  by_cases h4 : k = 4
  · rw [if_pos h4, if_pos h4, if_pos h4]
  rw [if_neg h4, if_neg h4, if_neg h4]
  by_cases h6 : k = 6
  · rw [if_pos h6, if_pos h6, if_pos h6]
  rw [if_neg h6, if_neg h6, if_neg h6]
theorem tag_rank {k k' : Int} (hk : k = 0 ∨ k = 1 ∨ k = 2 ∨ k = 3 ∨ k = 4 ∨ k = 5 ∨ k = 6) (hk' : k' = 0 ∨ k' = 1 ∨ k' = 2 ∨ k' = 3 ∨ k' = 4 ∨ k' = 5 ∨ k' = 6) (x y : List UInt8) :
    txt (tagOf k :: x) (tagOf k' :: y) = if sgn (rankK k) (rankK k') ≠ 0 then sgn (rankK k) (rankK k') else txt x y := by
  rcases hk with rfl | rfl | rfl | rfl | rfl | rfl | rfl <;> rcases hk' with rfl | rfl | rfl | rfl | rfl | rfl | rfl <;>
    first | exact txt_cons_lt (by decide) _ _ | exact txt_cons_gt (by decide) _ _ | exact txt_cons_eq _ _ _
mutual
/-- bytes lie as values do -/
theorem lies : ∀ (t u : JV) (x y : List UInt8), okV t → okV u → okN t → okN u → txt (enc t ++ x) (enc u ++ y) = if ord t u ≠ 0 then ord t u else txt x y
  | .mk k n s ns is, .mk k' n' s' ns' is', x, y, ht, hu, hn, hm => by
    rw [okV] at ht hu
    rw [okN] at hn hm
    obtain ⟨hf, hi⟩ := ht
    obtain ⟨hf', hi'⟩ := hu
    rw [enc_tag, enc_tag, List.cons_append, List.cons_append, tag_rank (fits_kind hf) (fits_kind hf'), ord]
    by_cases hr : sgn (rankK k) (rankK k') ≠ 0
    · rw [if_pos hr, if_pos hr, if_pos hr]
    · rw [if_neg hr, if_neg hr]
      obtain rfl : k = k' := rank_eq (fits_kind hf) (fits_kind hf') (sgn_zero (by simpa using hr))
      clear hr
      unfold restOf
      by_cases h0 : k = 0
      · subst h0; simp
      by_cases h1 : k = 1
      · subst h1; simp
      by_cases h2 : k = 2
      · subst h2; simp
      by_cases h3 : k = 3
      · subst h3
        simp only [if_neg h0, if_neg h1, if_neg h2, if_pos]
        exact lies_num n n' hn.1 hm.1 x y
      by_cases h4 : k = 4
      · subst h4
        simp only [if_neg h0, if_neg h1, if_neg h2, if_neg h3, if_pos]
        exact lies_text _ _ x y
      by_cases h6 : k = 6
      · subst h6
        simp only [if_neg h0, if_neg h1, if_neg h2, if_neg h3, if_neg h4, if_pos, if_neg (show ¬ (6 : Int) = 5 by decide)]
        rw [List.append_assoc, List.append_assoc]
        exact liesM ns is ns' is' x y ((fits_form hf).2.2.2.2 rfl) ((fits_form hf').2.2.2.2 rfl) hi hi' hn.2 hm.2
      · have h5 : k = 5 := by have := fits_kind hf; omega
        subst h5
        simp only [if_neg h0, if_neg h1, if_neg h2, if_neg h3, if_neg h4, if_neg h6, if_pos]
        rw [List.append_assoc, List.append_assoc]
        exact liesL is is' x y hi hi' hn.2 hm.2
theorem liesL : ∀ (a b : List JV) (x y : List UInt8), okVs a → okVs b → okNs a → okNs b → txt (encL a ++ 1 :: x) (encL b ++ 1 :: y) = if ordL a b ≠ 0 then ordL a b else txt x y
  | [], [], x, y, _, _, _, _ => by
    rw [encL, ordL]; show txt (1 :: x) (1 :: y) = _
    rw [txt_cons_eq]; rfl
  | [], u :: b, x, y, _, _, _, _ => by rw [encL, encL, ordL, if_pos (by decide)]; exact txt_cons_lt (by decide) _ _
  | t :: a, [], x, y, _, _, _, _ => by rw [encL, encL, ordL, if_pos (by decide)]; exact txt_cons_gt (by decide) _ _
  | t :: a, u :: b, x, y, ha, hb, hn, hm => by
    rw [okVs] at ha hb
    rw [okNs] at hn hm
    rw [encL, encL]
    simp only [List.cons_append, List.append_assoc]
    rw [txt_cons_eq, lies t u _ _ ha.1 hb.1 hn.1 hm.1, liesL a b x y ha.2 hb.2 hn.2 hm.2, ordL]
    by_cases ho : ord t u ≠ 0
    · rw [if_pos ho, if_pos ho, if_pos ho]
    · rw [if_neg ho, if_neg ho]
theorem liesM : ∀ (ns : List ByteArray) (a : List JV) (ns' : List ByteArray) (b : List JV) (x y : List UInt8), ns.length = a.length → ns'.length = b.length → okVs a → okVs b → okNs a → okNs b →
    txt (encM ns a ++ 1 :: x) (encM ns' b ++ 1 :: y) = if ordM ns a ns' b ≠ 0 then ordM ns a ns' b else txt x y
  | [], [], [], [], x, y, _, _, _, _, _, _ => by
    have e : ordM [] [] [] [] = 0 := by
      rw [ordM]
      · rfl
      all_goals (intros; contradiction)
    rw [e, if_neg (by decide)]; show txt (encM [] [] ++ 1 :: x) (encM [] [] ++ 1 :: y) = _
    simp only [encM, List.nil_append]
    rw [txt_cons_eq]
  | [], [], m :: ns', u :: b, x, y, _, _, _, _, _, _ => by
    have e : ordM [] [] (m :: ns') (u :: b) = -1 := ordM_nil_cons _ _ _ _
    rw [e, if_pos (by decide)]
    simp only [encM, List.nil_append]
    exact txt_cons_lt (by decide) _ _
  | m :: ns, t :: a, [], [], x, y, _, _, _, _, _, _ => by
    have e : ordM (m :: ns) (t :: a) [] [] = 1 := ordM_cons_nil _ _ _ _
    rw [e, if_pos (by decide)]
    simp only [encM, List.nil_append]
    exact txt_cons_gt (by decide) _ _
  | m :: ns, t :: a, m' :: ns', u :: b, x, y, h1, h2, ha, hb, hn, hm => by
    rw [okVs] at ha hb
    rw [okNs] at hn hm
    rw [encM, encM]
    simp only [List.cons_append, List.append_assoc]
    rw [txt_cons_eq, lies_text, lies t u _ _ ha.1 hb.1 hn.1 hm.1]
    have ih := liesM ns a ns' b x y (by simpa using h1) (by simpa using h2) ha.2 hb.2 hn.2 hm.2
    rw [ih, ordM]
    by_cases ht : txt m.data.toList m'.data.toList ≠ 0
    · rw [if_pos ht, if_pos ht, if_pos ht]
    · rw [if_neg ht, if_neg ht]
      by_cases ho : ord t u ≠ 0
      · rw [if_pos ho, if_pos ho, if_pos ho]
      · rw [if_neg ho, if_neg ho]
end
/-- none are a beginning of another's -/
theorem lies_short (t u : JV) (ht : okV t) (hu : okV u) (hn : okN t) (hm : okN u) (z : List UInt8) (h : enc u = enc t ++ z) : z = [] := by
  have h1 := lies t u z [] ht hu hn hm
  rw [List.append_nil, ← h, txt_self] at h1
  by_cases ho : ord t u ≠ 0
  · rw [if_pos ho] at h1; exact absurd h1.symm ho
  · rw [if_neg ho] at h1; exact (txt_eq h1.symm)
theorem lies_all (t u : JV) (ht : okV t) (hu : okV u) (hn : okN t) (hm : okN u) : txt (enc t) (enc u) = ord t u := by
  have h1 := lies t u [] [] ht hu hn hm
  rw [List.append_nil, List.append_nil] at h1
  rw [h1]
  by_cases ho : ord t u ≠ 0
  · rw [if_pos ho]
  · rw [if_neg ho]; simp at ho; rw [ho]; rfl
end Go.Proofs.YtjmhoccikbgigaaDoor
