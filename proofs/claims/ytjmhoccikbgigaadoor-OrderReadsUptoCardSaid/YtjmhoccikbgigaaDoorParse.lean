/- Plain law: reading a value's bytes, as a function; what it reads lies as it was laid, and back. Conditions: none. -/
import Derived.Test.YtjmhoccikbgigaaDoorLiesl
import Derived.Test.YtjmhoccikbgigaaDoorRdnum
namespace Go.Proofs.YtjmhoccikbgigaaDoor
open Go.RowKit
/-- what reading comes to: a thing, and the bytes behind it; or a fault and its place -/
inductive Res (α : Type) where
  | ok (a : α) (rest : List UInt8)
  | bad (e p : Nat)
/-- a text up to its end; N: how many bytes there are in all; frm: where it began; acc: what was read of it -/
def pText (N frm : Nat) : List UInt8 → List UInt8 → Res (List UInt8)
  | [], _ => .bad 3 N
  | c :: r, acc =>
    if c = 0 then
      match r with
      | [] => .bad 3 N
      | d :: q => if d = 255 then pText N frm q (acc ++ [0]) else if d = 1 then (if Lib.validD acc = true then .ok acc q else .bad 13 frm) else .bad 30 (N - q.length - 1)
    else pText N frm r (acc ++ [c])
/-- the number that bytes spell -/
def beV (l : List UInt8) : Nat := l.foldl (fun n c => n * 256 + c.toNat) 0
def pNum (N : Nat) (l : List UInt8) : Res Int := if 8 ≤ l.length then .ok ((beV (l.take 8) : Int) - 9223372036854775808) (l.drop 8) else .bad 3 N
def nullV (k : Int) : JV := .mk k 0 ⟨#[]⟩ [] []
/-- a value's head; deep: what follows at a list or an object -/
def pHead (N : Nat) (deep : Bool → List UInt8 → Res JV) : List UInt8 → Res JV
  | [] => .bad 3 N
  | c :: r =>
    if c = 5 then .ok (nullV 0) r
    else if c = 80 then .ok (nullV 1) r
    else if c = 81 then .ok (nullV 2) r
    else if c = 16 then (match pNum N r with | .ok n q => .ok (.mk 3 n ⟨#[]⟩ [] []) q | .bad e p => .bad e p)
    else if c = 32 then (match pText N (N - r.length) r [] with | .ok s q => .ok (.mk 4 0 ⟨s.toArray⟩ [] []) q | .bad e p => .bad e p)
    else if c = 48 then deep true r
    else if c = 64 then deep false r
    else .bad 30 (N - r.length - 1)
/-- the items of a list, of an object; pv: one value -/
def pItems (N : Nat) (pv : List UInt8 → Res JV) (o : Bool) : Nat → List UInt8 → List ByteArray → List JV → Res JV
  | 0, _, _, _ => .bad 3 N
  | _ + 1, [], _, _ => .bad 3 N
  | f + 1, c :: r, ns, is =>
    if c = 2 then
      (if o = true then
        (match pText N (N - r.length) r [] with
        | .bad e p => .bad e p
        | .ok s q => if hasB ns ⟨s.toArray⟩ = true then .bad 16 (N - r.length) else
          (match pv q with
          | .bad e p => .bad e p
          | .ok v q' => pItems N pv o f q' (ns ++ [⟨s.toArray⟩]) (is ++ [v])))
      else
        (match pv r with
        | .bad e p => .bad e p
        | .ok v q' => pItems N pv o f q' ns (is ++ [v])))
    else if c = 1 then .ok (.mk (if o = true then 6 else 5) 0 ⟨#[]⟩ ns is) r
    else .bad 30 (N - r.length - 1)
/-- a value, that may go k deeper -/
def pValue (N : Nat) : Nat → List UInt8 → Res JV
  | 0 => pHead N (fun _ r => .bad 17 (N - r.length - 1))
  | k + 1 => pHead N (fun o r => pItems N (pValue N k) o (r.length + 1) r [] [])
/-- a value and nothing behind it -/
def pAll (bs : List UInt8) : Res JV :=
  match pValue bs.length 64 bs with
  | .bad e p => .bad e p
  | .ok v q => if q = [] then .ok v [] else .bad 4 (bs.length - q.length)
theorem pText_ne (N frm : Nat) {c : UInt8} (h : c ≠ 0) (r acc : List UInt8) : pText N frm (c :: r) acc = pText N frm r (acc ++ [c]) := by
  cases r <;> simp [pText, h]
theorem pText_zero (N frm : Nat) (d : UInt8) (q acc : List UInt8) : pText N frm (0 :: d :: q) acc = if d = 255 then pText N frm q (acc ++ [0]) else if d = 1 then (if Lib.validD acc = true then .ok acc q else .bad 13 frm) else .bad 30 (N - q.length - 1) := by
  simp [pText]
/-! what was laid is read -/
theorem text_read (N frm : Nat) : ∀ (s acc r : List UInt8), Lib.validD (acc ++ s) = true → pText N frm (encT s ++ r) acc = .ok (acc ++ s) r
  | [], acc, r, h => by
    rw [List.append_nil] at h
    rw [flat_end, List.append_nil]; show pText N frm (0 :: 1 :: r) acc = _
    rw [pText_zero, if_neg (by decide), if_pos rfl, if_pos h]
  | c :: s, acc, r, h => by
    have ih := text_read N frm s (acc ++ [c]) r (by rw [List.append_assoc]; exact h)
    rw [List.append_assoc] at ih
    by_cases hc : c = 0
    · subst hc
      rw [flat_zero]; show pText N frm (0 :: 255 :: (encT s ++ r)) acc = _
      rw [pText_zero, if_pos rfl]; exact ih
    · rw [flat_other hc]; show pText N frm (c :: (encT s ++ r)) acc = _
      rw [pText_ne N frm hc]; exact ih
theorem beV_snoc (l : List UInt8) (c : UInt8) : beV (l ++ [c]) = beV l * 256 + c.toNat := by simp [beV]
theorem beV_fold : ∀ (l : List UInt8) (a : Nat), l.foldl (fun n c => n * 256 + c.toNat) a = a * 256 ^ l.length + beV l
  | [], a => by simp [beV]
  | c :: l, a => by
    have h1 := beV_fold l (a * 256 + c.toNat)
    have h2 := beV_fold l (0 * 256 + c.toNat)
    have e : beV (c :: l) = l.foldl (fun n c => n * 256 + c.toNat) (0 * 256 + c.toNat) := rfl
    rw [List.foldl_cons, h1, e, h2, List.length_cons, Nat.pow_succ, Nat.zero_mul, Nat.zero_add, Nat.add_mul, Nat.mul_assoc, Nat.mul_comm 256, Nat.add_assoc]
theorem beN_len : ∀ (k N : Nat), (beN k N).length = k
  | 0, _ => rfl
  | k + 1, N => by rw [beN, List.length_cons, beN_len k N]
theorem beV_be : ∀ (k N : Nat), beV (beN k N) = N % 256 ^ k
  | 0, N => by simp [beN, beV, Nat.mod_one]
  | k + 1, N => by
    have h := beV_fold (beN k N) (0 * 256 + (UInt8.ofNat (N / 256 ^ k)).toNat)
    have e : beV (beN (k + 1) N) = (beN k N).foldl (fun n c => n * 256 + c.toNat) (0 * 256 + (UInt8.ofNat (N / 256 ^ k)).toNat) := rfl
    have tN : (UInt8.ofNat (N / 256 ^ k)).toNat = N / 256 ^ k % 256 := by rw [UInt8.toNat_ofNat']
    rw [e, h, beN_len, beV_be k N, tN, Nat.zero_mul, Nat.zero_add, Nat.pow_succ, Nat.mod_mul (x := N) (a := 256 ^ k) (b := 256), Nat.mul_comm, Nat.add_comm]
theorem encN_len (n : Int) : (encN n).length = 8 := by simp [encN]
theorem num_read (N : Nat) (n : Int) (hn : -9223372036854775808 ≤ n ∧ n ≤ 9223372036854775807) (r : List UInt8) : pNum N (encN n ++ r) = .ok n r := by
  unfold pNum
  have hl := encN_len n
  rw [if_pos (by rw [List.length_append, hl]; omega), List.take_append_of_le_length (by omega), List.take_of_length_le (by omega), List.drop_append_of_le_length (by omega), List.drop_of_length_le (by omega), encN_be, beV_be, Nat.mod_eq_of_lt (show _ < 256 ^ 8 by omega), List.nil_append]
  congr 1
  omega
theorem text_back {s : ByteArray} : (⟨s.data.toList.toArray⟩ : ByteArray) = s := by cases s; simp
theorem chkL_seen : ∀ (ns seen : List ByteArray) (is : List JV) (d : Int), chkL true ns seen is d = 0 → ns.length = is.length → ∀ x ∈ ns, Lib.validD x.data.toList = true
  | [], _, _, _, _, _, x, hx => by cases hx
  | n :: ns, seen, [], _, _, hl, x, hx => by simp at hl
  | n :: ns, seen, t :: is, d, h, hl, x, hx => by
    rw [chkL] at h
    split at h
    · exact absurd h (by decide)
    · rename_i h1
      split at h
      · exact absurd h (by decide)
      · split at h
        · rcases List.mem_cons.1 hx with rfl | hx
          · cases hv : Lib.validD x.data.toList with
            | true => rfl
            | false => exact absurd ⟨rfl, hv⟩ h1
          · exact chkL_seen ns _ is d h (by simpa using hl) x hx
        · contradiction
mutual
theorem value_read (N : Nat) : ∀ (t : JV) (k : Nat) (r : List UInt8), chk t (64 - k) = 0 → okN t → pValue N k (enc t ++ r) = .ok t r
  | .mk kd n s ns is, k, r, hc, hn => by
    rw [okN] at hn
    rw [chk] at hc
    split at hc
    · exact absurd hc (by decide)
    rename_i hdep
    split at hc
    · exact absurd hc (by decide)
    rename_i hfit
    have hf : fitsB kd n s ns.length is.length = true := by simpa using hfit
    obtain ⟨f1, f2, f3, f4, f5⟩ := fits_form hf
    have hk := fits_kind hf
    rw [enc_tag, List.cons_append]
    have hhead : ∀ (deep : Bool → List UInt8 → Res JV), (kd = 5 → deep false (encL is ++ [1] ++ r) = .ok (.mk kd n s ns is) r) → (kd = 6 → deep true (encM ns is ++ [1] ++ r) = .ok (.mk kd n s ns is) r) →
        pHead N deep (tagOf kd :: (restOf (.mk kd n s ns is) ++ r)) = .ok (.mk kd n s ns is) r := by
      intro deep h5 h6
      rw [pHead]
      rcases hk with rfl | rfl | rfl | rfl | rfl | rfl | rfl
      · have e1 := f1 (by decide); have e2 := f2 (by decide); have e3 := List.eq_nil_of_length_eq_zero (f3 (by decide)); have e4 := List.eq_nil_of_length_eq_zero (f4 (by decide) (by decide))
        subst e1; subst e2; subst e3; subst e4; rfl
      · have e1 := f1 (by decide); have e2 := f2 (by decide); have e3 := List.eq_nil_of_length_eq_zero (f3 (by decide)); have e4 := List.eq_nil_of_length_eq_zero (f4 (by decide) (by decide))
        subst e1; subst e2; subst e3; subst e4; rfl
      · have e1 := f1 (by decide); have e2 := f2 (by decide); have e3 := List.eq_nil_of_length_eq_zero (f3 (by decide)); have e4 := List.eq_nil_of_length_eq_zero (f4 (by decide) (by decide))
        subst e1; subst e2; subst e3; subst e4; rfl
      · have e2 := f2 (by decide); have e3 := List.eq_nil_of_length_eq_zero (f3 (by decide)); have e4 := List.eq_nil_of_length_eq_zero (f4 (by decide) (by decide))
        subst e2; subst e3; subst e4
        show (match pNum N (encN n ++ r) with | .ok n q => Res.ok (JV.mk 3 n ⟨#[]⟩ [] []) q | .bad e p => .bad e p) = _
        rw [num_read N n hn.1 r]
      · have e1 := f1 (by decide); have e3 := List.eq_nil_of_length_eq_zero (f3 (by decide)); have e4 := List.eq_nil_of_length_eq_zero (f4 (by decide) (by decide))
        subst e1; subst e3; subst e4
        have hv : Lib.validD s.data.toList = true := by simp [fitsB] at hf; exact hf
        show (match pText N (N - (encT s.data.toList ++ r).length) (encT s.data.toList ++ r) [] with | .ok s q => Res.ok (JV.mk 4 0 ⟨s.toArray⟩ [] []) q | .bad e p => .bad e p) = _
        rw [text_read N _ s.data.toList [] r (by simpa using hv)]
        show Res.ok (JV.mk 4 0 ⟨([] ++ s.data.toList).toArray⟩ [] []) r = _
        rw [List.nil_append, text_back]
      · exact h5 rfl
      · exact h6 rfl
    cases k with
    | zero =>
      rw [pValue]
      refine hhead _ (fun e => ?_) (fun e => ?_) <;> (subst e; exact absurd hdep (by simp [mostD]))
    | succ k =>
      rw [pValue]
      refine hhead _ (fun e => ?_) (fun e => ?_)
      · subst e
        have e1 := f1 (by decide); have e2 := f2 (by decide); have e3 := List.eq_nil_of_length_eq_zero (f3 (by decide))
        subst e1; subst e2; subst e3
        rw [List.append_assoc]
        refine itemsL_read N is k _ r [] [] [] ?_ hn.2 ?_
        · have e : ((64 : Int) - (k + 1 : Nat)) = 63 - k := by omega
          rw [e] at hc; exact hc
        · simp only [List.length_append, List.length_cons]
          have := encL_cnt is
          omega
      · subst e
        have e1 := f1 (by decide); have e2 := f2 (by decide)
        subst e1; subst e2
        rw [List.append_assoc]
        refine itemsM_read N ns is k _ r [] [] ?_ hn.2 (f5 rfl) ?_
        · have e : ((64 : Int) - (k + 1 : Nat)) = 63 - k := by omega
          rw [e] at hc; exact hc
        · simp only [List.length_append, List.length_cons]
          have := encM_cnt ns is (f5 rfl)
          omega
theorem itemsL_read (N : Nat) : ∀ (is : List JV) (k f : Nat) (r : List UInt8) (ns seen : List ByteArray) (acc : List JV), chkL false ns seen is (63 - k) = 0 → okNs is → is.length + 1 ≤ f →
    pItems N (pValue N k) false f (encL is ++ 1 :: r) [] acc = .ok (.mk 5 0 ⟨#[]⟩ [] (acc ++ is)) r
  | [], k, f, r, ns, seen, acc, _, _, hf => by
    cases f with
    | zero => simp at hf
    | succ f => rw [encL, List.append_nil]; rfl
  | t :: is, k, f, r, ns, seen, acc, hc, hn, hf => by
    cases f with
    | zero => simp at hf
    | succ f =>
      rw [okNs] at hn
      rw [chkL] at hc
      simp only [Bool.false_eq_true, false_and, if_false] at hc
      split at hc
      · rename_i h1
        have e : ((63 : Int) - k + 1) = 64 - k := by omega
        rw [e] at h1
        rw [encL]
        simp only [List.cons_append, List.append_assoc]
        rw [pItems, if_pos rfl, if_neg (by decide), value_read N t k _ h1 hn.1]
        have ih := itemsL_read N is k f r _ _ (acc ++ [t]) hc hn.2 (by simp only [List.length_cons] at hf; omega)
        rw [List.append_assoc] at ih
        exact ih
      · contradiction
theorem itemsM_read (N : Nat) : ∀ (ns : List ByteArray) (is : List JV) (k f : Nat) (r : List UInt8) (seen : List ByteArray) (acc : List JV), chkL true ns seen is (63 - k) = 0 → okNs is → ns.length = is.length → is.length + 1 ≤ f →
    pItems N (pValue N k) true f (encM ns is ++ 1 :: r) seen acc = .ok (.mk 6 0 ⟨#[]⟩ (seen ++ ns) (acc ++ is)) r
  | [], [], k, f, r, seen, acc, _, _, _, hf => by
    cases f with
    | zero => simp at hf
    | succ f => simp only [encM, List.append_nil]; rfl
  | n :: ns, t :: is, k, f, r, seen, acc, hc, hn, hl, hf => by
    cases f with
    | zero => simp at hf
    | succ f =>
      rw [okNs] at hn
      rw [chkL] at hc
      simp only [List.headD_cons, List.tail_cons, true_and] at hc
      split at hc
      · exact absurd hc (by decide)
      rename_i hv
      split at hc
      · exact absurd hc (by decide)
      rename_i hb
      split at hc
      · rename_i h1
        have e : ((63 : Int) - k + 1) = 64 - k := by omega
        rw [e] at h1
        rw [encM]
        simp only [List.cons_append, List.append_assoc]
        rw [pItems, if_pos rfl, if_pos rfl, text_read N _ n.data.toList [] _ (by simpa using hv)]
        show (if hasB seen ⟨([] ++ n.data.toList).toArray⟩ = true then _ else _) = _
        rw [List.nil_append, text_back, if_neg hb, value_read N t k _ h1 hn.1]
        have ih := itemsM_read N ns is k f r (seen ++ [n]) (acc ++ [t]) hc hn.2 (by simpa using hl) (by simp only [List.length_cons] at hf; omega)
        rw [List.append_assoc, List.append_assoc] at ih
        exact ih
      · contradiction
theorem encL_cnt : ∀ (is : List JV), is.length ≤ (encL is).length
  | [] => by simp [encL]
  | t :: is => by
    have := encL_cnt is
    rw [encL]
    simp only [List.length_cons, List.length_append]
    omega
theorem encM_cnt : ∀ (ns : List ByteArray) (is : List JV), ns.length = is.length → is.length ≤ (encM ns is).length
  | [], [], _ => by simp [encM]
  | n :: ns, t :: is, h => by
    have := encM_cnt ns is (by simpa using h)
    rw [encM]
    simp only [List.length_cons, List.length_append]
    omega
end
/-- What was laid is read. -/
theorem all_read (t : JV) (hc : chk t 0 = 0) (hn : okN t) : pAll (enc t) = .ok t [] := by
  have h := value_read (enc t).length t 64 [] (by simpa using hc) hn
  rw [List.append_nil] at h
  unfold pAll
  rw [h]; rfl
end Go.Proofs.YtjmhoccikbgigaaDoor
namespace Go.Proofs.YtjmhoccikbgigaaDoor
open Go.RowKit
theorem text_of (N frm : Nat) : ∀ (m : Nat) (l acc x q : List UInt8), l.length ≤ m → pText N frm l acc = .ok x q → ∃ s, x = acc ++ s ∧ l = encT s ++ q ∧ Lib.validD x = true
  | m, [], acc, x, q, _, h => by simp [pText] at h
  | 0, c :: r, acc, x, q, hl, _ => by simp at hl
  | m + 1, c :: r, acc, x, q, hl, h => by
    by_cases hc : c = 0
    · subst hc
      cases r with
      | nil => simp [pText] at h
      | cons d r =>
        rw [pText_zero] at h
        by_cases hd : d = 255
        · subst hd
          rw [if_pos rfl] at h
          obtain ⟨s, h1, h2, h3⟩ := text_of N frm m r (acc ++ [0]) x q (by simp only [List.length_cons] at hl; omega) h
          exact ⟨0 :: s, by rw [h1, List.append_assoc]; rfl, by rw [flat_zero, h2]; rfl, h3⟩
        · rw [if_neg hd] at h
          by_cases hd1 : d = 1
          · subst hd1
            rw [if_pos rfl] at h
            split at h
            · rename_i hv
              injection h with e1 e2
              subst e1; subst e2
              exact ⟨[], by simp, rfl, hv⟩
            · cases h
          · rw [if_neg hd1] at h; cases h
    · rw [pText_ne N frm hc] at h
      obtain ⟨s, h1, h2, h3⟩ := text_of N frm m r (acc ++ [c]) x q (by simp only [List.length_cons] at hl; omega) h
      exact ⟨c :: s, by rw [h1, List.append_assoc]; rfl, by rw [flat_other hc, h2]; rfl, h3⟩
theorem beN_add : ∀ (k a b : Nat), beN k (256 ^ k * a + b) = beN k b
  | 0, _, _ => rfl
  | k + 1, a, b => by
    have hB : 0 < 256 ^ k := Nat.pow_pos (by decide)
    have e : 256 ^ (k + 1) * a + b = 256 ^ k * (256 * a) + b := by rw [Nat.pow_succ, Nat.mul_assoc]
    rw [beN, beN, e, beN_add k (256 * a) b, Nat.mul_add_div hB]
    congr 1
    apply UInt8.toNat_inj.1
    rw [UInt8.toNat_ofNat', UInt8.toNat_ofNat']
    show (256 * a + b / 256 ^ k) % 256 = b / 256 ^ k % 256
    omega
theorem beV_lt : ∀ (l : List UInt8), beV l < 256 ^ l.length
  | [] => by simp [beV]
  | c :: l => by
    have h := beV_fold l (0 * 256 + c.toNat)
    have e : beV (c :: l) = l.foldl (fun n c => n * 256 + c.toNat) (0 * 256 + c.toNat) := rfl
    have ih := beV_lt l
    have hc := c.toNat_lt
    rw [e, h, List.length_cons, Nat.pow_succ, Nat.zero_mul, Nat.zero_add]
    generalize 256 ^ l.length = B at *
    have h2 : (c.toNat + 1) * B ≤ 256 * B := Nat.mul_le_mul_right _ (by omega)
    rw [Nat.add_mul] at h2
    omega
theorem beN_beV : ∀ (l : List UInt8), beN l.length (beV l) = l
  | [] => rfl
  | c :: l => by
    have h := beV_fold l (0 * 256 + c.toNat)
    have e : beV (c :: l) = l.foldl (fun n c => n * 256 + c.toNat) (0 * 256 + c.toNat) := rfl
    have ih := beN_beV l
    have hlt := beV_lt l
    have hB : 0 < 256 ^ l.length := Nat.pow_pos (by decide)
    rw [List.length_cons, beN, e, h, Nat.zero_mul, Nat.zero_add, Nat.mul_comm c.toNat, beN_add, ih, Nat.mul_add_div hB, Nat.div_eq_of_lt hlt, Nat.add_zero, UInt8.ofNat_toNat]
theorem num_of (N : Nat) (l q : List UInt8) (n : Int) (h : pNum N l = .ok n q) : l = encN n ++ q ∧ (-9223372036854775808 ≤ n ∧ n ≤ 9223372036854775807) := by
  unfold pNum at h
  split at h
  · rename_i h8
    injection h with e1 e2
    have hl : (l.take 8).length = 8 := by rw [List.length_take]; omega
    have hlt := beV_lt (l.take 8)
    rw [hl] at hlt
    have hlt' : beV (l.take 8) < 18446744073709551616 := hlt
    refine ⟨?_, by omega⟩
    have e3 : (n + 9223372036854775808).toNat = beV (l.take 8) := by omega
    have e4 := beN_beV (l.take 8)
    rw [hl] at e4
    rw [encN_be, e3, e4, ← e2, List.take_append_drop]
  · cases h
theorem head_of (N : Nat) (deep : Bool → List UInt8 → Res JV) (l : List UInt8) (t : JV) (r : List UInt8) (d : Int) (hd : d ≤ 64) (h : pHead N deep l = .ok t r)
    (hdeep : ∀ o q, deep o q = .ok t r → q = (if o = true then restOf t else restOf t) ++ r ∧ t.kind = (if o = true then 6 else 5) ∧ chk t d = 0 ∧ okN t) : l = enc t ++ r ∧ chk t d = 0 ∧ okN t := by
  have hnull : ∀ k : Int, (k = 0 ∨ k = 1 ∨ k = 2) → chk (nullV k) d = 0 ∧ okN (nullV k) := fun k hk => by
    refine ⟨?_, ?_⟩
    · unfold nullV
      rw [chk, if_neg (by rw [show mostD k = 64 from if_neg (by omega)]; omega), if_neg (by rcases hk with rfl | rfl | rfl <;> simp [fitsB]), chkL]
    · unfold nullV; rw [okN, okNs]; exact ⟨by omega, trivial⟩
  cases l with
  | nil => simp [pHead] at h
  | cons c l =>
    rw [pHead] at h
    by_cases h5 : c = 5
    · subst h5; rw [if_pos rfl] at h; injection h with e1 e2; subst e1; subst e2; exact ⟨rfl, hnull 0 (by omega)⟩
    rw [if_neg h5] at h
    by_cases h80 : c = 80
    · subst h80; rw [if_pos rfl] at h; injection h with e1 e2; subst e1; subst e2; exact ⟨rfl, hnull 1 (by omega)⟩
    rw [if_neg h80] at h
    by_cases h81 : c = 81
    · subst h81; rw [if_pos rfl] at h; injection h with e1 e2; subst e1; subst e2; exact ⟨rfl, hnull 2 (by omega)⟩
    rw [if_neg h81] at h
    by_cases h16 : c = 16
    · subst h16; rw [if_pos rfl] at h
      split at h
      · rename_i n q hn
        injection h with e1 e2
        subst e1; subst e2
        obtain ⟨e3, e4⟩ := num_of N l q n hn
        refine ⟨by rw [e3]; rfl, ?_, ?_⟩
        · rw [chk, if_neg (by rw [show mostD 3 = 64 from rfl]; omega), if_neg (by simp [fitsB]), chkL]
        · rw [okN, okNs]; exact ⟨e4, trivial⟩
      · cases h
    rw [if_neg h16] at h
    by_cases h32 : c = 32
    · subst h32; rw [if_pos rfl] at h
      split at h
      · rename_i s q hs
        injection h with e1 e2
        subst e1; subst e2
        obtain ⟨s', e3, e4, e5⟩ := text_of N _ l.length l [] s q (Nat.le_refl _) hs
        rw [List.nil_append] at e3
        subst e3
        refine ⟨by rw [e4]; rfl, ?_, ?_⟩
        · rw [chk, if_neg (by rw [show mostD 4 = 64 from rfl]; omega), if_neg (by simp [fitsB]; exact e5), chkL]
        · rw [okN, okNs]; exact ⟨by omega, trivial⟩
      · cases h
    rw [if_neg h32] at h
    have hfin : ∀ o, tagOf t.kind = (if o = true then 48 else 64) → l = restOf t ++ r → (if o = true then (48 : UInt8) else 64) :: l = enc t ++ r := fun o ho hl => by
      cases t with
      | mk k n s ns is =>
        rw [enc_tag, List.cons_append, ← hl]
        rw [show tagOf k = _ from ho]
    by_cases h48 : c = 48
    · subst h48; rw [if_pos rfl] at h
      obtain ⟨e1, e2, e3⟩ := hdeep true l h
      exact ⟨hfin true (by rw [e2]; rfl) (by simpa using e1), e3⟩
    rw [if_neg h48] at h
    by_cases h64 : c = 64
    · subst h64; rw [if_pos rfl] at h
      obtain ⟨e1, e2, e3⟩ := hdeep false l h
      exact ⟨hfin false (by rw [e2]; rfl) (by simpa using e1), e3⟩
    rw [if_neg h64] at h
    cases h
theorem itemsL_of (N k : Nat) (pv : List UInt8 → Res JV) (hpv : ∀ l t r, pv l = .ok t r → l = enc t ++ r ∧ chk t (64 - k) = 0 ∧ okN t) : ∀ (f : Nat) (l r : List UInt8) (t : JV) (acc : List JV), pItems N pv false f l [] acc = .ok t r →
    ∃ is, t = .mk 5 0 ⟨#[]⟩ [] (acc ++ is) ∧ l = encL is ++ 1 :: r ∧ (∀ ns seen, chkL false ns seen is (63 - k) = 0) ∧ okNs is
  | 0, l, r, t, acc, h => by simp [pItems] at h
  | f + 1, [], r, t, acc, h => by simp [pItems] at h
  | f + 1, c :: l, r, t, acc, h => by
    rw [pItems] at h
    by_cases h2 : c = 2
    · subst h2
      rw [if_pos rfl, if_neg (by decide)] at h
      split at h
      · cases h
      · rename_i v q hv
        obtain ⟨e1, e2, e3⟩ := hpv l v q hv
        obtain ⟨is, e4, e5, e6, e7⟩ := itemsL_of N k pv hpv f q r t (acc ++ [v]) h
        refine ⟨v :: is, by rw [e4, List.append_assoc]; rfl, by rw [encL, e1, e5]; simp, fun ns seen => ?_, by rw [okNs]; exact ⟨e3, e7⟩⟩
        rw [chkL]
        simp only [Bool.false_eq_true, false_and, if_false]
        rw [if_pos (by rw [show ((63 : Int) - k + 1) = 64 - k by omega]; exact e2)]
        exact e6 _ _
    · rw [if_neg h2] at h
      by_cases h1 : c = 1
      · subst h1
        rw [if_pos rfl] at h
        injection h with e1 e2
        subst e1; subst e2
        exact ⟨[], by simp, rfl, fun _ _ => by rw [chkL], by rw [okNs]; trivial⟩
      · rw [if_neg h1] at h; cases h
theorem itemsM_of (N k : Nat) (pv : List UInt8 → Res JV) (hpv : ∀ l t r, pv l = .ok t r → l = enc t ++ r ∧ chk t (64 - k) = 0 ∧ okN t) : ∀ (f : Nat) (l r : List UInt8) (t : JV) (ns : List ByteArray) (acc : List JV), pItems N pv true f l ns acc = .ok t r →
    ∃ ns' is, t = .mk 6 0 ⟨#[]⟩ (ns ++ ns') (acc ++ is) ∧ l = encM ns' is ++ 1 :: r ∧ ns'.length = is.length ∧ chkL true ns' ns is (63 - k) = 0 ∧ okNs is
  | 0, l, r, t, ns, acc, h => by simp [pItems] at h
  | f + 1, [], r, t, ns, acc, h => by simp [pItems] at h
  | f + 1, c :: l, r, t, ns, acc, h => by
    rw [pItems] at h
    by_cases h2 : c = 2
    · subst h2
      rw [if_pos rfl, if_pos rfl] at h
      split at h
      · cases h
      rename_i s q hs
      obtain ⟨s', x1, x2, x3⟩ := text_of N _ l.length l [] s q (Nat.le_refl _) hs
      rw [List.nil_append] at x1
      subst x1
      split at h
      · cases h
      rename_i hb
      split at h
      · cases h
      rename_i v q' hv
      obtain ⟨e1, e2, e3⟩ := hpv q v q' hv
      obtain ⟨ns', is, e4, e5, e6, e7, e8⟩ := itemsM_of N k pv hpv f q' r t (ns ++ [⟨s.toArray⟩]) (acc ++ [v]) h
      refine ⟨⟨s.toArray⟩ :: ns', v :: is, by rw [e4, List.append_assoc, List.append_assoc]; rfl, ?_, by simp [e6], ?_, by rw [okNs]; exact ⟨e3, e8⟩⟩
      · rw [encM, x2, e1, e5]; simp
      · rw [chkL]
        simp only [List.headD_cons, List.tail_cons, true_and]
        rw [if_neg (by simp [x3]), if_neg hb, if_pos (by rw [show ((63 : Int) - k + 1) = 64 - k by omega]; exact e2)]
        exact e7
    · rw [if_neg h2] at h
      by_cases h1 : c = 1
      · subst h1
        rw [if_pos rfl] at h
        injection h with e1 e2
        subst e1; subst e2
        exact ⟨[], [], by simp, by simp [encM], rfl, by rw [chkL], by rw [okNs]; trivial⟩
      · rw [if_neg h1] at h; cases h
theorem val_of (N : Nat) : ∀ (k : Nat), k ≤ 64 → ∀ (l : List UInt8) (t : JV) (r : List UInt8), pValue N k l = .ok t r → l = enc t ++ r ∧ chk t (64 - k) = 0 ∧ okN t
  | 0, _, l, t, r, h => by
    rw [pValue] at h
    exact head_of N _ l t r _ (by omega) h (fun o q hq => by cases hq)
  | k + 1, hk, l, t, r, h => by
    rw [pValue] at h
    refine head_of N _ l t r _ (by omega) h (fun o q hq => ?_)
    have hpv := val_of N k (by omega)
    have e : ((64 : Int) - (k + 1 : Nat)) = 63 - k := by omega
    rw [e]
    cases o with
    | false =>
      obtain ⟨is, e1, e2, e3, e4⟩ := itemsL_of N k _ hpv _ q r t [] hq
      rw [List.nil_append] at e1
      subst e1
      refine ⟨?_, rfl, ?_, ?_⟩
      · rw [e2]; show _ = (encL is ++ [1]) ++ r; simp
      · rw [chk, if_neg (by rw [show mostD 5 = 63 from rfl]; omega), if_neg (by simp [fitsB])]; exact e3 _ _
      · rw [okN]; exact ⟨by omega, e4⟩
    | true =>
      obtain ⟨ns, is, e1, e2, e3, e4, e5⟩ := itemsM_of N k _ hpv _ q r t [] [] hq
      rw [List.nil_append, List.nil_append] at e1
      subst e1
      refine ⟨?_, rfl, ?_, ?_⟩
      · rw [e2]; show _ = (encM ns is ++ [1]) ++ r; simp
      · rw [chk, if_neg (by rw [show mostD 6 = 63 from rfl]; omega), if_neg (by simp [fitsB, e3])]; exact e4
      · rw [okN]; exact ⟨by omega, e5⟩
/-- What was read, laid again, is what it was read from. -/
theorem all_of (bs : List UInt8) (t : JV) (r : List UInt8) (h : pAll bs = .ok t r) : chk t 0 = 0 ∧ okN t ∧ enc t = bs := by
  unfold pAll at h
  split at h
  · cases h
  · rename_i v q hv
    split at h
    · rename_i hq
      injection h with e1 e2
      subst e1; subst hq
      obtain ⟨h1, h2, h3⟩ := val_of bs.length 64 (by omega) bs v [] hv
      rw [List.append_nil] at h1
      exact ⟨by simpa using h2, h3, h1.symm⟩
    · cases h
end Go.Proofs.YtjmhoccikbgigaaDoor
