/- What the wire layer computes, in plain Lean: sums, messages as bytes, bytes as messages. Conditions: none. -/
import Derived.Test.YtkpickojeghppaaDoorKit
namespace Go.Proofs.YtkpickojeghppaaDoor
/-- one bit of the sum -/
def crcBit (c : Nat) : Nat := if c % 2 = 1 then (c / 2) ^^^ 2197175160 else c / 2
def crcBits : Nat → Nat → Nat
  | 0, c => c
  | k + 1, c => crcBits k (crcBit c)
def crcByte (c : Nat) (b : UInt8) : Nat := crcBits 8 (c ^^^ b.toNat)
def crcFrom (c : Nat) (l : List UInt8) : Nat := l.foldl crcByte c
def crc (l : List UInt8) : Nat := 4294967295 - crcFrom 4294967295 l
theorem crcBit_lt {c : Nat} (h : c < 4294967296) : crcBit c < 4294967296 := by
  unfold crcBit
  split
  · exact Nat.xor_lt_two_pow (n := 32) (by omega) (by omega)
  · omega
theorem crcBits_lt : ∀ (k : Nat) {c : Nat}, c < 4294967296 → crcBits k c < 4294967296
  | 0, _, h => h
  | k + 1, _, h => crcBits_lt k (crcBit_lt h)
theorem crcByte_lt {c : Nat} (b : UInt8) (h : c < 4294967296) : crcByte c b < 4294967296 := by
  have := b.toNat_lt
  exact crcBits_lt 8 (Nat.xor_lt_two_pow (n := 32) (by omega) (by omega))
theorem crcFrom_lt : ∀ (l : List UInt8) {c : Nat}, c < 4294967296 → crcFrom c l < 4294967296
  | [], _, h => h
  | b :: l, _, h => crcFrom_lt l (crcByte_lt b h)
theorem crcFrom_append (c : Nat) (a b : List UInt8) : crcFrom c (a ++ b) = crcFrom (crcFrom c a) b := List.foldl_append
theorem crc_lt (l : List UInt8) : crc l < 4294967296 := by unfold crc; omega
theorem crcBit_inj {a b : Nat} (ha : a < 4294967296) (hb : b < 4294967296) (h : crcBit a = crcBit b) : a = b := by
  have top : ∀ c : Nat, c < 4294967296 → (crcBit c).testBit 31 = decide (c % 2 = 1) := by
    intro c hc
    have h2 : (c / 2).testBit 31 = false := Nat.testBit_lt_two_pow (by omega)
    unfold crcBit
    split <;> rename_i h
    · rw [Nat.testBit_xor, h2]
      simp [h]
      decide
    · rw [h2]; simp [h]
  have h1 := top a ha
  have h2 := top b hb
  rw [h, h2] at h1
  have e : (a % 2 = 1) ↔ (b % 2 = 1) := by
    have := decide_eq_decide.1 h1
    exact this.symm
  unfold crcBit at h
  by_cases p : a % 2 = 1
  · have q := e.1 p
    rw [if_pos p, if_pos q] at h
    have : a / 2 = b / 2 := by
      have := congrArg (· ^^^ 2197175160) h
      simpa [Nat.xor_assoc] using this
    omega
  · have q : ¬ b % 2 = 1 := fun x => p (e.2 x)
    rw [if_neg p, if_neg q] at h
    omega
theorem crcBits_inj : ∀ (k : Nat) {a b : Nat}, a < 4294967296 → b < 4294967296 → crcBits k a = crcBits k b → a = b
  | 0, _, _, _, _, h => h
  | k + 1, _, _, ha, hb, h => crcBit_inj ha hb (crcBits_inj k (crcBit_lt ha) (crcBit_lt hb) h)
theorem crcByte_inj {a b : Nat} {x y : UInt8} (ha : a < 4294967296) (hb : b < 4294967296) (h : crcByte a x = crcByte b y) : a ^^^ x.toNat = b ^^^ y.toNat := by
  have := x.toNat_lt
  have := y.toNat_lt
  exact crcBits_inj 8 (Nat.xor_lt_two_pow (n := 32) (by omega) (by omega)) (Nat.xor_lt_two_pow (n := 32) (by omega) (by omega)) h
theorem crcFrom_inj : ∀ (l : List UInt8) {a b : Nat}, a < 4294967296 → b < 4294967296 → crcFrom a l = crcFrom b l → a = b
  | [], _, _, _, _, h => h
  | c :: l, a, b, ha, hb, h => by
    have h1 := crcByte_inj ha hb (crcFrom_inj l (crcByte_lt c ha) (crcByte_lt c hb) h)
    have := congrArg (· ^^^ c.toNat) h1
    simpa [Nat.xor_assoc] using this
/-- one byte that is another shows in the sum -/
theorem crc_turned (a : List UInt8) (x y : UInt8) (b : List UInt8) (h : crc (a ++ x :: b) = crc (a ++ y :: b)) : x = y := by
  unfold crc at h
  have l1 := crcFrom_lt (a ++ x :: b) (c := 4294967295) (by omega)
  have l2 := crcFrom_lt (a ++ y :: b) (c := 4294967295) (by omega)
  have h' : crcFrom 4294967295 (a ++ x :: b) = crcFrom 4294967295 (a ++ y :: b) := by omega
  rw [crcFrom_append, crcFrom_append] at h'
  have la := crcFrom_lt a (c := 4294967295) (by omega)
  have h1 := crcFrom_inj b (crcByte_lt x la) (crcByte_lt y la) h'
  have h2 := crcByte_inj la la h1
  have h3 := congrArg (crcFrom 4294967295 a ^^^ ·) h2
  simp only [← Nat.xor_assoc, Nat.xor_self, Nat.zero_xor] at h3
  exact UInt8.toNat_inj.1 h3
/-- a number's four bytes -/
def four (n : Nat) : List UInt8 := [UInt8.ofNat n, UInt8.ofNat (n / 256), UInt8.ofNat (n / 65536), UInt8.ofNat (n / 16777216)]
theorem four_len (n : Nat) : (four n).length = 4 := rfl
/-- the number at a place -/
def bt (l : List UInt8) (k : Nat) : Nat := (l.getD k 0).toNat
def numb (l : List UInt8) (k : Nat) : Nat := bt l k + 256 * bt l (k + 1) + 65536 * bt l (k + 2) + 16777216 * bt l (k + 3)
theorem bt_lt (l : List UInt8) (k : Nat) : bt l k < 256 := UInt8.toNat_lt _
theorem numb_lt (l : List UInt8) (k : Nat) : numb l k < 4294967296 := by
  have := bt_lt l k
  have := bt_lt l (k + 1)
  have := bt_lt l (k + 2)
  have := bt_lt l (k + 3)
  unfold numb
  omega
theorem bt_right (a l : List UInt8) (k : Nat) : bt (a ++ l) (a.length + k) = bt l k := by
  unfold bt
  rw [List.getD_eq_getElem?_getD, List.getD_eq_getElem?_getD, List.getElem?_append_right (by omega), Nat.add_sub_cancel_left]
theorem bt_left (a l : List UInt8) (k : Nat) (h : k < a.length) : bt (a ++ l) k = bt a k := by
  unfold bt
  rw [List.getD_eq_getElem?_getD, List.getD_eq_getElem?_getD, List.getElem?_append_left h]
theorem numb_right (a l : List UInt8) (k : Nat) : numb (a ++ l) (a.length + k) = numb l k := by
  have e : ∀ j, bt (a ++ l) (a.length + k + j) = bt l (k + j) := fun j => by rw [Nat.add_assoc]; exact bt_right a l (k + j)
  unfold numb
  rw [bt_right, e, e, e]
theorem numb_left (a l : List UInt8) (k : Nat) (h : k + 4 ≤ a.length) : numb (a ++ l) k = numb a k := by
  unfold numb
  rw [bt_left _ _ _ (by omega), bt_left _ _ _ (by omega), bt_left _ _ _ (by omega), bt_left _ _ _ (by omega)]
theorem numb_four (n : Nat) (h : n < 4294967296) (r : List UInt8) : numb (four n ++ r) 0 = n := by
  unfold numb bt four
  simp
  omega
/-- a message -/
structure WMsg where
  id : Nat
  to : Nat
  kind : Int
  body : ByteArray
  sum : Bool
def WMsg.size (m : WMsg) : Nat := 24 + m.body.size + (if m.sum then 4 else 0)
/-- its bytes, but for the sum -/
def packA (m : WMsg) : List UInt8 := [100, 107, 116, 49] ++ four m.size ++ four m.id ++ four m.to ++ four m.kind.toNat ++ four (if m.sum then 1 else 0) ++ m.body.data.toList
def packed (m : WMsg) : List UInt8 := if m.sum then packA m ++ four (crc (packA m)) else packA m
def packE (m : WMsg) : Nat := if m.kind < 1 ∨ 6 < m.kind then 281 else if 131072 < m.size then 1 else 0
def packL (m : WMsg) : List UInt8 := if packE m = 0 then packed m else []
/-- what bytes begin with: an error, or a message and how many bytes it has -/
inductive UR where
  | bad (e : Nat)
  | ok (m : WMsg) (n : Nat)
def noMsg : WMsg := ⟨0, 0, 0, ⟨#[]⟩, false⟩
def UR.msg : UR → WMsg | .bad _ => noMsg | .ok m _ => m
def UR.len : UR → Nat | .bad _ => 0 | .ok _ n => n
def UR.err : UR → Nat | .bad e => e | .ok _ _ => 0
def bodyOf (l : List UInt8) (a b : Nat) : ByteArray := ⟨((l.take b).drop a).toArray⟩
def whole (l : List UInt8) (n : Nat) : UR :=
  if numb l 16 < 1 ∨ 6 < numb l 16 then .bad 281
  else if 1 < numb l 20 then .bad 282
  else if numb l 20 = 1 then
    (if n < 28 then .bad 280
     else if crc (l.take (n - 4)) ≠ numb l (n - 4) then .bad 283
     else .ok ⟨numb l 8, numb l 12, numb l 16, bodyOf l 24 (n - 4), true⟩ n)
  else .ok ⟨numb l 8, numb l 12, numb l 16, bodyOf l 24 n, false⟩ n
def unpack (l : List UInt8) : UR :=
  if l.take 4 ≠ ([100, 107, 116, 49] : List UInt8).take l.length then .bad 280
  else if l.length < 8 then .bad 3
  else if 131072 < numb l 4 then .bad 1
  else if numb l 4 < 24 then .bad 280
  else if l.length < numb l 4 then .bad 3
  else whole l (numb l 4)
end Go.Proofs.YtkpickojeghppaaDoor
