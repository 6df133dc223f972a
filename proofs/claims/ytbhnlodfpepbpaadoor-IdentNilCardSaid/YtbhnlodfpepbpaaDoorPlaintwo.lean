/- Plain law: what a maker makes is known again; sixteen digits tell a sum. No program in sight. -/
import Derived.Test.YtbhnlodfpepbpaaDoorPlain
namespace Go.Proofs.YtbhnlodfpepbpaaDoor
/-- a letter's digit; -1: it is none -/
def hexI (c : UInt8) : Int := if 48 ≤ c.toNat ∧ c.toNat ≤ 57 then (c.toNat : Int) - 48 else if 97 ≤ c.toNat ∧ c.toNat ≤ 102 then (c.toNat : Int) - 87 else -1
theorem hexI_lt (c : UInt8) : hexI c < 16 := by unfold hexI; split <;> (try split) <;> omega
theorem hexI_hexd (d : Nat) (h : d < 16) : hexI (hexd d) = (d : Int) := by
  have : ∀ e : Fin 16, hexI (hexd e.1) = (e.1 : Int) := by decide
  exact this ⟨d, h⟩
def unhex (n : BitVec 64) : List UInt8 → Option (BitVec 64)
  | [] => some n
  | c :: r => if hexI c < 0 then none else unhex (16#64 * n + BitVec.ofInt 64 (hexI c)) r
theorem unhex_append (a b : List UInt8) : ∀ n, unhex n (a ++ b) = (unhex n a).bind fun m => unhex m b := by
  induction a with
  | nil => intro n; rfl
  | cons c r ih =>
    intro n
    simp only [List.cons_append, unhex]
    split
    · rfl
    · exact ih _
theorem unhex_none_take {l : List UInt8} {k : Nat} {n : BitVec 64} (h : unhex n (l.take k) = none) : unhex n l = none := by
  rw [← List.take_append_drop k l, unhex_append, h]; rfl
def last : BitVec 64 := 18446744073709551615#64
def madeFin (c : BitVec 64) : BitVec 64 × Bool := if c = last then (0#64, false) else (c, true)
def madeB (id : List UInt8) (seed : BitVec 64) : BitVec 64 × Bool :=
  if id.length = 17 ∧ id.head? = some 103 then
    match unhex 0#64 id.tail with
    | none => (0#64, false)
    | some n => madeFin (unmixB n ^^^ mixB seed)
  else (0#64, false)
theorem hexTo_length (X : BitVec 64) (k : Nat) : (hexTo X k).length = k := by
  induction k with
  | zero => rfl
  | succ k ih => simp [hexTo, ih]
theorem dig_join (x k : Nat) (h : k < 16) : x / 16 ^ (16 - (k + 1)) = 16 * (x / 16 ^ (16 - k)) + x / 16 ^ (15 - k) % 16 := by
  rw [show 16 - (k + 1) = 15 - k by omega, show 16 - k = (15 - k) + 1 by omega, Nat.pow_succ, ← Nat.div_div_eq_div_mul]
  omega
theorem unhex_hexTo (X : BitVec 64) (k : Nat) (h : k ≤ 16) : unhex 0#64 (hexTo X k) = some (BitVec.ofNat 64 (X.toNat / 16 ^ (16 - k))) := by
  induction k with
  | zero =>
    show some 0#64 = _
    rw [Nat.div_eq_of_lt (by have := X.isLt; simpa using this)]
  | succ k ih =>
    rw [hexTo, unhex_append, ih (by omega)]
    have hd := digN_lt X (15 - k)
    show unhex _ [hexd (digN X (15 - k))] = _
    rw [unhex, hexI_hexd _ hd, if_neg (by omega), unhex, dig_join X.toNat k (by omega)]
    congr 1
    show _ = BitVec.ofNat 64 (16 * (X.toNat / 16 ^ (16 - k)) + digN X (15 - k))
    rw [BitVec.ofNat_add, BitVec.ofNat_mul, BitVec.ofInt_natCast]
theorem unhex_all (X : BitVec 64) : unhex 0#64 (hexTo X 16) = some X := by
  have h := unhex_hexTo X 16 (Nat.le_refl _)
  rw [Nat.sub_self, Nat.pow_zero, Nat.div_one, BitVec.ofNat_toNat, BitVec.setWidth_eq] at h
  exact h
theorem hexTo_inj {X Y : BitVec 64} (h : hexTo X 16 = hexTo Y 16) : X = Y := by
  have := unhex_all X
  rw [h, unhex_all] at this
  exact (Option.some.inj this).symm
theorem xor_cancel (a b : BitVec 64) : (a ^^^ b) ^^^ a = b := by
  rw [BitVec.xor_comm a b, BitVec.xor_assoc, BitVec.xor_self, BitVec.xor_zero]
theorem idOf_inj {s c d : BitVec 64} : idOf s c = idOf s d ↔ c = d := by
  constructor
  · intro h
    have h2 := mix_inj (hexTo_inj (List.cons.inj h).2)
    have h3 : (mixB s ^^^ c) ^^^ mixB s = (mixB s ^^^ d) ^^^ mixB s := by rw [h2]
    rwa [xor_cancel, xor_cancel] at h3
  · rintro rfl; rfl
/-- What was made is known again. -/
theorem madeB_some {id : List UInt8} {s n : BitVec 64} (h1 : id.length = 17) (h2 : id.head? = some 103) (h3 : unhex 0#64 id.tail = some n) : madeB id s = madeFin (unmixB n ^^^ mixB s) := by
  unfold madeB; rw [if_pos ⟨h1, h2⟩, h3]
theorem madeB_none {id : List UInt8} {s : BitVec 64} (h1 : id.length = 17) (h2 : id.head? = some 103) (h3 : unhex 0#64 id.tail = none) : madeB id s = (0#64, false) := by
  unfold madeB; rw [if_pos ⟨h1, h2⟩, h3]
theorem madeB_not {id : List UInt8} {s : BitVec 64} (h : ¬ (id.length = 17 ∧ id.head? = some 103)) : madeB id s = (0#64, false) := by
  unfold madeB; rw [if_neg h]
theorem made_idOf (s c : BitVec 64) (h : c ≠ last) : madeB (idOf s c) s = (c, true) := by
  have h1 : (idOf s c).length = 17 := by unfold idOf; rw [List.length_cons, hexTo_length]
  have h2 : (idOf s c).head? = some 103 := by unfold idOf; rw [List.head?_cons]
  have h3 : unhex 0#64 (idOf s c).tail = some (mixB (mixB s ^^^ c)) := by unfold idOf; rw [List.tail_cons, unhex_all]
  rw [madeB_some h1 h2 h3, unmix_mix, xor_cancel]
  unfold madeFin
  rw [if_neg h]
theorem hexd_ok (d : Nat) (h : d < 16) : idc (hexd d) = true := by
  have : ∀ e : Fin 16, idc (hexd e.1) = true := by decide
  exact this ⟨d, h⟩
theorem hexTo_ok (X : BitVec 64) (k : Nat) : (hexTo X k).all idc = true := by
  induction k with
  | zero => rfl
  | succ k ih => simp [hexTo, ih, hexd_ok _ (digN_lt X (15 - k))]
theorem id_idOf (s c : BitVec 64) : idB (idOf s c) = true := by
  unfold idB idOf
  simp only [List.all_cons, hexTo_ok, List.length_cons, hexTo_length]
  decide
/-- the letters of the last k digits -/
def hexFrom (X : BitVec 64) : Nat → List UInt8
  | 0 => []
  | k + 1 => hexd (digN X k) :: hexFrom X k
theorem hexFrom_len (X : BitVec 64) (k : Nat) : (hexFrom X k).length = k := by
  induction k with
  | zero => rfl
  | succ k ih => simp [hexFrom, ih]
theorem hexTo_from (X : BitVec 64) (k : Nat) (h : k ≤ 16) : hexTo X k ++ hexFrom X (16 - k) = hexFrom X 16 := by
  induction k with
  | zero => rfl
  | succ k ih =>
    rw [← ih (by omega), show 16 - k = (16 - (k + 1)) + 1 by omega]
    simp only [hexTo, hexFrom, List.append_assoc, List.singleton_append]
    rw [show 16 - (k + 1) = 15 - k by omega]
theorem hexFrom_all (X : BitVec 64) : hexFrom X 16 = hexTo X 16 := by
  have h := hexTo_from X 16 (Nat.le_refl _)
  rw [Nat.sub_self] at h
  rw [← h, hexFrom, List.append_nil]
/-- The digits, from the highest down, put together again. -/
def backN (h : BitVec 64) (k : Nat) : BitVec 64 := BitVec.ofNat 64 (h.toNat / 16 ^ (16 - k))
theorem backN_zero (h : BitVec 64) : backN h 0 = 0#64 := by
  unfold backN; rw [Nat.div_eq_of_lt (by have := h.isLt; simpa using this)]
theorem backN_succ (h : BitVec 64) (k : Nat) (hk : k < 16) : backN h (k + 1) = backN h k * 16#64 + BitVec.ofNat 64 (digN h (15 - k)) := by
  unfold backN
  rw [dig_join h.toNat k hk, BitVec.ofNat_add, BitVec.ofNat_mul, BitVec.mul_comm]
  rfl
theorem backN_all (h : BitVec 64) : backN h 16 = h := by unfold backN; simp
end Go.Proofs.YtbhnlodfpepbpaaDoor
