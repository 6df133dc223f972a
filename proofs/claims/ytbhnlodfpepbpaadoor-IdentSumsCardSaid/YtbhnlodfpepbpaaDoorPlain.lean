/- Plain law for ident: Mix and Unmix over 64 bits, there and back. No program in sight. -/
namespace Go.Proofs.YtbhnlodfpepbpaaDoor

/-- n times -/
def rep {α : Type} (f : α → α) : Nat → α → α
  | 0, x => x
  | n + 1, x => rep f n (f x)
theorem rep_succ {α : Type} (f : α → α) (n : Nat) : ∀ x, rep f (n + 1) x = f (rep f n x) := by
  induction n with
  | zero => intro x; rfl
  | succ n ih => intro x; show rep f (n + 1) (f x) = _; rw [ih]; rfl

def gap : BitVec 64 := 11400714819323198485#64
def fa : BitVec 64 := 13787848793156543929#64
def fb : BitVec 64 := 10723151780598845931#64
def ia : BitVec 64 := rep (fun x => x * (2#64 - fa * x)) 6 fa
def ib : BitVec 64 := rep (fun x => x * (2#64 - fb * x)) 6 fb

def mixB (n : BitVec 64) : BitVec 64 :=
  let x := n + gap
  let x := (x ^^^ x >>> 30) * fa
  let x := (x ^^^ x >>> 27) * fb
  x ^^^ x >>> 31

/-- one step of unshift -/
def ustep (x : BitVec 64) (k : Nat) (y : BitVec 64) : BitVec 64 := x ^^^ y >>> k
def unsh (x : BitVec 64) (k n : Nat) : BitVec 64 := rep (ustep x k) n x

theorem xor_shr (x y : BitVec 64) (k : Nat) : (x ^^^ y) >>> k = (x >>> k) ^^^ (y >>> k) := by
  apply BitVec.eq_of_getLsbD_eq
  intro i _
  simp [BitVec.getLsbD_xor, BitVec.getLsbD_ushiftRight]
theorem shr_big (x : BitVec 64) (k : Nat) (h : 64 ≤ k) : x >>> k = 0#64 := by
  apply BitVec.eq_of_getLsbD_eq
  intro i _
  rw [BitVec.getLsbD_ushiftRight]
  simp
  exact BitVec.getLsbD_of_ge _ _ (by omega)
theorem shr_shr (x : BitVec 64) (a b : Nat) : (x >>> a) >>> b = x >>> (a + b) := by
  rw [BitVec.shiftRight_add]
theorem xor4 (a b c : BitVec 64) : (a ^^^ b) ^^^ (a ^^^ c) = b ^^^ c := by
  rw [BitVec.xor_assoc, ← BitVec.xor_assoc b a c, BitVec.xor_comm b a, BitVec.xor_assoc, ← BitVec.xor_assoc, BitVec.xor_self, BitVec.zero_xor]
theorem eq_of_xor {a b : BitVec 64} (h : a ^^^ b = 0#64) : a = b := BitVec.xor_eq_zero_iff.1 h

/-- After n rounds two starts differ by their difference moved n times. -/
theorem rep_diff (x : BitVec 64) (k n : Nat) : ∀ y z, rep (ustep x k) n y ^^^ rep (ustep x k) n z = (y ^^^ z) >>> (k * n) := by
  induction n with
  | zero => intro y z; simp [rep]
  | succ n ih =>
    intro y z
    show rep (ustep x k) n (ustep x k y) ^^^ rep (ustep x k) n (ustep x k z) = _
    rw [ih]
    unfold ustep
    rw [xor4, ← xor_shr, shr_shr]
    congr 1
    rw [Nat.mul_succ]; omega

theorem rep_fix {α : Type} {f : α → α} {z : α} (h : f z = z) (n : Nat) : rep f n z = z := by
  induction n with
  | zero => rfl
  | succ n ih => show rep f n (f z) = z; rw [h, ih]

/-- The number that was moved is found. -/
theorem unsh_of (z : BitVec 64) (k n : Nat) (h : 64 ≤ k * n) : unsh (z ^^^ z >>> k) k n = z := by
  have hf : ustep (z ^^^ z >>> k) k z = z := by
    unfold ustep; rw [BitVec.xor_assoc, BitVec.xor_self, BitVec.xor_zero]
  have hd := rep_diff (z ^^^ z >>> k) k n (z ^^^ z >>> k) z
  rw [rep_fix hf n, shr_big _ _ h] at hd
  exact eq_of_xor hd

/-- What unshift finds, moved, is what was given. -/
theorem unsh_to (x : BitVec 64) (k n : Nat) (h : 64 ≤ k * n) : unsh x k n ^^^ unsh x k n >>> k = x := by
  have hd := rep_diff x k n (ustep x k x) x
  rw [shr_big _ _ h] at hd
  have he := eq_of_xor hd
  rw [show rep (ustep x k) n (ustep x k x) = ustep x k (rep (ustep x k) n x) from rep_succ (ustep x k) n x] at he
  show rep (ustep x k) n x ^^^ rep (ustep x k) n x >>> k = x
  generalize rep (ustep x k) n x = y at he
  unfold ustep at he
  calc y ^^^ y >>> k = (x ^^^ y >>> k) ^^^ y >>> k := by rw [he]
    _ = x := by rw [BitVec.xor_assoc, BitVec.xor_self, BitVec.xor_zero]

/-- enough rounds: all the same -/
theorem unsh_same (x : BitVec 64) (k n m : Nat) (hn : 64 ≤ k * n) (hm : 64 ≤ k * m) : unsh x k n = unsh x k m := by
  have h := unsh_of (unsh x k n) k m hm
  rw [unsh_to x k n hn] at h
  exact h.symm

def unmixB (n : BitVec 64) : BitVec 64 :=
  let x := unsh n 31 3
  let x := unsh (x * ib) 27 3
  let x := unsh (x * ia) 30 3
  x - gap

theorem fa_ia : fa * ia = 1#64 := by decide +kernel
theorem fb_ib : fb * ib = 1#64 := by decide +kernel
theorem ia_fa : ia * fa = 1#64 := by decide +kernel
theorem ib_fb : ib * fb = 1#64 := by decide +kernel

theorem unmix_mix (n : BitVec 64) : unmixB (mixB n) = n := by
  unfold unmixB mixB
  simp only []
  rw [unsh_of _ 31 3 (by decide), BitVec.mul_assoc, fb_ib, BitVec.mul_one, unsh_of _ 27 3 (by decide), BitVec.mul_assoc, fa_ia, BitVec.mul_one, unsh_of _ 30 3 (by decide), BitVec.add_sub_cancel]

theorem mix_unmix (n : BitVec 64) : mixB (unmixB n) = n := by
  unfold unmixB mixB
  simp only []
  rw [BitVec.sub_add_cancel, unsh_to _ 30 3 (by decide), BitVec.mul_assoc, ia_fa, BitVec.mul_one, unsh_to _ 27 3 (by decide), BitVec.mul_assoc, ib_fb, BitVec.mul_one, unsh_to _ 31 3 (by decide)]

theorem mix_inj {a b : BitVec 64} (h : mixB a = mixB b) : a = b := by
  rw [← unmix_mix a, h, unmix_mix]


/-- FNV-1a, from a sum on -/
def hstep (h : BitVec 64) (c : UInt8) : BitVec 64 := (h ^^^ BitVec.ofNat 64 c.toNat) * 1099511628211#64
def hashB (h : BitVec 64) (l : List UInt8) : BitVec 64 := l.foldl hstep h
def hash0 : BitVec 64 := 14695981039346656037#64
theorem hashB_append (h : BitVec 64) (a b : List UInt8) : hashB h (a ++ b) = hashB (hashB h a) b := List.foldl_append
theorem hashB_snoc (h : BitVec 64) (a : List UInt8) (c : UInt8) : hashB h (a ++ [c]) = hstep (hashB h a) c := by rw [hashB_append]; rfl
/-- the digit number l to the base 16 -/
def digN (X : BitVec 64) (l : Nat) : Nat := X.toNat / 16 ^ l % 16
theorem digN_lt (X : BitVec 64) (l : Nat) : digN X l < 16 := Nat.mod_lt _ (by decide)

/-- what is an id's byte; an id -/
def idc (c : UInt8) : Bool := decide (33 ≤ c.toNat) && decide (c.toNat ≤ 126)
def idB (l : List UInt8) : Bool := l.all idc && (decide (1 ≤ l.length) && decide (l.length ≤ 64))
/-- what is a name's letter, what a byte behind the first -/
def letc (c : UInt8) : Bool := decide (97 ≤ c.toNat) && decide (c.toNat ≤ 122)
def othc (c : UInt8) : Bool := (decide (48 ≤ c.toNat) && decide (c.toNat ≤ 57)) || (c.toNat == 45) || (c.toNat == 95) || (c.toNat == 46)
def namec (first : Bool) (c : UInt8) : Bool := letc c || (!first && othc c)
def nameB (l : List UInt8) : Bool := (match l with | [] => true | c :: r => namec true c && r.all (namec false)) && (decide (1 ≤ l.length) && decide (l.length ≤ 32))

/-- a digit's letter -/
def hexd (d : Nat) : UInt8 := if d < 10 then UInt8.ofNat (48 + d) else UInt8.ofNat (87 + d)
/-- the letters of the first n digits from the highest (the fifteenth) down -/
def hexTo (X : BitVec 64) : Nat → List UInt8
  | 0 => []
  | n + 1 => hexTo X n ++ [hexd (digN X (15 - n))]
/-- an id -/
def idOf (s c : BitVec 64) : List UInt8 := 103 :: hexTo (mixB (mixB s ^^^ c)) 16
end Go.Proofs.YtbhnlodfpepbpaaDoor
