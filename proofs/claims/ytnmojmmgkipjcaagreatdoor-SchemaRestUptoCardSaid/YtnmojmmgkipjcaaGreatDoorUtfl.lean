/- Plain law: the document's reading of characters is that of package utf8. No program in sight. Conditions: none. -/
import Derived.Lib.ValidLaws
namespace Go.Proofs.YtnmojmmgkipjcaaGreatDoor
/-- does a text stand in a list? -/
def hasB (l : List ByteArray) (s : ByteArray) : Bool := l.any (fun x => x.data.toList == s.data.toList)
/-- the bytes behind a lead byte: m are to come of a character of n -/
def tails : Nat → Int → Nat → Nat → List UInt8 → Int
  | 0, n, _, _, _ => n
  | _ + 1, _, _, _, [] => -1
  | m + 1, n, lo, hi, b :: t => if b.toNat < lo ∨ hi < b.toNat then 0 else tails m n 128 191 t
/-- how many bytes the character at a text's beginning has; 0: none begins there; -1: the text ends in it -/
def chrD : List UInt8 → Int
  | [] => 0
  | c :: t =>
    if c.toNat < 128 then 1
    else if c.toNat < 194 then 0
    else if c.toNat < 224 then tails 1 2 128 191 t
    else if c.toNat = 224 then tails 2 3 160 191 t
    else if c.toNat = 237 then tails 2 3 128 159 t
    else if c.toNat < 240 then tails 2 3 128 191 t
    else if c.toNat = 240 then tails 3 4 144 191 t
    else if c.toNat < 244 then tails 3 4 128 191 t
    else if c.toNat = 244 then tails 3 4 128 143 t
    else 0
theorem tails_le : ∀ (m : Nat) (n : Int) (lo hi : Nat) (t : List UInt8), (m : Int) < n → tails m n lo hi t ≤ n ∧ -1 ≤ tails m n lo hi t ∧ (0 < tails m n lo hi t → tails m n lo hi t = n ∧ m ≤ t.length)
  | 0, n, _, _, t, h => by simp only [tails]; exact ⟨by omega, by omega, fun _ => ⟨trivial, by omega⟩⟩
  | m + 1, n, _, _, [], h => by simp only [tails]; exact ⟨by omega, by omega, fun h => by omega⟩
  | m + 1, n, lo, hi, b :: t, h => by
    simp only [tails]
    split
    · exact ⟨by omega, by omega, fun h => by omega⟩
    · have := tails_le m n 128 191 t (by omega)
      simp only [List.length_cons]
      exact ⟨this.1, this.2.1, fun h => ⟨(this.2.2 h).1, by have := (this.2.2 h).2; omega⟩⟩
theorem chr_le (l : List UInt8) : -1 ≤ chrD l ∧ chrD l ≤ 4 ∧ chrD l ≤ l.length := by
  cases l with
  | nil => simp [chrD]
  | cons c t =>
    have h1 := tails_le 1 2 128 191 t (by omega)
    have h2 := tails_le 2 3 160 191 t (by omega)
    have h3 := tails_le 2 3 128 159 t (by omega)
    have h4 := tails_le 2 3 128 191 t (by omega)
    have h5 := tails_le 3 4 144 191 t (by omega)
    have h6 := tails_le 3 4 128 191 t (by omega)
    have h7 := tails_le 3 4 128 143 t (by omega)
    simp only [chrD, List.length_cons]
    repeat' split
    all_goals omega
theorem tails2 (lo hi : Nat) (t : List UInt8) : (Lib.checkN (t.length + 1) (t.getD 0 0).toNat (t.getD 1 0).toNat (t.getD 2 0).toNat 2 lo hi = none ∧ tails 1 2 lo hi t ≤ 0) ∨ (Lib.checkN (t.length + 1) (t.getD 0 0).toNat (t.getD 1 0).toNat (t.getD 2 0).toNat 2 lo hi = some 2 ∧ tails 1 2 lo hi t = 2) := by
  match t with
  | [] =>
    left; exact ⟨by unfold Lib.checkN; rw [if_pos rfl, if_pos (by simp; try omega)], by simp only [tails]; decide⟩
  | b :: t =>
    rcases Classical.em (b.toNat < lo ∨ hi < b.toNat) with h0 | h0
    · left; exact ⟨by unfold Lib.checkN; rw [if_pos rfl, if_pos (by simp; omega)], by simp only [tails]; rw [if_pos h0]; decide⟩
    right; exact ⟨by unfold Lib.checkN; rw [if_pos rfl, if_neg (by simp; omega)], by simp only [tails]; rw [if_neg h0]⟩
theorem tails3 (lo hi : Nat) (t : List UInt8) : (Lib.checkN (t.length + 1) (t.getD 0 0).toNat (t.getD 1 0).toNat (t.getD 2 0).toNat 3 lo hi = none ∧ tails 2 3 lo hi t ≤ 0) ∨ (Lib.checkN (t.length + 1) (t.getD 0 0).toNat (t.getD 1 0).toNat (t.getD 2 0).toNat 3 lo hi = some 3 ∧ tails 2 3 lo hi t = 3) := by
  match t with
  | [] =>
    left; exact ⟨by unfold Lib.checkN; rw [if_neg (by decide), if_pos rfl, if_pos (by simp; try omega)], by simp only [tails]; decide⟩
  | [b] =>
    rcases Classical.em (b.toNat < lo ∨ hi < b.toNat) with h0 | h0
    · left; exact ⟨by unfold Lib.checkN; rw [if_neg (by decide), if_pos rfl, if_pos (by simp)], by simp only [tails]; rw [if_pos h0]; decide⟩
    left; exact ⟨by unfold Lib.checkN; rw [if_neg (by decide), if_pos rfl, if_pos (by simp; try omega)], by simp only [tails]; rw [if_neg h0]; decide⟩
  | b :: c :: t =>
    rcases Classical.em (b.toNat < lo ∨ hi < b.toNat) with h0 | h0
    · left; exact ⟨by unfold Lib.checkN; rw [if_neg (by decide), if_pos rfl, if_pos (by simp; omega)], by simp only [tails]; rw [if_pos h0]; decide⟩
    rcases Classical.em (c.toNat < 128 ∨ 191 < c.toNat) with h1 | h1
    · left; exact ⟨by unfold Lib.checkN; rw [if_neg (by decide), if_pos rfl, if_pos (by simp; omega)], by simp only [tails]; rw [if_neg h0]; rw [if_pos h1]; decide⟩
    right; exact ⟨by unfold Lib.checkN; rw [if_neg (by decide), if_pos rfl, if_neg (by simp; omega)], by simp only [tails]; rw [if_neg h0]; rw [if_neg h1]⟩
theorem tails4 (lo hi : Nat) (t : List UInt8) : (Lib.checkN (t.length + 1) (t.getD 0 0).toNat (t.getD 1 0).toNat (t.getD 2 0).toNat 4 lo hi = none ∧ tails 3 4 lo hi t ≤ 0) ∨ (Lib.checkN (t.length + 1) (t.getD 0 0).toNat (t.getD 1 0).toNat (t.getD 2 0).toNat 4 lo hi = some 4 ∧ tails 3 4 lo hi t = 4) := by
  match t with
  | [] =>
    left; exact ⟨by unfold Lib.checkN; rw [if_neg (by decide), if_neg (by decide), if_pos rfl, if_pos (by simp; try omega)], by simp only [tails]; decide⟩
  | [b] =>
    rcases Classical.em (b.toNat < lo ∨ hi < b.toNat) with h0 | h0
    · left; exact ⟨by unfold Lib.checkN; rw [if_neg (by decide), if_neg (by decide), if_pos rfl, if_pos (by simp)], by simp only [tails]; rw [if_pos h0]; decide⟩
    left; exact ⟨by unfold Lib.checkN; rw [if_neg (by decide), if_neg (by decide), if_pos rfl, if_pos (by simp; try omega)], by simp only [tails]; rw [if_neg h0]; decide⟩
  | [b, c] =>
    rcases Classical.em (b.toNat < lo ∨ hi < b.toNat) with h0 | h0
    · left; exact ⟨by unfold Lib.checkN; rw [if_neg (by decide), if_neg (by decide), if_pos rfl, if_pos (by simp)], by simp only [tails]; rw [if_pos h0]; decide⟩
    rcases Classical.em (c.toNat < 128 ∨ 191 < c.toNat) with h1 | h1
    · left; exact ⟨by unfold Lib.checkN; rw [if_neg (by decide), if_neg (by decide), if_pos rfl, if_pos (by simp)], by simp only [tails]; rw [if_neg h0]; rw [if_pos h1]; decide⟩
    left; exact ⟨by unfold Lib.checkN; rw [if_neg (by decide), if_neg (by decide), if_pos rfl, if_pos (by simp; try omega)], by simp only [tails]; rw [if_neg h0]; rw [if_neg h1]; decide⟩
  | b :: c :: d :: t =>
    rcases Classical.em (b.toNat < lo ∨ hi < b.toNat) with h0 | h0
    · left; exact ⟨by unfold Lib.checkN; rw [if_neg (by decide), if_neg (by decide), if_pos rfl, if_pos (by simp; omega)], by simp only [tails]; rw [if_pos h0]; decide⟩
    rcases Classical.em (c.toNat < 128 ∨ 191 < c.toNat) with h1 | h1
    · left; exact ⟨by unfold Lib.checkN; rw [if_neg (by decide), if_neg (by decide), if_pos rfl, if_pos (by simp; omega)], by simp only [tails]; rw [if_neg h0]; rw [if_pos h1]; decide⟩
    rcases Classical.em (d.toNat < 128 ∨ 191 < d.toNat) with h2 | h2
    · left; exact ⟨by unfold Lib.checkN; rw [if_neg (by decide), if_neg (by decide), if_pos rfl, if_pos (by simp; omega)], by simp only [tails]; rw [if_neg h0]; rw [if_neg h1]; rw [if_pos h2]; decide⟩
    right; exact ⟨by unfold Lib.checkN; rw [if_neg (by decide), if_neg (by decide), if_pos rfl, if_neg (by simp; omega)], by simp only [tails]; rw [if_neg h0]; rw [if_neg h1]; rw [if_neg h2]⟩
theorem valid_chr (l : List UInt8) (hne : l ≠ []) : Lib.validD l = if chrD l ≤ 0 then false else Lib.validD (l.drop (chrD l).toNat) := by
  cases l with
  | nil => exact absurd rfl hne
  | cons c t =>
    by_cases h0 : c.toNat < 128
    · rw [Lib.validD_cons c t h0]; simp [chrD, h0]
    · have hc := c.toNat_lt
      rw [Lib.validD_lead _ hne (by simpa using h0)]
      have key : ∀ (sz lo hi : Nat) (T : Int), ((Lib.checkN (t.length + 1) (t.getD 0 0).toNat (t.getD 1 0).toNat (t.getD 2 0).toNat sz lo hi = none ∧ T ≤ 0) ∨ (Lib.checkN (t.length + 1) (t.getD 0 0).toNat (t.getD 1 0).toNat (t.getD 2 0).toNat sz lo hi = some sz ∧ T = sz)) → 2 ≤ sz →
          (match Lib.checkN (t.length + 1) (t.getD 0 0).toNat (t.getD 1 0).toNat (t.getD 2 0).toNat sz lo hi with | none => false | some k => Lib.validD ((c :: t).drop k)) = if T ≤ 0 then false else Lib.validD ((c :: t).drop T.toNat) := by
        intro sz lo hi T h h2
        rcases h with ⟨h, h3⟩ | ⟨h, rfl⟩
        · rw [h, if_pos h3]
        · rw [h, if_neg (by omega)]; rfl
      have hf : Lib.firstT c.toNat = if c.toNat < 194 then 241 else if c.toNat < 224 then 2 else if c.toNat = 224 then 19 else if c.toNat < 237 then 3 else if c.toNat = 237 then 35 else if c.toNat < 240 then 3 else if c.toNat = 240 then 52 else if c.toNat < 244 then 4 else if c.toNat = 244 then 68 else 241 := by
        unfold Lib.firstT; rw [if_neg h0]
      simp only [List.length_cons, List.getD_cons_zero, List.getD_cons_succ, hf, chrD, if_neg h0]
      have e2 := key 2 128 191 _ (tails2 128 191 t) (by omega)
      have e3a := key 3 160 191 _ (tails3 160 191 t) (by omega)
      have e3b := key 3 128 159 _ (tails3 128 159 t) (by omega)
      have e3c := key 3 128 191 _ (tails3 128 191 t) (by omega)
      have e4a := key 4 144 191 _ (tails4 144 191 t) (by omega)
      have e4b := key 4 128 191 _ (tails4 128 191 t) (by omega)
      have e4c := key 4 128 143 _ (tails4 128 143 t) (by omega)
      have en : ∀ lo hi, Lib.checkN (t.length + 1) (t.getD 0 0).toNat (t.getD 1 0).toNat (t.getD 2 0).toNat 1 lo hi = none := fun lo hi => by simp [Lib.checkN]
      rcases (show c.toNat < 194 ∨ (194 ≤ c.toNat ∧ c.toNat < 224) ∨ c.toNat = 224 ∨ (225 ≤ c.toNat ∧ c.toNat < 237) ∨ c.toNat = 237 ∨ (238 ≤ c.toNat ∧ c.toNat < 240) ∨ c.toNat = 240 ∨ (241 ≤ c.toNat ∧ c.toNat < 244) ∨ c.toNat = 244 ∨ 245 ≤ c.toNat by omega) with h | h | h | h | h | h | h | h | h | h
      · simp only [if_pos h]; rw [show 241 % 8 = 1 from rfl, en]; rfl
      · rw [if_neg (show ¬ c.toNat < 194 by omega), if_pos h.2, if_neg (show ¬ c.toNat < 194 by omega), if_pos h.2]; exact e2
      · simp only [h]; exact e3a
      · rw [if_neg (show ¬ c.toNat < 194 by omega), if_neg (show ¬ c.toNat < 224 by omega), if_neg (show ¬ c.toNat = 224 by omega), if_pos h.2, if_neg (show ¬ c.toNat < 194 by omega), if_neg (show ¬ c.toNat < 224 by omega), if_neg (show ¬ c.toNat = 224 by omega), if_neg (show ¬ c.toNat = 237 by omega), if_pos (show c.toNat < 240 by omega)]; exact e3c
      · simp only [h]; exact e3b
      · rw [if_neg (show ¬ c.toNat < 194 by omega), if_neg (show ¬ c.toNat < 224 by omega), if_neg (show ¬ c.toNat = 224 by omega), if_neg (show ¬ c.toNat < 237 by omega), if_neg (show ¬ c.toNat = 237 by omega), if_pos h.2, if_neg (show ¬ c.toNat < 194 by omega), if_neg (show ¬ c.toNat < 224 by omega), if_neg (show ¬ c.toNat = 224 by omega), if_neg (show ¬ c.toNat = 237 by omega), if_pos (show c.toNat < 240 by omega)]; exact e3c
      · simp only [h]; exact e4a
      · rw [if_neg (show ¬ c.toNat < 194 by omega), if_neg (show ¬ c.toNat < 224 by omega), if_neg (show ¬ c.toNat = 224 by omega), if_neg (show ¬ c.toNat < 237 by omega), if_neg (show ¬ c.toNat = 237 by omega), if_neg (show ¬ c.toNat < 240 by omega), if_neg (show ¬ c.toNat = 240 by omega), if_pos h.2, if_neg (show ¬ c.toNat < 194 by omega), if_neg (show ¬ c.toNat < 224 by omega), if_neg (show ¬ c.toNat = 224 by omega), if_neg (show ¬ c.toNat = 237 by omega), if_neg (show ¬ c.toNat < 240 by omega), if_neg (show ¬ c.toNat = 240 by omega), if_pos h.2]; exact e4b
      · simp only [h]; exact e4c
      · rw [if_neg (show ¬ c.toNat < 194 by omega), if_neg (show ¬ c.toNat < 224 by omega), if_neg (show ¬ c.toNat = 224 by omega), if_neg (show ¬ c.toNat < 237 by omega), if_neg (show ¬ c.toNat = 237 by omega), if_neg (show ¬ c.toNat < 240 by omega), if_neg (show ¬ c.toNat = 240 by omega), if_neg (show ¬ c.toNat < 244 by omega), if_neg (show ¬ c.toNat = 244 by omega), if_neg (show ¬ c.toNat < 194 by omega), if_neg (show ¬ c.toNat < 224 by omega), if_neg (show ¬ c.toNat = 224 by omega), if_neg (show ¬ c.toNat = 237 by omega), if_neg (show ¬ c.toNat < 240 by omega), if_neg (show ¬ c.toNat = 240 by omega), if_neg (show ¬ c.toNat < 244 by omega), if_neg (show ¬ c.toNat = 244 by omega)]; rw [show 241 % 8 = 1 from rfl, en]; rfl
end Go.Proofs.YtnmojmmgkipjcaaGreatDoor
