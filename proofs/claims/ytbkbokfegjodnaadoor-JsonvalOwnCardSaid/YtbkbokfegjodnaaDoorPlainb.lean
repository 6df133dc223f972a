/- Plain laws: what is written is read; what was read has no fault; the bytes ahead of a fault show none. Conditions: what the laws name. -/
import Derived.Test.YtbkbokfegjodnaaDoorPrinta
import Derived.Test.YtbkbokfegjodnaaDoorMemory
namespace Go.Proofs.YtbkbokfegjodnaaDoor
/-! characters -/
theorem tails_app : ∀ (m : Nat) (n : Int) (lo hi : Nat) (t x : List UInt8), 0 < n → 0 < tails m n lo hi t → tails m n lo hi (t.take m ++ x) = n
  | 0, n, lo, hi, t, x, _, _ => by simp [tails]
  | m + 1, n, lo, hi, [], x, hn, h => by simp [tails] at h
  | m + 1, n, lo, hi, b :: t, x, hn, h => by
    rw [tails] at h
    split at h
    · omega
    · rename_i hb
      rw [List.take_succ_cons, List.cons_append, tails, if_neg hb]
      exact tails_app m n 128 191 t x hn h
theorem tails_is {m : Nat} {n : Int} {lo hi : Nat} {t : List UInt8} (hmn : (m : Int) < n) (h : 0 < tails m n lo hi t) : tails m n lo hi t = n := ((tails_le m n lo hi t hmn).2.2 h).1
theorem chr_app (l x : List UInt8) (h : 0 < chrD l) : chrD (l.take (chrD l).toNat ++ x) = chrD l := by
  cases l with
  | nil => simp [chrD] at h
  | cons c t =>
    have key : ∀ (m : Nat) (n : Int) (lo hi : Nat), n = (m : Int) + 1 → 0 < tails m n lo hi t → (c :: t).take (tails m n lo hi t).toNat = c :: t.take m ∧ tails m n lo hi (t.take m ++ x) = tails m n lo hi t := by
      intro m n lo hi hn hp
      have he := tails_is (by omega) hp
      have ha := tails_app m n lo hi t x (by omega) hp
      refine ⟨?_, by rw [ha, he]⟩
      rw [he, hn, show ((m : Int) + 1).toNat = m + 1 by omega, List.take_succ_cons]
    rw [chrD] at h ⊢
    split at h
    · rename_i h1
      rw [if_pos h1]
      show chrD (c :: ([] ++ x)) = 1
      rw [chrD, if_pos h1]
    · rename_i h1
      rw [if_neg h1]
      split at h
      · omega
      · rename_i h2
        rw [if_neg h2]
        repeat' split at h
        all_goals first
          | omega
          | (rename_i h3; simp only [if_pos h3]; obtain ⟨e1, e2⟩ := key _ _ _ _ (by decide) h; rw [e1, List.cons_append, chrD, if_neg h1, if_neg h2, if_pos h3, e2])
          | (rename_i h3 h4; simp only [if_neg h3, if_pos h4]; obtain ⟨e1, e2⟩ := key _ _ _ _ (by decide) h; rw [e1, List.cons_append, chrD, if_neg h1, if_neg h2, if_neg h3, if_pos h4, e2])
          | (rename_i h3 h4 h5; simp only [if_neg h3, if_neg h4, if_pos h5]; obtain ⟨e1, e2⟩ := key _ _ _ _ (by decide) h; rw [e1, List.cons_append, chrD, if_neg h1, if_neg h2, if_neg h3, if_neg h4, if_pos h5, e2])
          | (rename_i h3 h4 h5 h6; simp only [if_neg h3, if_neg h4, if_neg h5, if_pos h6]; obtain ⟨e1, e2⟩ := key _ _ _ _ (by decide) h; rw [e1, List.cons_append, chrD, if_neg h1, if_neg h2, if_neg h3, if_neg h4, if_neg h5, if_pos h6, e2])
          | (rename_i h3 h4 h5 h6 h7; simp only [if_neg h3, if_neg h4, if_neg h5, if_neg h6, if_pos h7]; obtain ⟨e1, e2⟩ := key _ _ _ _ (by decide) h; rw [e1, List.cons_append, chrD, if_neg h1, if_neg h2, if_neg h3, if_neg h4, if_neg h5, if_neg h6, if_pos h7, e2])
          | (rename_i h3 h4 h5 h6 h7 h8; simp only [if_neg h3, if_neg h4, if_neg h5, if_neg h6, if_neg h7, if_pos h8]; obtain ⟨e1, e2⟩ := key _ _ _ _ (by decide) h; rw [e1, List.cons_append, chrD, if_neg h1, if_neg h2, if_neg h3, if_neg h4, if_neg h5, if_neg h6, if_neg h7, if_pos h8, e2])
          | (rename_i h3 h4 h5 h6 h7 h8 h9; simp only [if_neg h3, if_neg h4, if_neg h5, if_neg h6, if_neg h7, if_neg h8, if_pos h9]; obtain ⟨e1, e2⟩ := key _ _ _ _ (by decide) h; rw [e1, List.cons_append, chrD, if_neg h1, if_neg h2, if_neg h3, if_neg h4, if_neg h5, if_neg h6, if_neg h7, if_neg h8, if_pos h9, e2])
theorem u8_eq {c d : UInt8} (h : c.toNat = d.toNat) : c = d := UInt8.toNat_inj.1 h
theorem u8_ne {c d : UInt8} (h : c.toNat ≠ d.toNat) : c ≠ d := fun e => h (by rw [e])
theorem u8_nat {c d : UInt8} (h : c ≠ d) : c.toNat ≠ d.toNat := fun e => h (u8_eq e)
/-- a control character's escape -/
theorem esc_ctl (N : Nat) (c : UInt8) (h : c.toNat < 32) (r : List UInt8) : ∃ q, jqc c = 92 :: q ∧ jesc N (q ++ r) = .ok [c] r := by
  rcases (show c.toNat = 0 ∨ c.toNat = 1 ∨ c.toNat = 2 ∨ c.toNat = 3 ∨ c.toNat = 4 ∨ c.toNat = 5 ∨ c.toNat = 6 ∨ c.toNat = 7 ∨ c.toNat = 8 ∨ c.toNat = 9 ∨ c.toNat = 10 ∨ c.toNat = 11 ∨ c.toNat = 12 ∨ c.toNat = 13 ∨ c.toNat = 14 ∨ c.toNat = 15 ∨ c.toNat = 16 ∨ c.toNat = 17 ∨ c.toNat = 18 ∨ c.toNat = 19 ∨ c.toNat = 20 ∨ c.toNat = 21 ∨ c.toNat = 22 ∨ c.toNat = 23 ∨ c.toNat = 24 ∨ c.toNat = 25 ∨ c.toNat = 26 ∨ c.toNat = 27 ∨ c.toNat = 28 ∨ c.toNat = 29 ∨ c.toNat = 30 ∨ c.toNat = 31 by omega) with e | e | e | e | e | e | e | e | e | e | e | e | e | e | e | e | e | e | e | e | e | e | e | e | e | e | e | e | e | e | e | e
  · obtain rfl := u8_eq (d := 0) e; exact ⟨[117, 48, 48, 48, 48], rfl, rfl⟩
  · obtain rfl := u8_eq (d := 1) e; exact ⟨[117, 48, 48, 48, 49], rfl, rfl⟩
  · obtain rfl := u8_eq (d := 2) e; exact ⟨[117, 48, 48, 48, 50], rfl, rfl⟩
  · obtain rfl := u8_eq (d := 3) e; exact ⟨[117, 48, 48, 48, 51], rfl, rfl⟩
  · obtain rfl := u8_eq (d := 4) e; exact ⟨[117, 48, 48, 48, 52], rfl, rfl⟩
  · obtain rfl := u8_eq (d := 5) e; exact ⟨[117, 48, 48, 48, 53], rfl, rfl⟩
  · obtain rfl := u8_eq (d := 6) e; exact ⟨[117, 48, 48, 48, 54], rfl, rfl⟩
  · obtain rfl := u8_eq (d := 7) e; exact ⟨[117, 48, 48, 48, 55], rfl, rfl⟩
  · obtain rfl := u8_eq (d := 8) e; exact ⟨[98], rfl, rfl⟩
  · obtain rfl := u8_eq (d := 9) e; exact ⟨[116], rfl, rfl⟩
  · obtain rfl := u8_eq (d := 10) e; exact ⟨[110], rfl, rfl⟩
  · obtain rfl := u8_eq (d := 11) e; exact ⟨[117, 48, 48, 48, 98], rfl, rfl⟩
  · obtain rfl := u8_eq (d := 12) e; exact ⟨[102], rfl, rfl⟩
  · obtain rfl := u8_eq (d := 13) e; exact ⟨[114], rfl, rfl⟩
  · obtain rfl := u8_eq (d := 14) e; exact ⟨[117, 48, 48, 48, 101], rfl, rfl⟩
  · obtain rfl := u8_eq (d := 15) e; exact ⟨[117, 48, 48, 48, 102], rfl, rfl⟩
  · obtain rfl := u8_eq (d := 16) e; exact ⟨[117, 48, 48, 49, 48], rfl, rfl⟩
  · obtain rfl := u8_eq (d := 17) e; exact ⟨[117, 48, 48, 49, 49], rfl, rfl⟩
  · obtain rfl := u8_eq (d := 18) e; exact ⟨[117, 48, 48, 49, 50], rfl, rfl⟩
  · obtain rfl := u8_eq (d := 19) e; exact ⟨[117, 48, 48, 49, 51], rfl, rfl⟩
  · obtain rfl := u8_eq (d := 20) e; exact ⟨[117, 48, 48, 49, 52], rfl, rfl⟩
  · obtain rfl := u8_eq (d := 21) e; exact ⟨[117, 48, 48, 49, 53], rfl, rfl⟩
  · obtain rfl := u8_eq (d := 22) e; exact ⟨[117, 48, 48, 49, 54], rfl, rfl⟩
  · obtain rfl := u8_eq (d := 23) e; exact ⟨[117, 48, 48, 49, 55], rfl, rfl⟩
  · obtain rfl := u8_eq (d := 24) e; exact ⟨[117, 48, 48, 49, 56], rfl, rfl⟩
  · obtain rfl := u8_eq (d := 25) e; exact ⟨[117, 48, 48, 49, 57], rfl, rfl⟩
  · obtain rfl := u8_eq (d := 26) e; exact ⟨[117, 48, 48, 49, 97], rfl, rfl⟩
  · obtain rfl := u8_eq (d := 27) e; exact ⟨[117, 48, 48, 49, 98], rfl, rfl⟩
  · obtain rfl := u8_eq (d := 28) e; exact ⟨[117, 48, 48, 49, 99], rfl, rfl⟩
  · obtain rfl := u8_eq (d := 29) e; exact ⟨[117, 48, 48, 49, 100], rfl, rfl⟩
  · obtain rfl := u8_eq (d := 30) e; exact ⟨[117, 48, 48, 49, 101], rfl, rfl⟩
  · obtain rfl := u8_eq (d := 31) e; exact ⟨[117, 48, 48, 49, 102], rfl, rfl⟩
/-- a text, written, is read as itself -/
theorem jtext_q (N : Nat) : ∀ (n : Nat) (s : List UInt8), s.length ≤ n → Lib.validD s = true → ∀ (f : Nat) (r acc : List UInt8), (jqs s).length < f → jtext N f (jqs s ++ 34 :: r) acc = .ok (acc ++ s) r
  | n, [], _, _, f, r, acc, hf => by
    obtain ⟨g, rfl⟩ : ∃ g, f = g + 1 := ⟨f - 1, by omega⟩
    show jtext N (g + 1) (34 :: r) acc = _
    rw [jtext, if_pos rfl, List.append_nil]
  | 0, c :: t, hl, _, _, _, _, _ => by simp at hl
  | n + 1, c :: t, hl, hv, f, r, acc, hf => by
    obtain ⟨g, rfl⟩ : ∃ g, f = g + 1 := ⟨f - 1, by omega⟩
    have hlt : t.length ≤ n := by simpa using hl
    by_cases hc : c.toNat < 128
    · have hvt : Lib.validD t = true := by rwa [Lib.validD_cons c t hc] at hv
      rw [jqs_cons] at hf ⊢
      have hap : acc ++ c :: t = acc ++ [c] ++ t := by simp
      rw [List.length_append] at hf
      by_cases h34 : c = 34
      · subst h34
        have e : jqc 34 = [92, 34] := rfl
        rw [e] at hf ⊢
        show jtext N (g + 1) (92 :: 34 :: (jqs t ++ 34 :: r)) acc = _
        rw [jtext, if_neg (by decide), if_pos rfl, jesc, if_pos rfl, hap]
        exact jtext_q N n t hlt hvt g r _ (by simp at hf; omega)
      by_cases h92 : c = 92
      · subst h92
        have e : jqc 92 = [92, 92] := rfl
        rw [e] at hf ⊢
        show jtext N (g + 1) (92 :: 92 :: (jqs t ++ 34 :: r)) acc = _
        rw [jtext, if_neg (by decide), if_pos rfl, jesc, if_neg (by decide), if_pos rfl, hap]
        exact jtext_q N n t hlt hvt g r _ (by simp at hf; omega)
      by_cases h32 : c.toNat < 32
      · obtain ⟨q, e, he⟩ := esc_ctl N c h32 (jqs t ++ 34 :: r)
        rw [e] at hf ⊢
        rw [List.append_assoc, List.cons_append, jtext, if_neg (by decide), if_pos rfl, he, hap]
        exact jtext_q N n t hlt hvt g r _ (by simp at hf; omega)
      · have e : jqc c = [c] := by
          have ne : ∀ d : UInt8, d.toNat < 32 → c ≠ d := fun d hd e => by rw [e] at h32; omega
          unfold jqc
          rw [if_neg (fun h => h.elim h34 h92), if_neg (ne 8 (by decide)), if_neg (ne 9 (by decide)), if_neg (ne 10 (by decide)), if_neg (ne 12 (by decide)), if_neg (ne 13 (by decide)), if_neg h32]
        rw [e] at hf ⊢
        show jtext N (g + 1) (c :: (jqs t ++ 34 :: r)) acc = _
        have h1 : chrD (c :: (jqs t ++ 34 :: r)) = 1 := by rw [chrD, if_pos hc]
        rw [jtext, if_neg h34, if_neg h92, if_neg h32, h1, if_neg (by decide), if_neg (by decide), hap]
        exact jtext_q N n t hlt hvt g r _ (by simp at hf; omega)
    · have h128 : 128 ≤ c.toNat := by omega
      have hne : c :: t ≠ [] := by simp
      have hch := valid_chr (c :: t) hne
      rw [hv] at hch
      have hpos : 0 < chrD (c :: t) := by
        rcases Int.lt_or_le 0 (chrD (c :: t)) with h | h
        · exact h
        · rw [if_pos h] at hch; cases hch
      rw [if_neg (by omega)] at hch
      obtain ⟨q1, q2, q3, q4⟩ := quo_step hne hv
      have hk : ((Lib.decodeL (c :: t)).2 : Int) = chrD (c :: t) := by
        rcases chr_decode c t h128 with ⟨h, _⟩ | ⟨_, h⟩
        · omega
        · exact h
      have hgood : ¬ ((Lib.decodeL (c :: t)).1 = 65533 ∧ (Lib.decodeL (c :: t)).2 = 1) := by
        rcases chr_decode c t h128 with ⟨h, _⟩ | ⟨h, h2⟩
        · omega
        · intro hh; omega
      have henc := Lib.encode_decode (c :: t) hne hgood
      have hr : 128 ≤ (Lib.decodeL (c :: t)).1 := (decode_high ⟨(c :: t).toArray⟩ 0 (by show 0 < (c :: t).toArray.size; simp) (by show 128 ≤ c.toNat; omega)).1
      have hjr : jqR (Lib.decodeL (c :: t)).1 = (c :: t).take (Lib.decodeL (c :: t)).2 := by unfold jqR; rw [if_neg (by omega), henc]
      rw [hjr] at q3
      have hk2 : (Lib.decodeL (c :: t)).2 = (chrD (c :: t)).toNat := by omega
      rw [hk2] at q1 q2 q3 q4
      have hlen := congrArg List.length q3
      rw [List.length_append, List.length_take] at hlen
      have happ := chr_app (c :: t) (jqs ((c :: t).drop (chrD (c :: t)).toNat) ++ 34 :: r) hpos
      rw [q3, List.append_assoc]
      have hdl : ((c :: t).drop (chrD (c :: t)).toNat).length ≤ n := by rw [List.length_drop]; simp only [List.length_cons] at hl ⊢; omega
      have ih := jtext_q N n ((c :: t).drop (chrD (c :: t)).toNat) hdl q4 g r (acc ++ (c :: t).take (chrD (c :: t)).toNat) (by omega)
      obtain ⟨x, hx⟩ : ∃ x, (c :: t).take (chrD (c :: t)).toNat = c :: x := by
        obtain ⟨m, hm⟩ : ∃ m, (chrD (c :: t)).toNat = m + 1 := ⟨(chrD (c :: t)).toNat - 1, by omega⟩
        rw [hm, List.take_succ_cons]
        exact ⟨_, rfl⟩
      have hxl : (c :: x).length = (chrD (c :: t)).toNat := by rw [← hx, List.length_take]; omega
      rw [hx] at happ ih ⊢
      rw [List.cons_append] at happ ⊢
      have ne : ∀ d : UInt8, d.toNat < 128 → c ≠ d := fun d hd e => by rw [e] at h128; omega
      rw [jtext, if_neg (ne 34 (by decide)), if_neg (ne 92 (by decide)), if_neg (by omega), happ, if_neg (by omega), if_neg (by omega), ← List.cons_append, ← hxl, List.drop_left, List.take_left, hxl, ih]
      rw [List.append_assoc, ← hx, List.take_append_drop]
/-! numbers -/
/-- what stands behind a number is no part of it -/
def Stop (r : List UInt8) : Prop := ∀ (c : UInt8) (q : List UInt8), r = c :: q → isDg c = false ∧ c ≠ 46 ∧ c ≠ 101 ∧ c ≠ 69
theorem stop_nil : Stop [] := fun _ _ h => by cases h
theorem stop_cons {c : UInt8} {q : List UInt8} (h : c = 44 ∨ c = 93 ∨ c = 125) : Stop (c :: q) := fun d q2 e => by
  injection e with e _
  subst e
  rcases h with rfl | rfl | rfl <;> exact ⟨by decide, by decide, by decide, by decide⟩
theorem jdg_of : ∀ (l r : List UInt8), (∀ c ∈ l, isDg c = true) → Stop r → jdg (l ++ r) = (l, r)
  | [], [], _, _ => rfl
  | [], c :: q, _, hs => by
    show jdg (c :: q) = _
    rw [jdg, if_neg (by rw [(hs c q rfl).1]; decide)]
  | c :: l, r, hd, hs => by
    have ih := jdg_of l r (fun d h => hd d (List.mem_cons_of_mem _ h)) hs
    rw [List.cons_append, jdg, if_pos (hd c (List.mem_cons_self ..)), ih]
theorem dec_dg (u : Nat) : ∀ c ∈ Lib.decDigits u, isDg c = true := by
  induction u using Nat.strongRecOn with
  | _ u ih =>
    rw [Lib.decDigits]
    have one : ∀ d : Nat, d < 10 → isDg (UInt8.ofNat (48 + d)) = true := fun d hd => by
      have : (UInt8.ofNat (48 + d)).toNat = 48 + d := by rw [UInt8.toNat_ofNat']; omega
      unfold isDg
      rw [this]
      simp; omega
    split
    · rename_i h
      intro c hc
      simp only [List.mem_cons, List.not_mem_nil, or_false] at hc
      rw [hc]; exact one u h
    · intro c hc
      rcases List.mem_append.1 hc with hc | hc
      · exact ih (u / 10) (by omega) c hc
      · simp only [List.mem_cons, List.not_mem_nil, or_false] at hc
        rw [hc]; exact one _ (by omega)
theorem dec_val (u : Nat) : decL (Lib.decDigits u) = u := by
  induction u using Nat.strongRecOn with
  | _ u ih =>
    have one : ∀ d : Nat, d < 10 → (UInt8.ofNat (48 + d)).toNat - 48 = d := fun d hd => by rw [UInt8.toNat_ofNat']; omega
    rw [Lib.decDigits]
    split
    · rename_i h
      show 10 * 0 + ((UInt8.ofNat (48 + u)).toNat - 48) = u
      rw [one u h]; omega
    · unfold decL at ih ⊢
      rw [List.foldl_append, ih (u / 10) (by omega)]
      show 10 * (u / 10) + ((UInt8.ofNat (48 + u % 10)).toNat - 48) = u
      rw [one _ (by omega)]; omega
theorem dec_head (u : Nat) : ∃ c l, Lib.decDigits u = c :: l ∧ (c = 48 → u = 0) := by
  induction u using Nat.strongRecOn with
  | _ u ih =>
    rw [Lib.decDigits]
    split
    · rename_i h
      refine ⟨_, [], rfl, fun e => ?_⟩
      have h2 := congrArg UInt8.toNat e
      rw [UInt8.toNat_ofNat'] at h2
      have : (48 : UInt8).toNat = 48 := rfl
      omega
    · obtain ⟨c, l, e, h2⟩ := ih (u / 10) (by omega)
      rw [e]
      exact ⟨c, _, rfl, fun h => by have := h2 h; omega⟩
theorem jds_of (u : Nat) (r : List UInt8) (hs : Stop r) : jds (Lib.decDigits u ++ r) = (Lib.decDigits u, r) := by
  obtain ⟨c, l, e, h⟩ := dec_head u
  by_cases hc : c = 48
  · obtain rfl := h hc
    have e0 : Lib.decDigits 0 = [48] := by rw [Lib.decDigits]; rfl
    rw [e0]
    show jds (48 :: r) = _
    rw [jds, if_pos rfl]
  · have hd := dec_dg u
    rw [e] at hd ⊢
    rw [List.cons_append, jds, if_neg hc, jdg_of l r (fun d hd2 => hd d (List.mem_cons_of_mem _ hd2)) hs]
theorem jnumEnd_of (N f : Nat) (m : Bool) (v : Nat) (r : List UInt8) (hs : Stop r) (hv : ¬ ((m = true ∧ 9223372036854775808 < v) ∨ (m = false ∧ 9223372036854775808 ≤ v))) : jnumEnd N f m v r = .ok (if m then -(v : Int) else v) r := by
  unfold jnumEnd
  rw [if_neg hv]
  cases r with
  | nil => rfl
  | cons c q =>
    obtain ⟨_, h1, h2, h3⟩ := hs c q rfl
    simp only
    rw [if_neg (by rintro (h | h | h) <;> contradiction)]
theorem jnumA_of (N f : Nat) (m : Bool) (u : Nat) (r : List UInt8) (hs : Stop r) (hv : ¬ ((m = true ∧ 9223372036854775808 < u) ∨ (m = false ∧ 9223372036854775808 ≤ u))) : jnumA N f m (Lib.decDigits u ++ r) = .ok (if m then -(u : Int) else u) r := by
  obtain ⟨c, l, e, _⟩ := dec_head u
  have hd : isDg c = true := dec_dg u c (by rw [e]; exact List.mem_cons_self ..)
  have hj := jds_of u r hs
  have hdv := dec_val u
  rw [e] at hj hdv ⊢
  rw [List.cons_append] at hj ⊢
  rw [jnumA, if_pos hd, hj]
  simp only
  rw [hdv]
  exact jnumEnd_of N f m u r hs hv
theorem jnum_of (N : Nat) (n : Int) (hn : -9223372036854775808 ≤ n ∧ n ≤ 9223372036854775807) (r : List UInt8) (hs : Stop r) : jnum N (Lib.itoa n ++ r) = .ok n r := by
  unfold Lib.itoa
  split
  · rename_i h
    rw [List.cons_append, jnum, if_pos rfl, jnumA_of _ _ true _ r hs (by simp; omega)]
    simp only [if_true]
    congr 1
    omega
  · rename_i h
    obtain ⟨c, l, e, _⟩ := dec_head n.toNat
    have hd : isDg c = true := dec_dg n.toNat c (by rw [e]; exact List.mem_cons_self ..)
    have ha := fun N f => jnumA_of N f false n.toNat r hs (by simp; omega)
    rw [e] at ha ⊢
    rw [List.cons_append] at ha ⊢
    have hc : c ≠ 45 := fun e => by rw [e] at hd; revert hd; decide
    rw [jnum, if_neg hc, ha]
    simp only [Bool.false_eq_true, if_false]
    congr 1
    omega
/-! values -/
/-- what a value's text begins with -/
theorem jput_head (t : JV) : ∃ c q, jput t = c :: q ∧ isBl c = false ∧ c ≠ 44 ∧ c ≠ 93 ∧ c ≠ 125 := by
  cases t with
  | mk k n s ns is =>
    rw [jput]
    split
    · exact ⟨_, _, rfl, by decide, by decide, by decide, by decide⟩
    · split
      · exact ⟨_, _, rfl, by decide, by decide, by decide, by decide⟩
      · split
        · exact ⟨_, _, rfl, by decide, by decide, by decide, by decide⟩
        · split
          · unfold Lib.itoa
            split
            · exact ⟨_, _, rfl, by decide, by decide, by decide, by decide⟩
            · obtain ⟨c, l, e, _⟩ := dec_head n.toNat
              have hd : isDg c = true := dec_dg n.toNat c (by rw [e]; exact List.mem_cons_self ..)
              rw [e]
              unfold isDg at hd
              simp only [Bool.and_eq_true, decide_eq_true_eq] at hd
              have ne : ∀ d : UInt8, (d.toNat < 48 ∨ 57 < d.toNat) → c ≠ d := fun d hx e => by rw [e] at hd; omega
              refine ⟨c, l, rfl, ?_, ne 44 (by decide), ne 93 (by decide), ne 125 (by decide)⟩
              unfold isBl
              simp [ne 32 (by decide), ne 9 (by decide), ne 10 (by decide), ne 13 (by decide)]
          · split
            · exact ⟨_, _, rfl, by decide, by decide, by decide, by decide⟩
            · split
              · exact ⟨_, _, rfl, by decide, by decide, by decide, by decide⟩
              · exact ⟨_, _, rfl, by decide, by decide, by decide, by decide⟩
theorem jput_pos (t : JV) : 1 ≤ (jput t).length := by
  obtain ⟨c, q, e, _⟩ := jput_head t
  rw [e]; simp
theorem jputL_cnt : ∀ (f : Bool) (is : List JV), is.length ≤ (jputL f is).length
  | _, [] => Nat.zero_le _
  | f, t :: r => by
    have h1 := jputL_cnt false r
    have h2 := jput_pos t
    rw [jputL]
    simp only [List.length_append, List.length_cons]
    omega
theorem jputM_cnt : ∀ (f : Bool) (ns : List ByteArray) (is : List JV), ns.length = is.length → is.length ≤ (jputM f ns is).length
  | _, _, [], _ => Nat.zero_le _
  | _, [], t :: r, h => by simp at h
  | f, n :: ns, t :: r, h => by
    have h1 := jputM_cnt false ns r (by simpa using h)
    have h2 := jput_pos t
    rw [jputM]
    simp only [List.length_append, List.length_cons]
    omega
theorem jbl_put (t : JV) (r : List UInt8) : jbl (jput t ++ r) = jput t ++ r := by
  obtain ⟨c, q, e, hb, _⟩ := jput_head t
  rw [e, List.cons_append, jbl, if_neg (by rw [hb]; decide)]
theorem jbl_ne {c : UInt8} (h : isBl c = false) (r : List UInt8) : jbl (c :: r) = c :: r := by rw [jbl, if_neg (by rw [h]; decide)]
theorem more_end (N : Nat) (f : Bool) (e : UInt8) (h : isBl e = false) (r : List UInt8) : jmore N f e (e :: r) = .ok false r := by
  unfold jmore
  rw [jbl_ne h]
  simp only [if_true]
theorem more_first (N : Nat) (e : UInt8) (he : e = 93 ∨ e = 125) (t : JV) (r : List UInt8) : jmore N true e (jput t ++ r) = .ok true (jput t ++ r) := by
  obtain ⟨c, q, ep, hb, h1, h2, h3⟩ := jput_head t
  unfold jmore
  rw [ep, List.cons_append, jbl_ne hb]
  simp only
  rw [if_neg (by rcases he with rfl | rfl <;> assumption), if_pos trivial]
theorem more_next (N : Nat) (e : UInt8) (he : e = 93 ∨ e = 125) (r : List UInt8) : jmore N false e (44 :: r) = .ok true (jbl r) := by
  unfold jmore
  rw [jbl_ne (by decide)]
  simp only
  rw [if_neg (by rcases he with rfl | rfl <;> decide), if_neg (by decide), if_pos trivial]
theorem empty_t {s : ByteArray} (h : s.toList.isEmpty = true) : s = ⟨#[]⟩ := by
  rw [ByteArray.toList_eq, List.isEmpty_iff] at h
  exact ByteArray.ext (Array.ext' h)
theorem nil_of {α : Type} {l : List α} (h : ((l.length : Int) == 0) = true) : l = [] := by
  cases l with
  | nil => rfl
  | cons a r => simp at h; omega
/-- what a value's kind leaves of it -/
theorem fits_form {k n : Int} {s : ByteArray} {ns : List ByteArray} {is : List JV} (h : fitsB k n s ns.length is.length = true) :
    ((k = 0 ∨ k = 1 ∨ k = 2) ∧ n = 0 ∧ s = ⟨#[]⟩ ∧ ns = [] ∧ is = []) ∨ (k = 3 ∧ s = ⟨#[]⟩ ∧ ns = [] ∧ is = []) ∨ (k = 4 ∧ n = 0 ∧ ns = [] ∧ is = [] ∧ Lib.validD s.data.toList = true) ∨ (k = 5 ∧ n = 0 ∧ s = ⟨#[]⟩ ∧ ns = []) ∨ (k = 6 ∧ n = 0 ∧ s = ⟨#[]⟩ ∧ ns.length = is.length) := by
  unfold fitsB at h
  split at h
  · rename_i hk
    simp only [Bool.and_eq_true, beq_iff_eq] at h
    exact .inl ⟨hk, h.1.1.1, empty_t h.1.1.2, nil_of (by simpa using h.1.2), nil_of (by simpa using h.2)⟩
  · split at h
    · rename_i hk
      simp only [Bool.and_eq_true, beq_iff_eq] at h
      exact .inr (.inl ⟨hk, empty_t h.1.1, nil_of (by simpa using h.1.2), nil_of (by simpa using h.2)⟩)
    · split at h
      · rename_i hk
        simp only [Bool.and_eq_true, beq_iff_eq] at h
        exact .inr (.inr (.inl ⟨hk, h.1.1.1, nil_of (by simpa using h.1.1.2), nil_of (by simpa using h.1.2), h.2⟩))
      · split at h
        · rename_i hk
          simp only [Bool.and_eq_true, beq_iff_eq] at h
          exact .inr (.inr (.inr (.inl ⟨hk, h.1.1, empty_t h.1.2, nil_of (by simpa using h.2)⟩)))
        · split at h
          · rename_i hk
            simp only [Bool.and_eq_true, beq_iff_eq] at h
            exact .inr (.inr (.inr (.inr ⟨hk, h.1.1, empty_t h.1.2, by omega⟩)))
          · cases h
theorem head_deep (N : Nat) (o : Bool) (deep : Bool → List UInt8 → JR JV) (r : List UInt8) : jhead N deep ((if o then 123 else 91) :: r) = deep o r := by
  rw [jhead]
  cases o
  · rw [if_neg (by decide), if_neg (by decide), if_neg (by decide), if_neg (by decide), if_neg (by decide)]; rfl
  · rw [if_neg (by decide), if_neg (by decide), if_neg (by decide), if_neg (by decide), if_neg (by decide)]; rfl
theorem head_num (N : Nat) (deep : Bool → List UInt8 → JR JV) (n : Int) (hn : -9223372036854775808 ≤ n ∧ n ≤ 9223372036854775807) (r : List UInt8) (hs : Stop r) : jhead N deep (Lib.itoa n ++ r) = .ok (.mk 3 n ⟨#[]⟩ [] []) r := by
  have hj := jnum_of N n hn r hs
  obtain ⟨c, q, e, hc⟩ : ∃ c q, Lib.itoa n = c :: q ∧ (c = 45 ∨ isDg c = true) := by
    unfold Lib.itoa
    split
    · exact ⟨_, _, rfl, .inl rfl⟩
    · obtain ⟨c, l, e, _⟩ := dec_head n.toNat
      exact ⟨c, l, e, .inr (dec_dg n.toNat c (by rw [e]; exact List.mem_cons_self ..))⟩
  rw [e] at hj ⊢
  rw [List.cons_append] at hj ⊢
  have hr : c.toNat ≤ 57 := by
    rcases hc with rfl | hc
    · decide
    · unfold isDg at hc; simp only [Bool.and_eq_true, decide_eq_true_eq] at hc; exact hc.2
  have ne : ∀ d : UInt8, 57 < d.toNat → c ≠ d := fun d hd e => by rw [e] at hr; omega
  rw [jhead, if_neg (ne 110 (by decide)), if_neg (ne 116 (by decide)), if_neg (ne 102 (by decide)), if_pos hc, hj]
theorem head_text (N : Nat) (deep : Bool → List UInt8 → JR JV) (s : ByteArray) (hv : Lib.validD s.data.toList = true) (r : List UInt8) : jhead N deep (jq s.data.toList ++ r) = .ok (.mk 4 0 s [] []) r := by
  unfold jq
  rw [List.cons_append, List.append_assoc, jhead, if_neg (by decide), if_neg (by decide), if_neg (by decide), if_neg (by decide), if_pos rfl]
  have h := jtext_q N _ s.data.toList (Nat.le_refl _) hv ((jqs s.data.toList ++ ([34] ++ r)).length + 1) r [] (by simp; omega)
  rw [show [34] ++ r = 34 :: r from rfl] at h ⊢
  rw [h]
  rfl
theorem name_of (N : Nat) (ns : List ByteArray) (n : ByteArray) (hv : Lib.validD n.data.toList = true) (hh : hasB ns n = false) (t : JV) (r : List UInt8) : jname N ns (jq n.data.toList ++ 58 :: (jput t ++ r)) = .ok n (jput t ++ r) := by
  unfold jq
  rw [List.cons_append, List.append_assoc, jname, if_pos rfl]
  have h := jtext_q N _ n.data.toList (Nat.le_refl _) hv ((jqs n.data.toList ++ ([34] ++ 58 :: (jput t ++ r))).length + 1) (58 :: (jput t ++ r)) [] (by simp; omega)
  rw [show [34] ++ 58 :: (jput t ++ r) = 34 :: 58 :: (jput t ++ r) from rfl] at h ⊢
  rw [h]
  simp only [List.nil_append]
  have e : (⟨n.data.toList.toArray⟩ : ByteArray) = n := ByteArray.ext (by simp)
  rw [e, hh]
  simp only [Bool.false_eq_true, if_false]
  rw [jbl_ne (by decide)]
  simp only [if_true]
  rw [jbl_put]
theorem jq_head (s : List UInt8) : ∃ q, jq s = 34 :: q := ⟨_, rfl⟩
theorem more_firstQ (N : Nat) (s r : List UInt8) : jmore N true 125 (jq s ++ r) = .ok true (jq s ++ r) := by
  obtain ⟨q, e⟩ := jq_head s
  unfold jmore
  rw [e, List.cons_append, jbl_ne (by decide)]
  simp only
  rw [if_neg (by decide), if_pos trivial]
theorem jbl_q (s r : List UInt8) : jbl (jq s ++ r) = jq s ++ r := by
  obtain ⟨q, e⟩ := jq_head s
  rw [e, List.cons_append, jbl_ne (by decide)]
mutual
theorem back_val (N : Nat) : ∀ (t : JV) (k : Nat) (d : Int), okI t → d + (k : Int) = 64 → chk t d = 0 → ∀ r, Stop r → jval N k (jput t ++ r) = .ok t r
  | .mk kd n s ns is, k, d, hoi, hd, hc, r, hs => by
    rw [chk] at hc
    split at hc
    · exact absurd hc (by decide)
    rename_i hm
    split at hc
    · exact absurd hc (by decide)
    rename_i hf
    have hft : fitsB kd n s ns.length is.length = true := by simpa using hf
    rw [okI] at hoi
    have flat : ∀ (x : List UInt8), (∀ deep : Bool → List UInt8 → JR JV, jhead N deep (x ++ r) = .ok (.mk kd n s ns is) r) → jval N k (x ++ r) = .ok (.mk kd n s ns is) r := by
      intro x hx
      cases k with
      | zero => rw [jval]; exact hx _
      | succ k => rw [jval]; exact hx _
    rcases fits_form hft with ⟨hk, rfl, rfl, rfl, rfl⟩ | ⟨rfl, rfl, rfl, rfl⟩ | ⟨rfl, rfl, rfl, rfl, hv⟩ | ⟨rfl, rfl, rfl, rfl⟩ | ⟨rfl, rfl, rfl, hl⟩
    · rcases hk with rfl | rfl | rfl
      · exact flat [110, 117, 108, 108] (fun deep => rfl)
      · exact flat [102, 97, 108, 115, 101] (fun deep => rfl)
      · exact flat [116, 114, 117, 101] (fun deep => rfl)
    · exact flat (Lib.itoa n) (fun deep => head_num N deep n hoi.1 r hs)
    · exact flat (jq s.data.toList) (fun deep => head_text N deep s hv r)
    · obtain ⟨j, rfl⟩ : ∃ j, k = j + 1 := ⟨k - 1, by have : mostD 5 = 63 := rfl; omega⟩
      have e : jput (.mk 5 0 ⟨#[]⟩ [] is) = 91 :: (jputL true is ++ [93]) := by rw [jput]; simp
      rw [e, List.cons_append, List.append_assoc, jval]
      refine (head_deep N false _ _).trans ?_
      have h := back_L N is j d hoi.2 (by omega) [] [] (by simpa using hc) [] [] r ((jputL true is ++ ([93] ++ r)).length + 1) (by have := jputL_cnt true is; simp; omega)
      simpa using h
    · obtain ⟨j, rfl⟩ : ∃ j, k = j + 1 := ⟨k - 1, by have : mostD 6 = 63 := rfl; omega⟩
      have e : jput (.mk 6 0 ⟨#[]⟩ ns is) = 123 :: (jputM true ns is ++ [125]) := by rw [jput]; simp
      rw [e, List.cons_append, List.append_assoc, jval]
      refine (head_deep N true _ _).trans ?_
      have h := back_M N is j d hoi.2 (by omega) ns [] hl (by simpa using hc) [] r ((jputM true ns is ++ ([125] ++ r)).length + 1) (by have := jputM_cnt true ns is hl; simp; omega)
      simpa using h
theorem back_L (N : Nat) : ∀ (is : List JV) (k : Nat) (d : Int), okIs is → d + (k : Int) = 63 → ∀ (nz seen : List ByteArray), chkL false nz seen is d = 0 → ∀ (ns : List ByteArray) (i0 : List JV) (r : List UInt8) (f : Nat), is.length < f →
    jitems N (jval N k) false f (jputL i0.isEmpty is ++ 93 :: r) ns i0 = .ok (.mk 5 0 ⟨#[]⟩ ns (i0 ++ is)) r
  | [], k, d, _, _, nz, seen, _, ns, i0, r, f, hf => by
    obtain ⟨g, rfl⟩ : ∃ g, f = g + 1 := ⟨f - 1, by omega⟩
    have e : jputL i0.isEmpty [] = [] := by rw [jputL]
    rw [e, List.nil_append, jitems]
    rw [show (if (false : Bool) = true then (125 : UInt8) else 93) = 93 from rfl, more_end N _ 93 (by decide)]
    simp
  | t :: is, k, d, hoi, hd, nz, seen, hc, ns, i0, r, f, hf => by
    obtain ⟨g, rfl⟩ : ∃ g, f = g + 1 := ⟨f - 1, by omega⟩
    rw [okIs] at hoi
    rw [chkL, if_neg (by simp), if_neg (by simp)] at hc
    split at hc
    · rename_i hct
      have hst : Stop (jputL false is ++ 93 :: r) := by
        cases is with
        | nil => rw [jputL]; exact stop_cons (by simp)
        | cons u is => rw [jputL]; exact stop_cons (by simp)
      have hval := back_val N t k (d + 1) hoi.1 (by omega) hct (jputL false is ++ 93 :: r) hst
      have ih := back_L N is k d hoi.2 hd _ _ hc ns (i0 ++ [t]) r g (by simp at hf; omega)
      rw [show (i0 ++ [t]).isEmpty = false by simp, List.append_assoc] at ih
      have hmr : jmore N i0.isEmpty 93 (jputL i0.isEmpty (t :: is) ++ 93 :: r) = .ok true (jput t ++ (jputL false is ++ 93 :: r)) := by
        cases h0 : i0.isEmpty with
        | true =>
          rw [jputL]
          simp only [if_true, List.nil_append, List.append_assoc]
          exact more_first N 93 (.inl rfl) t _
        | false =>
          rw [jputL]
          simp only [Bool.false_eq_true, if_false, List.cons_append, List.nil_append, List.append_assoc]
          rw [more_next N 93 (.inl rfl), jbl_put]
      rw [jitems]
      rw [show (if (false : Bool) = true then (125 : UInt8) else 93) = 93 from rfl, hmr]
      simp only [Bool.false_eq_true, if_false]
      rw [hval]
      exact ih
    · contradiction
theorem back_M (N : Nat) : ∀ (is : List JV) (k : Nat) (d : Int), okIs is → d + (k : Int) = 63 → ∀ (ns n0 : List ByteArray), ns.length = is.length → chkL true ns n0 is d = 0 → ∀ (i0 : List JV) (r : List UInt8) (f : Nat), is.length < f →
    jitems N (jval N k) true f (jputM i0.isEmpty ns is ++ 125 :: r) n0 i0 = .ok (.mk 6 0 ⟨#[]⟩ (n0 ++ ns) (i0 ++ is)) r
  | [], k, d, _, _, ns, n0, hl, _, i0, r, f, hf => by
    obtain ⟨g, rfl⟩ : ∃ g, f = g + 1 := ⟨f - 1, by omega⟩
    obtain rfl : ns = [] := List.eq_nil_of_length_eq_zero hl
    have e : jputM i0.isEmpty [] [] = [] := by rw [jputM]; all_goals (intros; contradiction)
    rw [e, List.nil_append, jitems]
    rw [show (if (true : Bool) = true then (125 : UInt8) else 93) = 125 from rfl, more_end N _ 125 (by decide)]
    simp
  | t :: is, k, d, hoi, hd, [], n0, hl, hc, i0, r, f, hf => by simp at hl
  | t :: is, k, d, hoi, hd, n :: ns, n0, hl, hc, i0, r, f, hf => by
    obtain ⟨g, rfl⟩ : ∃ g, f = g + 1 := ⟨f - 1, by omega⟩
    rw [okIs] at hoi
    rw [chkL] at hc
    simp only [List.headD_cons, List.tail_cons] at hc
    split at hc
    · exact absurd hc (by decide)
    rename_i hv0
    split at hc
    · exact absurd hc (by decide)
    rename_i hh0
    have hv : Lib.validD n.data.toList = true := by simpa using hv0
    have hh : hasB n0 n = false := by simpa using hh0
    split at hc
    · rename_i hct
      have hst : Stop (jputM false ns is ++ 125 :: r) := by
        cases is with
        | nil =>
          have : ns = [] := List.eq_nil_of_length_eq_zero (by simpa using hl)
          subst this
          rw [show jputM false [] [] = [] by rw [jputM]; all_goals (intros; contradiction)]; exact stop_cons (by simp)
        | cons u is =>
          cases ns with
          | nil => simp at hl
          | cons m ns => rw [jputM]; exact stop_cons (by simp)
      have hval := back_val N t k (d + 1) hoi.1 (by omega) hct (jputM false ns is ++ 125 :: r) hst
      have ih := back_M N is k d hoi.2 hd ns (n0 ++ [n]) (by simpa using hl) hc (i0 ++ [t]) r g (by simp at hf; omega)
      rw [show (i0 ++ [t]).isEmpty = false by simp, List.append_assoc, List.append_assoc] at ih
      have hmr : jmore N i0.isEmpty 125 (jputM i0.isEmpty (n :: ns) (t :: is) ++ 125 :: r) = .ok true (jq n.data.toList ++ 58 :: (jput t ++ (jputM false ns is ++ 125 :: r))) := by
        cases h0 : i0.isEmpty with
        | true =>
          rw [jputM]
          simp only [if_true, List.nil_append, List.append_assoc, List.cons_append]
          exact more_firstQ N _ _
        | false =>
          rw [jputM]
          simp only [Bool.false_eq_true, if_false, List.cons_append, List.nil_append, List.append_assoc]
          rw [more_next N 125 (.inr rfl), jbl_q]
      rw [jitems]
      rw [show (if (true : Bool) = true then (125 : UInt8) else 93) = 125 from rfl, hmr]
      simp only [if_true]
      rw [name_of N n0 n hv hh t]
      simp only
      rw [hval]
      exact ih
    · contradiction
end
/-- what is written is read as what was written -/
theorem jback (t : JV) (hoi : okI t) (hc : chk t 0 = 0) (hl : (jput t).length ≤ 65536) : jparse (jput t) = .ok t [] := by
  have hv := back_val (jput t).length t 64 0 hoi (by decide) hc [] stop_nil
  rw [List.append_nil] at hv
  have hb := jbl_put t []
  rw [List.append_nil] at hb
  unfold jparse
  rw [if_neg (by omega), hb, hv]
  rfl
/-- unlike values are written unlike -/
theorem jput_inj {t u : JV} (ht : okI t) (hu : okI u) (ct : chk t 0 = 0) (cu : chk u 0 = 0) (hl : (jput t).length ≤ 65536) (h : jput t = jput u) : t = u := by
  have h1 := jback t ht ct hl
  have h2 := jback u hu cu (by rw [← h]; exact hl)
  rw [h, h2] at h1
  injection h1 with h1 _
  exact h1.symm
end Go.Proofs.YtbkbokfegjodnaaDoor
namespace Go.Proofs.YtbkbokfegjodnaaDoor
theorem validD_app : ∀ (n : Nat) (a b : List UInt8), a.length ≤ n → Lib.validD a = true → Lib.validD (a ++ b) = Lib.validD b
  | _, [], b, _, _ => rfl
  | 0, c :: t, b, h, _ => by simp at h
  | n + 1, c :: t, b, h, hv => by
    have hch := valid_chr (c :: t) (by simp)
    rw [hv] at hch
    have hpos : 0 < chrD (c :: t) := by
      rcases Int.lt_or_le 0 (chrD (c :: t)) with h | h
      · exact h
      · rw [if_pos h] at hch; cases hch
    rw [if_neg (by omega)] at hch
    have hle := chr_le (c :: t)
    have happ := chr_app (c :: t) ((c :: t).drop (chrD (c :: t)).toNat ++ b) hpos
    rw [← List.append_assoc, List.take_append_drop] at happ
    have hvv := valid_chr (c :: t ++ b) (by simp)
    rw [happ, if_neg (by omega), List.drop_append_of_le_length (by omega)] at hvv
    rw [hvv]
    exact validD_app n _ b (by rw [List.length_drop]; simp only [List.length_cons] at h ⊢; omega) hch.symm
theorem validD_two {a b : List UInt8} (ha : Lib.validD a = true) (hb : Lib.validD b = true) : Lib.validD (a ++ b) = true := by rw [validD_app _ a b (Nat.le_refl _) ha]; exact hb
theorem valid_of (l : List UInt8) (hne : l ≠ []) (hl : chrD l = l.length) : Lib.validD l = true := by
  have h0 : 0 < l.length := List.length_pos_iff.2 hne
  rw [valid_chr l hne, if_neg (by omega), hl, show ((l.length : Int)).toNat = l.length by omega, List.drop_length]
  rfl
theorem valid_take (l : List UInt8) (h : 0 < chrD l) : Lib.validD (l.take (chrD l).toNat) = true := by
  have hle := chr_le l
  have h1 := chr_app l [] h
  rw [List.append_nil] at h1
  refine valid_of _ (fun e => ?_) ?_
  · have := congrArg List.length e
    rw [List.length_take, List.length_nil] at this
    omega
  · rw [h1, List.length_take]; omega
theorem of_nat {n : Nat} (h : n < 256) : (UInt8.ofNat n).toNat = n := by rw [UInt8.toNat_ofNat']; omega
theorem utfL_ne (n : Nat) : utfL n ≠ [] := by
  unfold utfL
  repeat' split
  all_goals exact List.cons_ne_nil _ _
theorem utfL_valid (n : Nat) (h : n < 55296 ∨ (57343 < n ∧ n ≤ 1114111)) : Lib.validD (utfL n) = true := by
  refine valid_of _ (utfL_ne n) ?_
  unfold utfL
  split
  · rw [chrD, of_nat (by omega), if_pos (by assumption)]; rfl
  · rename_i h1
    split
    · rename_i h2
      rw [chrD, of_nat (by omega), if_neg (by omega), if_neg (by omega), if_pos (by omega), tails, of_nat (by omega), if_neg (by omega), tails]; rfl
    · rename_i h2
      split
      · rename_i h3
        rw [chrD, of_nat (by omega), if_neg (by omega), if_neg (by omega), if_neg (by omega)]
        by_cases a1 : 224 + n / 4096 = 224
        · rw [if_pos a1, tails, of_nat (by omega), if_neg (by omega), tails, of_nat (by omega), if_neg (by omega), tails]; rfl
        · rw [if_neg a1]
          by_cases a2 : 224 + n / 4096 = 237
          · rw [if_pos a2, tails, of_nat (by omega), if_neg (by omega), tails, of_nat (by omega), if_neg (by omega), tails]; rfl
          · rw [if_neg a2, if_pos (by omega), tails, of_nat (by omega), if_neg (by omega), tails, of_nat (by omega), if_neg (by omega), tails]; rfl
      · rename_i h3
        rw [chrD, of_nat (by omega), if_neg (by omega), if_neg (by omega), if_neg (by omega), if_neg (by omega), if_neg (by omega), if_neg (by omega)]
        by_cases a1 : 240 + n / 262144 = 240
        · rw [if_pos a1, tails, of_nat (by omega), if_neg (by omega), tails, of_nat (by omega), if_neg (by omega), tails, of_nat (by omega), if_neg (by omega), tails]; rfl
        · rw [if_neg a1]
          by_cases a2 : 240 + n / 262144 < 244
          · rw [if_pos a2, tails, of_nat (by omega), if_neg (by omega), tails, of_nat (by omega), if_neg (by omega), tails, of_nat (by omega), if_neg (by omega), tails]; rfl
          · rw [if_neg a2, if_pos (by omega), tails, of_nat (by omega), if_neg (by omega), tails, of_nat (by omega), if_neg (by omega), tails, of_nat (by omega), if_neg (by omega), tails]; rfl
theorem jhex_lt {c : UInt8} {d : Nat} (h : jhex c = some d) : d < 16 := by
  unfold jhex at h
  repeat' split at h
  all_goals first | (injection h; omega) | cases h
theorem jfour_lt (N : Nat) : ∀ (m n : Nat) (l : List UInt8) (x : Nat) (r : List UInt8), jfour N m n l = .ok x r → x + 1 ≤ (n + 1) * 16 ^ m
  | 0, n, l, x, r, h => by rw [jfour] at h; injection h with h _; rw [← h]; simp
  | m + 1, n, [], x, r, h => by rw [jfour] at h; cases h
  | m + 1, n, c :: l, x, r, h => by
    rw [jfour] at h
    split at h
    · rename_i d hd
      have := jfour_lt N m _ l x r h
      have h2 := jhex_lt hd
      have h3 : (16 * n + d + 1) * 16 ^ m ≤ ((n + 1) * 16) * 16 ^ m := Nat.mul_le_mul_right _ (by omega)
      rw [Nat.pow_succ, Nat.mul_comm (16 ^ m) 16, ← Nat.mul_assoc]
      omega
    · cases h
theorem juni_ok {N f : Nat} {l r : List UInt8} {x : Nat} (h : juni N f l = .ok x r) : x < 55296 ∨ (57343 < x ∧ x ≤ 1114111) := by
  unfold juni at h
  cases h4 : jfour N 4 0 l with
  | bad e p => rw [h4] at h; cases h
  | ok n q =>
    have hn := jfour_lt N 4 0 l n q h4
    rw [h4, jchr] at h
    split at h
    · injection h with h _; subst h; omega
    · split at h
      · cases h
      · cases h5 : jlit N f [92, 117] q with
        | bad e p => rw [h5] at h; cases h
        | ok u q2 =>
          rw [h5, jsec] at h
          cases h6 : jfour N 4 0 q2 with
          | bad e p => rw [h6] at h; cases h
          | ok m q3 =>
            rw [h6, jlow] at h
            split at h
            · cases h
            · injection h with h _; subst h; omega
theorem jesc_valid {N : Nat} {l x r : List UInt8} (h : jesc N l = .ok x r) : Lib.validD x = true := by
  cases l with
  | nil => cases h
  | cons c q =>
    rw [jesc] at h
    iterate 8 (split at h; · injection h with h _; subst h; decide +kernel)
    split at h
    · cases hu : juni N (N - (q.length + 2)) q with
      | bad e p => rw [hu] at h; cases h
      | ok n q2 =>
        rw [hu, jutf] at h
        injection h with h _
        subst h
        exact utfL_valid n (juni_ok hu)
    · cases h
theorem jtext_valid (N : Nat) : ∀ (f : Nat) (l acc x r : List UInt8), Lib.validD acc = true → jtext N f l acc = .ok x r → Lib.validD x = true
  | 0, _, _, _, _, _, h => by rw [jtext] at h; cases h
  | f + 1, [], _, _, _, _, h => by rw [jtext] at h; cases h
  | f + 1, c :: l, acc, x, r, hv, h => by
    rw [jtext] at h
    split at h
    · injection h with h _; subst h; exact hv
    · split at h
      · cases he : jesc N l with
        | bad e p => rw [he] at h; cases h
        | ok y q => rw [he] at h; exact jtext_valid N f q (acc ++ y) x r (validD_two hv (jesc_valid he)) h
      · split at h
        · cases h
        · split at h
          · cases h
          · split at h
            · cases h
            · exact jtext_valid N f _ _ x r (validD_two hv (valid_take (c :: l) (by omega))) h
theorem chkL_snocF : ∀ (nz seen : List ByteArray) (is : List JV) (t : JV) (d : Int), chkL false nz seen is d = 0 → chk t (d + 1) = 0 → chkL false nz seen (is ++ [t]) d = 0
  | nz, seen, [], t, d, _, h => by
    rw [List.nil_append, chkL, if_neg (by simp), if_neg (by simp), if_pos h, chkL]
  | nz, seen, u :: is, t, d, hc, h => by
    rw [chkL, if_neg (by simp), if_neg (by simp)] at hc
    split at hc
    · rename_i h3
      rw [List.cons_append, chkL, if_neg (by simp), if_neg (by simp), if_pos h3]
      exact chkL_snocF _ _ is t d hc h
    · contradiction
theorem hasB_app (a b : List ByteArray) (s : ByteArray) : hasB (a ++ b) s = (hasB a s || hasB b s) := by unfold hasB; rw [List.any_append]
theorem chkL_snocT : ∀ (ns seen : List ByteArray) (is : List JV) (n : ByteArray) (t : JV) (d : Int), ns.length = is.length → chkL true ns seen is d = 0 → Lib.validD n.data.toList = true → hasB (seen ++ ns) n = false → chk t (d + 1) = 0 → chkL true (ns ++ [n]) seen (is ++ [t]) d = 0
  | [], seen, [], n, t, d, _, _, hv, hh, h => by
    rw [List.append_nil] at hh
    rw [List.nil_append, List.nil_append, chkL]
    simp only [List.headD_cons]
    rw [if_neg (by rw [hv]; simp), if_neg (by rw [hh]; simp), if_pos h, chkL]
  | m :: ns, seen, u :: is, n, t, d, hl, hc, hv, hh, h => by
    rw [chkL] at hc
    rw [List.cons_append, List.cons_append, chkL]
    simp only [List.headD_cons, List.tail_cons] at hc ⊢
    split at hc
    · exact absurd hc (by decide)
    rename_i h1
    split at hc
    · exact absurd hc (by decide)
    rename_i h2
    split at hc
    · rename_i h3
      rw [if_neg h1, if_neg h2, if_pos h3]
      exact chkL_snocT ns (seen ++ [m]) is n t d (by simpa using hl) hc hv (by rw [List.append_assoc]; exact hh) h
    · contradiction
  | [], _, _ :: _, _, _, _, hl, _, _, _, _ => by simp at hl
  | _ :: _, _, [], _, _, _, hl, _, _, _, _ => by simp at hl
theorem jname_ok {N : Nat} {ns : List ByteArray} {l r : List UInt8} {n : ByteArray} (h : jname N ns l = .ok n r) : Lib.validD n.data.toList = true ∧ hasB ns n = false := by
  cases l with
  | nil => cases h
  | cons c q =>
    rw [jname] at h
    split at h
    · cases ht : jtext N (q.length + 1) q [] with
      | bad e p => rw [ht] at h; cases h
      | ok x q2 =>
        rw [ht] at h
        have hv := jtext_valid N _ q [] x q2 rfl ht
        simp only at h
        split at h
        · cases h
        · rename_i hh
          split at h
          · cases h
          · split at h
            · injection h with h _
              subst h
              exact ⟨by simpa using hv, by simpa using hh⟩
            · cases h
    · cases h
theorem jitems_chk (N : Nat) (val : List UInt8 → JR JV) (o : Bool) (d : Int) (hval : ∀ l t r, val l = .ok t r → chk t (d + 1) = 0) (hd : d ≤ 63) : ∀ (f : Nat) (l : List UInt8) (ns : List ByteArray) (is : List JV), (o = true → ns.length = is.length) → (o = false → ns = []) → chkL o ns [] is d = 0 → ∀ t r, jitems N val o f l ns is = .ok t r → chk t d = 0
  | 0, _, _, _, _, _, _, _, _, h => by rw [jitems] at h; cases h
  | f + 1, l, ns, is, h1, h2, hc, t, r, h => by
    rw [jitems] at h
    split at h
    · cases h
    · injection h with h _
      subst h
      cases o with
      | true =>
        have hl := h1 rfl
        rw [chk, if_neg (by show ¬ (63 : Int) < d; omega)]
        rw [if_neg (by simp [fitsB, hl])]
        exact hc
      | false =>
        obtain rfl := h2 rfl
        rw [chk, if_neg (by show ¬ (63 : Int) < d; omega)]
        rw [if_neg (by simp [fitsB])]
        exact hc
    · rename_i r2 _
      split at h
      · rename_i ho
        subst ho
        cases hn : jname N ns r2 with
        | bad e p => rw [hn] at h; cases h
        | ok x r3 =>
          rw [hn] at h
          simp only at h
          cases hv : val r3 with
          | bad e p => rw [hv] at h; cases h
          | ok v r4 =>
            rw [hv] at h
            obtain ⟨hx, hh⟩ := jname_ok hn
            exact jitems_chk N val true d hval hd f r4 _ _ (fun _ => by simp [h1 rfl]) (fun e => by cases e) (chkL_snocT ns [] is x v d (h1 rfl) hc hx hh (hval _ _ _ hv)) t r h
      · rename_i ho
        obtain rfl : o = false := by simpa using ho
        cases hv : val r2 with
        | bad e p => rw [hv] at h; cases h
        | ok v r4 =>
          rw [hv] at h
          exact jitems_chk N val false d hval hd f r4 _ _ (fun e => by cases e) h2 (chkL_snocF ns [] is v d hc (hval _ _ _ hv)) t r h
theorem flat_chk (k n : Int) (s : ByteArray) (d : Int) (hd : d ≤ 64) (hk : k ≠ 5 ∧ k ≠ 6) (hf : fitsB k n s 0 0 = true) : chk (.mk k n s [] []) d = 0 := by
  rw [chk, if_neg (by unfold mostD; rw [if_neg (by omega)]; omega)]
  rw [if_neg (by simp only [List.length_nil, hf]; decide), chkL]
theorem jhead_chk (N : Nat) (deep : Bool → List UInt8 → JR JV) (d : Int) (hd : d ≤ 64) (hdeep : ∀ o l t r, deep o l = .ok t r → chk t d = 0) : ∀ l t r, jhead N deep l = .ok t r → chk t d = 0 := by
  intro l t r h
  cases l with
  | nil => cases h
  | cons c q =>
    rw [jhead] at h
    split at h
    · split at h
      · cases h
      · injection h with h _; subst h; exact flat_chk 0 0 _ d hd (by decide) (by decide +kernel)
    split at h
    · split at h
      · cases h
      · injection h with h _; subst h; exact flat_chk 2 0 _ d hd (by decide) (by decide +kernel)
    split at h
    · split at h
      · cases h
      · injection h with h _; subst h; exact flat_chk 1 0 _ d hd (by decide) (by decide +kernel)
    split at h
    · split at h
      · cases h
      · injection h with h _; subst h; exact flat_chk 3 _ _ d hd (by decide) (by simp [fitsB])
    split at h
    · cases ht : jtext N (q.length + 1) q [] with
      | bad e p => rw [ht] at h; cases h
      | ok x q2 =>
        rw [ht] at h
        injection h with h _
        subst h
        have hv := jtext_valid N _ q [] x q2 rfl ht
        exact flat_chk 4 0 _ d hd (by decide) (by simp [fitsB, hv])
    split at h
    · exact hdeep _ _ _ _ h
    split at h
    · exact hdeep _ _ _ _ h
    · cases h
theorem jval_chk (N : Nat) : ∀ (k : Nat) (d : Int), d + (k : Int) = 64 → ∀ l t r, jval N k l = .ok t r → chk t d = 0
  | 0, d, hd, l, t, r, h => by
    rw [jval] at h
    exact jhead_chk N _ d (by omega) (fun o l t r h => by cases h) l t r h
  | k + 1, d, hd, l, t, r, h => by
    rw [jval] at h
    refine jhead_chk N _ d (by omega) (fun o l t r h => ?_) l t r h
    exact jitems_chk N (jval N k) o d (fun l t r h => jval_chk N k (d + 1) (by omega) l t r h) (by omega) _ l [] [] (fun _ => rfl) (fun _ => rfl) (by rw [chkL]) t r h
/-- what was read has no fault -/
theorem jparse_chk {bs r : List UInt8} {t : JV} (h : jparse bs = .ok t r) : chk t 0 = 0 ∧ r = [] := by
  unfold jparse at h
  split at h
  · cases h
  · cases hv : jval bs.length 64 (jbl bs) with
    | bad e p => rw [hv] at h; cases h
    | ok v q =>
      rw [hv] at h
      simp only at h
      split at h
      · injection h with h1 h2
        subst h1
        exact ⟨jval_chk _ 64 0 (by decide) _ _ _ hv, h2.symm⟩
      · cases h
end Go.Proofs.YtbkbokfegjodnaaDoor
namespace Go.Proofs.YtbkbokfegjodnaaDoor
/-- what may stand behind in place of what stood there: nothing; the same byte first; or a byte 0 where nothing stood -/
def Ext (r r' : List UInt8) : Prop := r' = [] ∨ (∃ c q q', r = c :: q ∧ r' = c :: q') ∨ (r = [] ∧ r' = [0])
theorem Ext.nil (r : List UInt8) : Ext r [] := .inl rfl
theorem Ext.app (x : List UInt8) {r r' : List UInt8} (h : Ext r r') : Ext (x ++ r) (x ++ r') := by
  cases x with
  | nil => exact h
  | cons c q => exact .inr (.inl ⟨c, _, _, rfl, rfl⟩)
theorem Ext.pre (x y : List UInt8) : Ext (x ++ y) x := by
  cases x with
  | nil => exact .inl rfl
  | cons c q => exact .inr (.inl ⟨c, _, _, rfl, rfl⟩)
theorem Ext.cons {c : UInt8} {q r' : List UInt8} (h : Ext (c :: q) r') : r' = [] ∨ ∃ q', r' = c :: q' := by
  rcases h with h | ⟨d, q1, q2, h1, h2⟩ | ⟨h, _⟩
  · exact .inl h
  · injection h1 with h1 _; subst h1; exact .inr ⟨q2, h2⟩
  · cases h
theorem jbl_ext : ∀ (l : List UInt8), ∃ x, l = x ++ jbl l ∧ ∀ r', Ext (jbl l) r' → jbl (x ++ r') = r'
  | [] => ⟨[], rfl, fun r' h => by
      rcases h with rfl | ⟨c, q, q', h, _⟩ | ⟨_, rfl⟩
      · rfl
      · cases h
      · rfl⟩
  | c :: l => by
    by_cases hb : isBl c = true
    · obtain ⟨x, h1, h2⟩ := jbl_ext l
      have e : jbl (c :: l) = jbl l := by rw [jbl, if_pos hb]
      rw [e]
      refine ⟨c :: x, by rw [List.cons_append, ← h1], fun r' h => ?_⟩
      rw [List.cons_append, jbl, if_pos hb]
      exact h2 r' h
    · have e : jbl (c :: l) = c :: l := by rw [jbl, if_neg hb]
      rw [e]
      refine ⟨[], rfl, fun r' h => ?_⟩
      rcases h.cons with rfl | ⟨q', rfl⟩
      · rfl
      · rw [List.nil_append, jbl, if_neg hb]
/-- blanks alone -/
theorem jbl_nil_pre (l : List UInt8) : ∃ x, l = x ++ jbl l ∧ jbl x = [] := by
  obtain ⟨x, h1, h2⟩ := jbl_ext l
  exact ⟨x, h1, by have := h2 [] (Ext.nil _); rwa [List.append_nil] at this⟩
/-- a part that reads on where it went well, whatever stands behind in its place -/
def OkE {α : Type} (F : Nat → List UInt8 → JR α) (N : Nat) (l : List UInt8) : Prop := ∀ a r, F N l = .ok a r → ∃ x, l = x ++ r ∧ ∀ N' r', Ext r r' → F N' (x ++ r') = .ok a r'
/-- a part that tells a fault: the bytes ahead of the place show none -/
def BadE {α : Type} (F : Nat → List UInt8 → JR α) (N : Nat) (l : List UInt8) : Prop := ∀ e pl, F N l = .bad e pl → ∃ x y, l = x ++ y ∧ pl + y.length = N ∧ (e = 3 → y = []) ∧ (F pl x = .bad 3 pl ∨ ∃ a, F pl x = .ok a [])
theorem bad_inj {α : Type} {e p e' p' : Nat} (h : (JR.bad e p : JR α) = .bad e' p') : e = e' ∧ p = p' := by injection h with h1 h2; exact ⟨h1, h2⟩
theorem ok_inj {α : Type} {a a' : α} {r r' : List UInt8} (h : JR.ok a r = .ok a' r') : a = a' ∧ r = r' := by injection h with h1 h2; exact ⟨h1, h2⟩
/-! words -/
theorem jword_ok (N : Nat) : ∀ (w l r : List UInt8) (u : Unit), jword N w l = .ok u r → l = w ++ r ∧ ∀ N' r', jword N' w (w ++ r') = .ok u r'
  | [], l, r, u, h => by rw [jword] at h; obtain ⟨_, rfl⟩ := ok_inj h; exact ⟨rfl, fun N' r' => by rw [List.nil_append, jword]⟩
  | c :: w, [], r, u, h => by rw [jword] at h; cases h
  | c :: w, d :: l, r, u, h => by
    rw [jword] at h
    split at h
    · rename_i hd
      subst hd
      obtain ⟨h1, h2⟩ := jword_ok N w l r u h
      exact ⟨by rw [h1, List.cons_append], fun N' r' => by rw [List.cons_append, jword, if_pos rfl]; exact h2 N' r'⟩
    · cases h
theorem jword_bad (N : Nat) : ∀ (w l : List UInt8), l.length ≤ N → ∀ e pl, jword N w l = .bad e pl → ∃ x y, l = x ++ y ∧ pl + y.length = N ∧ (e = 3 → y = []) ∧ jword pl w x = .bad 3 pl
  | [], l, _, e, pl, h => by rw [jword] at h; cases h
  | c :: w, [], _, e, pl, h => by rw [jword] at h; obtain ⟨rfl, rfl⟩ := bad_inj h; exact ⟨[], [], rfl, rfl, fun _ => rfl, by rw [jword]⟩
  | c :: w, d :: l, hl, e, pl, h => by
    rw [jword] at h
    split at h
    · rename_i hd
      subst hd
      obtain ⟨x, y, h1, h2, h3, h4⟩ := jword_bad N w l (by simp at hl; omega) e pl h
      exact ⟨d :: x, y, by rw [h1]; rfl, h2, h3, by rw [jword, if_pos rfl]; exact h4⟩
    · obtain ⟨rfl, rfl⟩ := bad_inj h
      exact ⟨[], d :: l, rfl, by simp only [List.length_cons] at hl ⊢; omega, fun e => by omega, by rw [jword]⟩
/-! escapes -/
theorem jfour_ok (N : Nat) : ∀ (m n : Nat) (l r : List UInt8) (a : Nat), jfour N m n l = .ok a r → ∃ x, l = x ++ r ∧ ∀ N' r', jfour N' m n (x ++ r') = .ok a r'
  | 0, n, l, r, a, h => by rw [jfour] at h; obtain ⟨rfl, rfl⟩ := ok_inj h; exact ⟨[], rfl, fun N' r' => by rw [List.nil_append, jfour]⟩
  | m + 1, n, [], r, a, h => by rw [jfour] at h; cases h
  | m + 1, n, c :: l, r, a, h => by
    rw [jfour] at h
    split at h
    · rename_i d hd
      obtain ⟨x, h1, h2⟩ := jfour_ok N m _ l r a h
      exact ⟨c :: x, by rw [h1]; rfl, fun N' r' => by rw [List.cons_append, jfour, hd]; exact h2 N' r'⟩
    · cases h
theorem jfour_bad (N : Nat) : ∀ (m n : Nat) (l : List UInt8), l.length ≤ N → ∀ e pl, jfour N m n l = .bad e pl → ∃ x y, l = x ++ y ∧ pl + y.length = N ∧ (e = 3 → y = []) ∧ jfour pl m n x = .bad 3 pl
  | 0, n, l, _, e, pl, h => by rw [jfour] at h; cases h
  | m + 1, n, [], _, e, pl, h => by rw [jfour] at h; obtain ⟨rfl, rfl⟩ := bad_inj h; exact ⟨[], [], rfl, rfl, fun _ => rfl, by rw [jfour]⟩
  | m + 1, n, c :: l, hl, e, pl, h => by
    rw [jfour] at h
    split at h
    · rename_i d hd
      obtain ⟨x, y, h1, h2, h3, h4⟩ := jfour_bad N m _ l (by simp at hl; omega) e pl h
      exact ⟨c :: x, y, by rw [h1]; rfl, h2, h3, by rw [jfour, hd]; exact h4⟩
    · obtain ⟨rfl, rfl⟩ := bad_inj h
      exact ⟨[], c :: l, rfl, by simp only [List.length_cons] at hl ⊢; omega, fun e => by omega, by rw [jfour]⟩
theorem jlit_ok (N f : Nat) : ∀ (w l r : List UInt8) (u : Unit), jlit N f w l = .ok u r → l = w ++ r ∧ ∀ N' f' r', jlit N' f' w (w ++ r') = .ok u r'
  | [], l, r, u, h => by rw [jlit] at h; obtain ⟨_, rfl⟩ := ok_inj h; exact ⟨rfl, fun N' f' r' => by rw [List.nil_append, jlit]⟩
  | c :: w, [], r, u, h => by rw [jlit] at h; cases h
  | c :: w, d :: l, r, u, h => by
    rw [jlit] at h
    split at h
    · rename_i hd
      subst hd
      obtain ⟨h1, h2⟩ := jlit_ok N f w l r u h
      exact ⟨by rw [h1, List.cons_append], fun N' f' r' => by rw [List.cons_append, jlit, if_pos rfl]; exact h2 N' f' r'⟩
    · cases h
theorem jlit_bad (N f : Nat) : ∀ (w l : List UInt8) e pl, jlit N f w l = .bad e pl → (e = 13 ∧ pl = f) ∨ (e = 3 ∧ pl = N ∧ jlit N f w l = .bad 3 N)
  | [], l, e, pl, h => by rw [jlit] at h; cases h
  | c :: w, [], e, pl, h => by rw [jlit] at h; obtain ⟨rfl, rfl⟩ := bad_inj h; exact .inr ⟨rfl, rfl, by rw [jlit]⟩
  | c :: w, d :: l, e, pl, h => by
    rw [jlit] at h ⊢
    split at h
    · rename_i hd
      rw [if_pos hd]
      exact jlit_bad N f w l e pl h
    · obtain ⟨rfl, rfl⟩ := bad_inj h; exact .inl ⟨rfl, rfl⟩
theorem juni_ok2 (N f : Nat) (l r : List UInt8) (a : Nat) (h : juni N f l = .ok a r) : ∃ x, l = x ++ r ∧ ∀ N' f' r', juni N' f' (x ++ r') = .ok a r' := by
  unfold juni at h ⊢
  cases h4 : jfour N 4 0 l with
  | bad e p => rw [h4] at h; cases h
  | ok n q =>
    obtain ⟨x, e1, e2⟩ := jfour_ok N 4 0 l q n h4
    rw [h4, jchr] at h
    split at h
    · rename_i hn
      obtain ⟨rfl, rfl⟩ := ok_inj h
      exact ⟨x, e1, fun N' f' r' => by rw [e2, jchr, if_pos hn]⟩
    · rename_i hn
      split at h
      · cases h
      · rename_i hn2
        cases h5 : jlit N f [92, 117] q with
        | bad e p => rw [h5] at h; cases h
        | ok u q2 =>
          obtain ⟨e3, e4⟩ := jlit_ok N f _ q q2 u h5
          rw [h5, jsec] at h
          cases h6 : jfour N 4 0 q2 with
          | bad e p => rw [h6] at h; cases h
          | ok m q3 =>
            obtain ⟨y, e5, e6⟩ := jfour_ok N 4 0 q2 q3 m h6
            rw [h6, jlow] at h
            split at h
            · cases h
            · rename_i hm
              obtain ⟨rfl, rfl⟩ := ok_inj h
              refine ⟨x ++ ([92, 117] ++ y), by rw [e1, e3, e5]; simp, fun N' f' r' => ?_⟩
              rw [List.append_assoc, e2, jchr, if_neg hn, if_neg hn2, List.append_assoc, e4, jsec, e6, jlow, if_neg hm]
theorem juni_bad (N f : Nat) (l : List UInt8) (hl : l.length ≤ N) (e pl : Nat) (h : juni N f l = .bad e pl) : (e ≠ 3 ∧ pl = f) ∨ ∃ x y, l = x ++ y ∧ pl + y.length = N ∧ (e = 3 → y = []) ∧ ∀ f', juni pl f' x = .bad 3 pl := by
  unfold juni at h ⊢
  cases h4 : jfour N 4 0 l with
  | bad e1 p1 =>
    rw [h4, jchr] at h
    obtain ⟨rfl, rfl⟩ := bad_inj h
    obtain ⟨x, y, h1, h2, h3, h5⟩ := jfour_bad N 4 0 l hl _ _ h4
    exact .inr ⟨x, y, h1, h2, h3, fun f' => by rw [h5, jchr]⟩
  | ok n q =>
    obtain ⟨x, e1, e2⟩ := jfour_ok N 4 0 l q n h4
    have hq : q.length ≤ N := by have := congrArg List.length e1; rw [List.length_append] at this; omega
    rw [h4, jchr] at h
    split at h
    · cases h
    · rename_i hn
      split at h
      · obtain ⟨rfl, rfl⟩ := bad_inj h; exact .inl ⟨by decide, rfl⟩
      · rename_i hn2
        cases h5 : jlit N f [92, 117] q with
        | bad e3 p3 =>
          rw [h5, jsec] at h
          obtain ⟨rfl, rfl⟩ := bad_inj h
          rcases jlit_bad N f _ q _ _ h5 with ⟨rfl, rfl⟩ | ⟨rfl, rfl, h6⟩
          · exact .inl ⟨by decide, rfl⟩
          · have key : ∀ f', jlit p3 f' [92, 117] q = .bad 3 p3 := by
              intro f'
              match q, h6 with
              | [], _ => rfl
              | [c], h6 =>
                rw [jlit] at h6 ⊢
                split at h6
                · rename_i hc; rw [if_pos hc]; rfl
                · have := (bad_inj h6).1; omega
              | c :: d :: q, h6 =>
                rw [jlit] at h6
                split at h6
                · rw [jlit] at h6
                  split at h6
                  · rw [jlit] at h6; cases h6
                  · have := (bad_inj h6).1; omega
                · have := (bad_inj h6).1; omega
            exact .inr ⟨l, [], by simp, by simp, fun _ => rfl, fun f' => by rw [e1, e2, jchr, if_neg hn, if_neg hn2, key, jsec]⟩
        | ok u q2 =>
          obtain ⟨e3, e4⟩ := jlit_ok N f _ q q2 u h5
          rw [h5, jsec] at h
          cases h6 : jfour N 4 0 q2 with
          | bad e7 p7 =>
            rw [h6, jlow] at h
            obtain ⟨rfl, rfl⟩ := bad_inj h
            have hq2 : q2.length ≤ N := by have := congrArg List.length e3; rw [List.length_append] at this; omega
            obtain ⟨y, z, h1, h2, h3, h8⟩ := jfour_bad N 4 0 q2 hq2 _ _ h6
            refine .inr ⟨x ++ ([92, 117] ++ y), z, by rw [e1, e3, h1]; simp, h2, h3, fun f' => ?_⟩
            rw [e2, jchr, if_neg hn, if_neg hn2, e4, jsec, h8, jlow]
          | ok m q3 =>
            rw [h6, jlow] at h
            split at h
            · obtain ⟨rfl, rfl⟩ := bad_inj h; exact .inl ⟨by decide, rfl⟩
            · cases h
theorem jesc_ok (N : Nat) (l r a : List UInt8) (h : jesc N l = .ok a r) : ∃ x, x ≠ [] ∧ l = x ++ r ∧ ∀ N' r', jesc N' (x ++ r') = .ok a r' := by
  cases l with
  | nil => cases h
  | cons c q =>
    rw [jesc] at h
    by_cases h1 : c = 34
    · rw [if_pos h1] at h; obtain ⟨rfl, rfl⟩ := ok_inj h; exact ⟨[c], by simp, rfl, fun N' r' => by show jesc N' (c :: r') = _; rw [jesc, if_pos h1]⟩
    rw [if_neg h1] at h
    by_cases h2 : c = 92
    · rw [if_pos h2] at h; obtain ⟨rfl, rfl⟩ := ok_inj h; exact ⟨[c], by simp, rfl, fun N' r' => by show jesc N' (c :: r') = _; rw [jesc, if_neg h1, if_pos h2]⟩
    rw [if_neg h2] at h
    by_cases h3 : c = 47
    · rw [if_pos h3] at h; obtain ⟨rfl, rfl⟩ := ok_inj h; exact ⟨[c], by simp, rfl, fun N' r' => by show jesc N' (c :: r') = _; rw [jesc, if_neg h1, if_neg h2, if_pos h3]⟩
    rw [if_neg h3] at h
    by_cases h4 : c = 98
    · rw [if_pos h4] at h; obtain ⟨rfl, rfl⟩ := ok_inj h; exact ⟨[c], by simp, rfl, fun N' r' => by show jesc N' (c :: r') = _; rw [jesc, if_neg h1, if_neg h2, if_neg h3, if_pos h4]⟩
    rw [if_neg h4] at h
    by_cases h5 : c = 102
    · rw [if_pos h5] at h; obtain ⟨rfl, rfl⟩ := ok_inj h; exact ⟨[c], by simp, rfl, fun N' r' => by show jesc N' (c :: r') = _; rw [jesc, if_neg h1, if_neg h2, if_neg h3, if_neg h4, if_pos h5]⟩
    rw [if_neg h5] at h
    by_cases h6 : c = 110
    · rw [if_pos h6] at h; obtain ⟨rfl, rfl⟩ := ok_inj h; exact ⟨[c], by simp, rfl, fun N' r' => by show jesc N' (c :: r') = _; rw [jesc, if_neg h1, if_neg h2, if_neg h3, if_neg h4, if_neg h5, if_pos h6]⟩
    rw [if_neg h6] at h
    by_cases h7 : c = 114
    · rw [if_pos h7] at h; obtain ⟨rfl, rfl⟩ := ok_inj h; exact ⟨[c], by simp, rfl, fun N' r' => by show jesc N' (c :: r') = _; rw [jesc, if_neg h1, if_neg h2, if_neg h3, if_neg h4, if_neg h5, if_neg h6, if_pos h7]⟩
    rw [if_neg h7] at h
    by_cases h8 : c = 116
    · rw [if_pos h8] at h; obtain ⟨rfl, rfl⟩ := ok_inj h; exact ⟨[c], by simp, rfl, fun N' r' => by show jesc N' (c :: r') = _; rw [jesc, if_neg h1, if_neg h2, if_neg h3, if_neg h4, if_neg h5, if_neg h6, if_neg h7, if_pos h8]⟩
    rw [if_neg h8] at h
    by_cases h9 : c = 117
    · rw [if_pos h9] at h
      cases hu : juni N (N - (q.length + 2)) q with
      | bad e p => rw [hu] at h; cases h
      | ok n q2 =>
        rw [hu, jutf] at h
        obtain ⟨rfl, rfl⟩ := ok_inj h
        obtain ⟨x, e1, e2⟩ := juni_ok2 _ _ q q2 n hu
        refine ⟨c :: x, by simp, by rw [e1]; rfl, fun N' r' => ?_⟩
        rw [List.cons_append, jesc, if_neg h1, if_neg h2, if_neg h3, if_neg h4, if_neg h5, if_neg h6, if_neg h7, if_neg h8, if_pos h9, e2, jutf]
    · rw [if_neg h9] at h; cases h
theorem jesc_bad (N : Nat) (l : List UInt8) (hl : l.length + 1 ≤ N) (e pl : Nat) (h : jesc N l = .bad e pl) : (e ≠ 3 ∧ pl + (l.length + 1) = N) ∨ ∃ x y, l = x ++ y ∧ pl + y.length = N ∧ (e = 3 → y = []) ∧ jesc pl x = .bad 3 pl := by
  cases l with
  | nil => obtain ⟨rfl, rfl⟩ := bad_inj h; exact .inr ⟨[], [], rfl, rfl, fun _ => rfl, rfl⟩
  | cons c q =>
    rw [jesc] at h
    by_cases h1 : c = 34
    · rw [if_pos h1] at h; cases h
    rw [if_neg h1] at h
    by_cases h2 : c = 92
    · rw [if_pos h2] at h; cases h
    rw [if_neg h2] at h
    by_cases h3 : c = 47
    · rw [if_pos h3] at h; cases h
    rw [if_neg h3] at h
    by_cases h4 : c = 98
    · rw [if_pos h4] at h; cases h
    rw [if_neg h4] at h
    by_cases h5 : c = 102
    · rw [if_pos h5] at h; cases h
    rw [if_neg h5] at h
    by_cases h6 : c = 110
    · rw [if_pos h6] at h; cases h
    rw [if_neg h6] at h
    by_cases h7 : c = 114
    · rw [if_pos h7] at h; cases h
    rw [if_neg h7] at h
    by_cases h8 : c = 116
    · rw [if_pos h8] at h; cases h
    rw [if_neg h8] at h
    simp only [List.length_cons] at hl ⊢
    by_cases h9 : c = 117
    · rw [if_pos h9] at h
      cases hu : juni N (N - (q.length + 2)) q with
      | ok n q2 => rw [hu] at h; cases h
      | bad e1 p1 =>
        rw [hu, jutf] at h
        obtain ⟨rfl, rfl⟩ := bad_inj h
        rcases juni_bad N _ q (by omega) _ _ hu with ⟨h10, rfl⟩ | ⟨x, y, e1, e2, e3, e4⟩
        · exact .inl ⟨h10, by omega⟩
        · refine .inr ⟨c :: x, y, by rw [e1]; rfl, e2, e3, ?_⟩
          rw [jesc, if_neg h1, if_neg h2, if_neg h3, if_neg h4, if_neg h5, if_neg h6, if_neg h7, if_neg h8, if_pos h9, e4, jutf]
    · rw [if_neg h9] at h
      obtain ⟨rfl, rfl⟩ := bad_inj h
      exact .inr ⟨[], c :: q, rfl, by simp only [List.length_cons]; omega, fun e => by omega, rfl⟩
/-! texts -/
theorem chr_take_ne (c : UInt8) (l : List UInt8) (h : 0 < chrD (c :: l)) : ∃ x, (c :: l).take (chrD (c :: l)).toNat = c :: x := by
  obtain ⟨m, hm⟩ : ∃ m, (chrD (c :: l)).toNat = m + 1 := ⟨(chrD (c :: l)).toNat - 1, by omega⟩
  rw [hm, List.take_succ_cons]
  exact ⟨_, rfl⟩
theorem jtext_ok (N : Nat) : ∀ (f : Nat) (l acc a r : List UInt8), jtext N f l acc = .ok a r → ∃ x, x ≠ [] ∧ l = x ++ r ∧ ∀ N' f' r', (x ++ r').length < f' → jtext N' f' (x ++ r') acc = .ok a r'
  | 0, l, acc, a, r, h => by rw [jtext] at h; cases h
  | f + 1, [], acc, a, r, h => by rw [jtext] at h; cases h
  | f + 1, c :: l, acc, a, r, h => by
    rw [jtext] at h
    by_cases h1 : c = 34
    · rw [if_pos h1] at h
      obtain ⟨rfl, rfl⟩ := ok_inj h
      refine ⟨[c], by simp, rfl, fun N' f' r' hf => ?_⟩
      obtain ⟨g, rfl⟩ : ∃ g, f' = g + 1 := ⟨f' - 1, by omega⟩
      show jtext N' (g + 1) (c :: r') acc = _
      rw [jtext, if_pos h1]
    rw [if_neg h1] at h
    by_cases h2 : c = 92
    · rw [if_pos h2] at h
      cases he : jesc N l with
      | bad e p => rw [he] at h; cases h
      | ok y q =>
        rw [he] at h
        obtain ⟨x, hx, e1, e2⟩ := jesc_ok N l q y he
        obtain ⟨z, hz, e3, e4⟩ := jtext_ok N f q (acc ++ y) a r h
        refine ⟨c :: (x ++ z), by simp, by rw [e1, e3]; simp, fun N' f' r' hf => ?_⟩
        obtain ⟨g, rfl⟩ : ∃ g, f' = g + 1 := ⟨f' - 1, by omega⟩
        rw [List.cons_append, jtext, if_neg h1, if_pos h2, List.append_assoc, e2]
        refine e4 N' g r' ?_
        have : 0 < x.length := List.length_pos_iff.2 hx
        simp only [List.cons_append, List.length_cons, List.length_append] at hf ⊢
        omega
    rw [if_neg h2] at h
    by_cases h3 : c.toNat < 32
    · rw [if_pos h3] at h; cases h
    rw [if_neg h3] at h
    by_cases h4 : chrD (c :: l) = 0
    · rw [if_pos h4] at h; cases h
    rw [if_neg h4] at h
    by_cases h5 : chrD (c :: l) < 0
    · rw [if_pos h5] at h; cases h
    rw [if_neg h5] at h
    have hpos : 0 < chrD (c :: l) := by omega
    obtain ⟨z, hz, e3, e4⟩ := jtext_ok N f _ _ a r h
    obtain ⟨x, hx⟩ := chr_take_ne c l hpos
    refine ⟨(c :: l).take (chrD (c :: l)).toNat ++ z, by rw [hx]; simp, by rw [List.append_assoc, ← e3, List.take_append_drop], fun N' f' r' hf => ?_⟩
    obtain ⟨g, rfl⟩ : ∃ g, f' = g + 1 := ⟨f' - 1, by omega⟩
    have happ := chr_app (c :: l) (z ++ r') hpos
    have hxl : (c :: x).length = (chrD (c :: l)).toNat := by
      have hle := chr_le (c :: l)
      rw [← hx, List.length_take]; omega
    rw [hx] at happ e4 hf ⊢
    rw [List.append_assoc] at hf ⊢
    rw [List.cons_append] at happ ⊢
    rw [jtext, if_neg h1, if_neg h2, if_neg h3, happ, if_neg h4, if_neg h5, ← List.cons_append, ← hxl, List.drop_left, List.take_left]
    refine e4 N' g r' ?_
    simp only [List.cons_append, List.length_cons, List.length_append] at hf ⊢
    omega
theorem jtext_bad (N : Nat) : ∀ (f : Nat) (l acc : List UInt8), l.length < f → l.length ≤ N → ∀ e pl, jtext N f l acc = .bad e pl → ∃ x y, l = x ++ y ∧ pl + y.length = N ∧ (e = 3 → y = []) ∧ ∀ f', x.length < f' → jtext pl f' x acc = .bad 3 pl
  | 0, l, acc, hf, _, e, pl, h => by omega
  | f + 1, [], acc, _, _, e, pl, h => by
    rw [jtext] at h
    obtain ⟨rfl, rfl⟩ := bad_inj h
    refine ⟨[], [], rfl, rfl, fun _ => rfl, fun f' hf => ?_⟩
    obtain ⟨g, rfl⟩ : ∃ g, f' = g + 1 := ⟨f' - 1, by simp at hf; omega⟩
    rw [jtext]
  | f + 1, c :: l, acc, hf, hN, e, pl, h => by
    have here : ∀ e0 : Nat, e0 ≠ 3 → (JR.bad e0 (N - (l.length + 1)) : JR (List UInt8)) = .bad e pl → ∃ x y, c :: l = x ++ y ∧ pl + y.length = N ∧ (e = 3 → y = []) ∧ ∀ f', x.length < f' → jtext pl f' x acc = .bad 3 pl := by
      intro e0 h0 hh
      obtain ⟨rfl, rfl⟩ := bad_inj hh
      refine ⟨[], c :: l, rfl, by simp only [List.length_cons] at hN ⊢; omega, fun e => absurd e h0, fun f' hf' => ?_⟩
      obtain ⟨g, rfl⟩ : ∃ g, f' = g + 1 := ⟨f' - 1, by simp at hf'; omega⟩
      rw [jtext]
    rw [jtext] at h
    by_cases h1 : c = 34
    · rw [if_pos h1] at h; cases h
    rw [if_neg h1] at h
    simp only [List.length_cons] at hf hN
    by_cases h2 : c = 92
    · rw [if_pos h2] at h
      cases he : jesc N l with
      | bad e1 p1 =>
        rw [he] at h
        obtain ⟨rfl, rfl⟩ := bad_inj h
        rcases jesc_bad N l hN _ _ he with ⟨h10, h11⟩ | ⟨x, y, e1, e2, e3, e4⟩
        · refine ⟨[], c :: l, rfl, by simp only [List.length_cons]; omega, fun e => absurd e h10, fun f' hf' => ?_⟩
          obtain ⟨g, rfl⟩ : ∃ g, f' = g + 1 := ⟨f' - 1, by simp at hf'; omega⟩
          rw [jtext]
        · refine ⟨c :: x, y, by rw [e1]; rfl, e2, e3, fun f' hf' => ?_⟩
          obtain ⟨g, rfl⟩ : ∃ g, f' = g + 1 := ⟨f' - 1, by simp at hf'; omega⟩
          rw [jtext, if_neg h1, if_pos h2, e4]
      | ok y q =>
        rw [he] at h
        obtain ⟨x, hx, e1, e2⟩ := jesc_ok N l q y he
        have hxp : 0 < x.length := List.length_pos_iff.2 hx
        have hlen := congrArg List.length e1
        rw [List.length_append] at hlen
        obtain ⟨z, u, e3, e4, e5, e6⟩ := jtext_bad N f q (acc ++ y) (by omega) (by omega) e pl h
        refine ⟨c :: (x ++ z), u, by rw [e1, e3]; simp, e4, e5, fun f' hf' => ?_⟩
        obtain ⟨g, rfl⟩ : ∃ g, f' = g + 1 := ⟨f' - 1, by omega⟩
        rw [jtext, if_neg h1, if_pos h2, e2]
        refine e6 g ?_
        simp only [List.length_cons, List.length_append] at hf'
        omega
    rw [if_neg h2] at h
    by_cases h3 : c.toNat < 32
    · rw [if_pos h3] at h; exact here 11 (by decide) h
    rw [if_neg h3] at h
    by_cases h4 : chrD (c :: l) = 0
    · rw [if_pos h4] at h; exact here 13 (by decide) h
    rw [if_neg h4] at h
    by_cases h5 : chrD (c :: l) < 0
    · rw [if_pos h5] at h
      obtain ⟨rfl, rfl⟩ := bad_inj h
      refine ⟨c :: l, [], by simp, by simp, fun _ => rfl, fun f' hf' => ?_⟩
      obtain ⟨g, rfl⟩ : ∃ g, f' = g + 1 := ⟨f' - 1, by omega⟩
      rw [jtext, if_neg h1, if_neg h2, if_neg h3, if_neg h4, if_pos h5]
    rw [if_neg h5] at h
    have hpos : 0 < chrD (c :: l) := by omega
    obtain ⟨z, u, e3, e4, e5, e6⟩ := jtext_bad N f _ _ (by rw [List.length_drop]; simp only [List.length_cons]; omega) (by rw [List.length_drop]; simp only [List.length_cons]; omega) e pl h
    obtain ⟨x, hx⟩ := chr_take_ne c l hpos
    refine ⟨(c :: l).take (chrD (c :: l)).toNat ++ z, u, by rw [List.append_assoc, ← e3, List.take_append_drop], e4, e5, fun f' hf' => ?_⟩
    obtain ⟨g, rfl⟩ : ∃ g, f' = g + 1 := ⟨f' - 1, by omega⟩
    have happ := chr_app (c :: l) z hpos
    have hxl : (c :: x).length = (chrD (c :: l)).toNat := by
      have hle := chr_le (c :: l)
      rw [← hx, List.length_take]; omega
    rw [hx] at happ e6 hf' ⊢
    rw [List.cons_append] at happ ⊢
    rw [jtext, if_neg h1, if_neg h2, if_neg h3, happ, if_neg h4, if_neg h5, ← List.cons_append, ← hxl, List.drop_left, List.take_left]
    refine e6 g ?_
    simp only [List.length_cons, List.length_append] at hf'
    omega
end Go.Proofs.YtbkbokfegjodnaaDoor
namespace Go.Proofs.YtbkbokfegjodnaaDoor
/-! numbers -/
theorem jds_len2 (l : List UInt8) : (jds l).1.length + (jds l).2.length = l.length := by
  have h := congrArg List.length (jds_app l)
  rw [List.length_append] at h
  exact h
theorem jdg_ext (l : List UInt8) : ∀ r', Ext (jdg l).2 r' → jdg ((jdg l).1 ++ r') = ((jdg l).1, r') := by
  induction l with
  | nil =>
    intro r' h
    rcases h with rfl | ⟨c, q, q', h, _⟩ | ⟨_, rfl⟩
    · rfl
    · cases h
    · rfl
  | cons c l ih =>
    intro r' h
    by_cases hd : isDg c = true
    · have e : jdg (c :: l) = (c :: (jdg l).1, (jdg l).2) := by rw [jdg, if_pos hd]
      rw [e] at h ⊢
      simp only at h ⊢
      rw [List.cons_append, jdg, if_pos hd, ih r' h]
    · have e : jdg (c :: l) = ([], c :: l) := by rw [jdg, if_neg hd]
      rw [e] at h ⊢
      simp only at h ⊢
      rcases h.cons with rfl | ⟨q', rfl⟩
      · rfl
      · rw [List.nil_append, jdg, if_neg hd]
theorem jds_ext (c : UInt8) (l : List UInt8) : ∀ r', Ext (jds (c :: l)).2 r' → jds ((jds (c :: l)).1 ++ r') = ((jds (c :: l)).1, r') := by
  intro r' h
  by_cases hc : c = 48
  · have e : jds (c :: l) = ([48], l) := by rw [jds, if_pos hc]
    rw [e]
    show jds (48 :: r') = _
    rw [jds, if_pos rfl]
  · have e : jds (c :: l) = (c :: (jdg l).1, (jdg l).2) := by rw [jds, if_neg hc]
    rw [e] at h ⊢
    simp only at h ⊢
    rw [List.cons_append, jds, if_neg hc, jdg_ext l r' h]
theorem jnumEnd_ok {N f : Nat} {m : Bool} {v : Nat} {l r : List UInt8} {a : Int} (h : jnumEnd N f m v l = .ok a r) : l = r ∧ ∀ N' f' r', Ext r r' → jnumEnd N' f' m v r' = .ok a r' := by
  unfold jnumEnd at h ⊢
  split at h
  · cases h
  · rename_i hv
    cases l with
    | nil =>
      obtain ⟨rfl, rfl⟩ := ok_inj h
      refine ⟨rfl, fun N' f' r' he => ?_⟩
      rw [if_neg hv]
      rcases he with rfl | ⟨c, q, q', h1, _⟩ | ⟨_, rfl⟩
      · rfl
      · cases h1
      · rfl
    | cons c q =>
      simp only at h
      split at h
      · cases h
      · rename_i hc
        obtain ⟨rfl, rfl⟩ := ok_inj h
        refine ⟨rfl, fun N' f' r' he => ?_⟩
        rw [if_neg hv]
        rcases he.cons with rfl | ⟨q', rfl⟩
        · rfl
        · simp only
          rw [if_neg hc]
theorem jnumEnd_bad {N f : Nat} {m : Bool} {v : Nat} {l : List UInt8} {e pl : Nat} (hl : l.length ≤ N) (h : jnumEnd N f m v l = .bad e pl) : e ≠ 3 ∧ (pl = f ∨ (pl + l.length = N ∧ ∀ N' f', ∃ a, jnumEnd N' f' m v [] = .ok a [])) := by
  unfold jnumEnd at h ⊢
  split at h
  · obtain ⟨rfl, rfl⟩ := bad_inj h
    exact ⟨by decide, .inl rfl⟩
  · rename_i hv
    cases l with
    | nil => cases h
    | cons c q =>
      simp only at h
      split at h
      · obtain ⟨rfl, rfl⟩ := bad_inj h
        refine ⟨by decide, .inr ⟨by simp only [List.length_cons] at hl ⊢; omega, fun N' f' => ?_⟩⟩
        rw [if_neg hv]
        exact ⟨_, rfl⟩
      · cases h
theorem jnumA_ok {N f : Nat} {m : Bool} {l r : List UInt8} {a : Int} (h : jnumA N f m l = .ok a r) : ∃ x, x ≠ [] ∧ l = x ++ r ∧ ∀ N' f' r', Ext r r' → jnumA N' f' m (x ++ r') = .ok a r' := by
  cases l with
  | nil => cases h
  | cons c q =>
    rw [jnumA] at h
    split at h
    · rename_i hd
      obtain ⟨h1, h2⟩ := jnumEnd_ok h
      have happ := jds_app (c :: q)
      have hne := (jds_dg c q hd).1
      have hdg := (jds_dg c q hd).2
      have hext := jds_ext c q
      rw [h1] at happ hext
      refine ⟨(jds (c :: q)).1, hne, happ.symm, fun N' f' r' he => ?_⟩
      have h3 := hext r' he
      obtain ⟨d, z, hz⟩ := List.exists_cons_of_ne_nil hne
      have hd2 : isDg d = true := hdg d (by rw [hz]; exact List.mem_cons_self ..)
      rw [hz] at h3 h2 ⊢
      rw [List.cons_append] at h3 ⊢
      rw [jnumA, if_pos hd2, h3]
      exact h2 N' f' r' he
    · cases h
theorem jnumA_bad {N f : Nat} {m : Bool} {l : List UInt8} {e pl : Nat} (hl : l.length ≤ N) (h : jnumA N f m l = .bad e pl) : (e ≠ 3 ∧ pl = f) ∨ ∃ x y, l = x ++ y ∧ pl + y.length = N ∧ (e = 3 → y = []) ∧ ∀ f', jnumA pl f' m x = .bad 3 pl ∨ ∃ a, jnumA pl f' m x = .ok a [] := by
  cases l with
  | nil => obtain ⟨rfl, rfl⟩ := bad_inj h; exact .inr ⟨[], [], rfl, rfl, fun _ => rfl, fun f' => .inl rfl⟩
  | cons c q =>
    rw [jnumA] at h
    split at h
    · rename_i hd
      have happ := jds_app (c :: q)
      have hlen := jds_len2 (c :: q)
      have hne := (jds_dg c q hd).1
      have hdg := (jds_dg c q hd).2
      have h3 := jds_ext c q [] (Ext.nil _)
      obtain ⟨h1, rfl | ⟨h4, h5⟩⟩ := jnumEnd_bad (by simp only [List.length_cons] at hl hlen; omega) h
      · exact .inl ⟨h1, rfl⟩
      · refine .inr ⟨(jds (c :: q)).1, (jds (c :: q)).2, happ.symm, h4, fun e => absurd e h1, fun f' => .inr ?_⟩
        obtain ⟨d, z, hz⟩ := List.exists_cons_of_ne_nil hne
        have hd2 : isDg d = true := hdg d (by rw [hz]; exact List.mem_cons_self ..)
        obtain ⟨a, ha⟩ := h5 pl f'
        rw [List.append_nil] at h3
        rw [hz] at h3 ha ⊢
        refine ⟨a, ?_⟩
        rw [jnumA, if_pos hd2, h3]
        exact ha
    · obtain ⟨rfl, rfl⟩ := bad_inj h
      exact .inr ⟨[], c :: q, rfl, by simp only [List.length_cons] at hl ⊢; omega, fun e => by omega, fun f' => .inl rfl⟩
theorem jnum_ok (N : Nat) (l : List UInt8) : OkE jnum N l := by
  intro a r h
  cases l with
  | nil => cases h
  | cons c q =>
    rw [jnum] at h
    by_cases hc : c = 45
    · rw [if_pos hc] at h
      obtain ⟨x, _, h1, h2⟩ := jnumA_ok h
      exact ⟨c :: x, by rw [h1]; rfl, fun N' r' he => by rw [List.cons_append, jnum, if_pos hc]; exact h2 _ _ _ he⟩
    · rw [if_neg hc] at h
      obtain ⟨x, hx, h1, h2⟩ := jnumA_ok h
      refine ⟨x, h1, fun N' r' he => ?_⟩
      have h3 := fun f' => h2 N' f' r' he
      cases x with
      | nil => exact absurd rfl hx
      | cons d z =>
        have : d = c := by rw [List.cons_append] at h1; injection h1 with h1 _; exact h1.symm
        subst this
        rw [List.cons_append] at h3 ⊢
        rw [jnum, if_neg hc]
        exact h3 _
theorem jnum_bad (N : Nat) (l : List UInt8) (hl : l.length ≤ N) : BadE jnum N l := by
  intro e pl h
  cases l with
  | nil => obtain ⟨rfl, rfl⟩ := bad_inj h; exact ⟨[], [], rfl, rfl, fun _ => rfl, .inl rfl⟩
  | cons c q =>
    simp only [List.length_cons] at hl
    rw [jnum] at h
    by_cases hc : c = 45
    · rw [if_pos hc] at h
      rcases jnumA_bad (by omega) h with ⟨h1, rfl⟩ | ⟨x, y, h1, h2, h3, h4⟩
      · exact ⟨[], c :: q, rfl, by simp only [List.length_cons]; omega, fun e => absurd e h1, .inl rfl⟩
      · refine ⟨c :: x, y, by rw [h1]; rfl, h2, h3, ?_⟩
        rw [jnum, if_pos hc]
        exact h4 _
    · rw [if_neg hc] at h
      rcases jnumA_bad (by simp only [List.length_cons]; omega) h with ⟨h1, rfl⟩ | ⟨x, y, h1, h2, h3, h4⟩
      · exact ⟨[], c :: q, rfl, by simp only [List.length_cons]; omega, fun e => absurd e h1, .inl rfl⟩
      · refine ⟨x, y, h1, h2, h3, ?_⟩
        cases x with
        | nil => exact .inl rfl
        | cons d z =>
          have : d = c := by rw [List.cons_append] at h1; injection h1 with h1 _; exact h1.symm
          subst this
          rw [jnum, if_neg hc]
          exact h4 _
/-! members -/
theorem jname_okE (N : Nat) (ns : List ByteArray) (l : List UInt8) (a : ByteArray) (r : List UInt8) (h : jname N ns l = .ok a r) : ∃ x, l = x ++ r ∧ ∀ N' r', Ext r r' → jname N' ns (x ++ r') = .ok a r' := by
  cases l with
  | nil => cases h
  | cons c q =>
    rw [jname] at h
    split at h
    · rename_i hc
      cases ht : jtext N (q.length + 1) q [] with
      | bad e p => rw [ht] at h; cases h
      | ok x q2 =>
        rw [ht] at h
        simp only at h
        split at h
        · cases h
        · rename_i hh
          obtain ⟨x1, _, e1, e2⟩ := jtext_ok N _ q [] x q2 ht
          obtain ⟨x2, e3, e4⟩ := jbl_ext q2
          cases hb : jbl q2 with
          | nil => rw [hb] at h; cases h
          | cons c2 r3 =>
            rw [hb] at h e3 e4
            simp only at h
            split at h
            · rename_i hc2
              obtain ⟨rfl, rfl⟩ := ok_inj h
              obtain ⟨x3, e5, e6⟩ := jbl_ext r3
              refine ⟨c :: (x1 ++ (x2 ++ (c2 :: x3))), by rw [e1, e3, List.cons_append, List.append_assoc, List.append_assoc, List.cons_append, ← e5], fun N' r' he => ?_⟩
              rw [List.cons_append, jname, if_pos hc, List.append_assoc, e2 N' _ _ (by simp)]
              simp only
              rw [if_neg hh, List.append_assoc, List.cons_append, e4 (c2 :: (x3 ++ r')) (.inr (.inl ⟨c2, _, _, rfl, rfl⟩))]
              simp only
              rw [if_pos hc2, e6 r' he]
            · cases h
    · cases h
theorem jname_bad (N : Nat) (ns : List ByteArray) (l : List UInt8) (hl : l.length ≤ N) (e pl : Nat) (h : jname N ns l = .bad e pl) : ∃ x y, l = x ++ y ∧ pl + y.length = N ∧ (e = 3 → y = []) ∧ jname pl ns x = .bad 3 pl := by
  cases l with
  | nil => obtain ⟨rfl, rfl⟩ := bad_inj h; exact ⟨[], [], rfl, rfl, fun _ => rfl, rfl⟩
  | cons c q =>
    simp only [List.length_cons] at hl
    have here : ∀ e0 : Nat, e0 ≠ 3 → (JR.bad e0 (N - (q.length + 1)) : JR ByteArray) = .bad e pl → ∃ x y, c :: q = x ++ y ∧ pl + y.length = N ∧ (e = 3 → y = []) ∧ jname pl ns x = .bad 3 pl := by
      intro e0 h0 hh
      obtain ⟨rfl, rfl⟩ := bad_inj hh
      exact ⟨[], c :: q, rfl, by simp only [List.length_cons]; omega, fun e => absurd e h0, rfl⟩
    rw [jname] at h
    split at h
    · rename_i hc
      cases ht : jtext N (q.length + 1) q [] with
      | bad e1 p1 =>
        rw [ht] at h
        obtain ⟨rfl, rfl⟩ := bad_inj h
        obtain ⟨x, y, e1, e2, e3, e4⟩ := jtext_bad N _ q [] (by omega) (by omega) _ _ ht
        refine ⟨c :: x, y, by rw [e1]; rfl, e2, e3, ?_⟩
        rw [jname, if_pos hc, e4 _ (by omega)]
      | ok x q2 =>
        rw [ht] at h
        simp only at h
        obtain ⟨x1, _, e1, e2⟩ := jtext_ok N _ q [] x q2 ht
        have hlen1 := congrArg List.length e1
        rw [List.length_append] at hlen1
        split at h
        · exact here 16 (by decide) h
        · rename_i hh
          obtain ⟨x2, e3, e4⟩ := jbl_ext q2
          have hlen2 := congrArg List.length e3
          rw [List.length_append] at hlen2
          have e5 := e4 [] (Ext.nil _)
          rw [List.append_nil] at e5
          have fin : ∀ p0, jname p0 ns (c :: (x1 ++ x2)) = .bad 3 p0 := by
            intro p0
            rw [jname, if_pos hc, e2 p0 _ x2 (by omega)]
            simp only
            rw [if_neg hh, e5]
          cases hb : jbl q2 with
          | nil =>
            rw [hb] at h e3
            obtain ⟨rfl, rfl⟩ := bad_inj h
            rw [List.append_nil] at e3
            exact ⟨c :: (x1 ++ x2), [], by rw [e1, e3]; simp, by simp, fun _ => rfl, fin N⟩
          | cons c2 r3 =>
            rw [hb] at h e3 hlen2
            simp only at h
            split at h
            · cases h
            · obtain ⟨rfl, rfl⟩ := bad_inj h
              simp only [List.length_cons] at hlen2
              exact ⟨c :: (x1 ++ x2), c2 :: r3, by rw [e1, e3]; simp, by simp only [List.length_cons]; omega, fun e => by omega, fin _⟩
    · exact here 10 (by decide) h
theorem jmore_ok (N : Nat) (f : Bool) (e : UInt8) (l r : List UInt8) (b : Bool) (h : jmore N f e l = .ok b r) : ∃ x, l = x ++ r ∧ (∀ N' r', Ext r r' → (f = true → b = true → r' ≠ []) → jmore N' f e (x ++ r') = .ok b r') ∧ (f = true → b = true → ∀ N', jmore N' f e x = .bad 3 N') := by
  unfold jmore at h ⊢
  obtain ⟨x1, e1, e2⟩ := jbl_ext l
  have e0 := e2 [] (Ext.nil _)
  rw [List.append_nil] at e0
  cases hb : jbl l with
  | nil => rw [hb] at h; cases h
  | cons c q =>
    rw [hb] at h e1 e2
    simp only at h
    have go : ∀ z, jbl (x1 ++ c :: z) = c :: z := fun z => e2 _ (.inr (.inl ⟨c, _, _, rfl, rfl⟩))
    split at h
    · rename_i hc
      obtain ⟨rfl, rfl⟩ := ok_inj h
      refine ⟨x1 ++ [c], by rw [e1]; simp, fun N' r' he _ => ?_, fun _ h => by cases h⟩
      rw [List.append_assoc, show [c] ++ r' = c :: r' from rfl, go]
      simp only
      rw [if_pos hc]
    · rename_i hc
      split at h
      · rename_i hf
        obtain ⟨rfl, rfl⟩ := ok_inj h
        refine ⟨x1, e1, fun N' r' he hne => ?_, fun _ _ N' => by rw [e0]⟩
        rcases he.cons with h3 | ⟨q', rfl⟩
        · exact absurd h3 (hne hf rfl)
        · rw [go]
          simp only
          rw [if_neg hc, if_pos hf]
      · rename_i hf
        split at h
        · rename_i h44
          obtain ⟨rfl, rfl⟩ := ok_inj h
          obtain ⟨x2, e3, e4⟩ := jbl_ext q
          refine ⟨x1 ++ (c :: x2), by rw [e1, List.append_assoc, List.cons_append, ← e3], fun N' r' he _ => ?_, fun h => absurd h hf⟩
          rw [List.append_assoc, List.cons_append, go]
          simp only
          rw [if_neg hc, if_neg hf, if_pos h44, e4 r' he]
        · cases h
theorem jmore_bad (N : Nat) (f : Bool) (e : UInt8) (l : List UInt8) (hl : l.length ≤ N) (er pl : Nat) (h : jmore N f e l = .bad er pl) : ∃ x y, l = x ++ y ∧ pl + y.length = N ∧ (er = 3 → y = []) ∧ jmore pl f e x = .bad 3 pl := by
  unfold jmore at h ⊢
  obtain ⟨x1, e1, e2⟩ := jbl_ext l
  have e0 := e2 [] (Ext.nil _)
  rw [List.append_nil] at e0
  have hlen := congrArg List.length e1
  rw [List.length_append] at hlen
  cases hb : jbl l with
  | nil =>
    rw [hb] at h e1
    obtain ⟨rfl, rfl⟩ := bad_inj h
    exact ⟨x1, [], e1, by simp, fun _ => rfl, by rw [e0]⟩
  | cons c q =>
    rw [hb] at h e1 hlen
    simp only [List.length_cons] at h hlen
    split at h
    · cases h
    · split at h
      · cases h
      · split at h
        · cases h
        · obtain ⟨rfl, rfl⟩ := bad_inj h
          exact ⟨x1, c :: q, e1, by simp only [List.length_cons]; omega, fun e => by omega, by rw [e0]⟩
/-! lists and objects -/
theorem items_ok (N : Nat) (val : Nat → List UInt8 → JR JV) (o : Bool) (hval : ∀ N l, OkE val N l) (hpos : ∀ N, val N [] = .bad 3 N) : ∀ (f : Nat) (l : List UInt8) (ns : List ByteArray) (is : List JV) (a : JV) (r : List UInt8), jitems N (val N) o f l ns is = .ok a r →
    ∃ x, l = x ++ r ∧ ∀ N' f' r', Ext r r' → (x ++ r').length < f' → jitems N' (val N') o f' (x ++ r') ns is = .ok a r'
  | 0, l, ns, is, a, r, h => by rw [jitems] at h; cases h
  | f + 1, l, ns, is, a, r, h => by
    rw [jitems] at h
    cases hm : jmore N is.isEmpty (if o = true then 125 else 93) l with
    | bad e p => rw [hm] at h; cases h
    | ok b r2 =>
      obtain ⟨x1, e1, e2, _⟩ := jmore_ok N _ _ l r2 b hm
      rw [hm] at h
      cases b with
      | false =>
        simp only at h
        obtain ⟨rfl, rfl⟩ := ok_inj h
        refine ⟨x1, e1, fun N' f' r' he hf => ?_⟩
        obtain ⟨g, rfl⟩ : ∃ g, f' = g + 1 := ⟨f' - 1, by omega⟩
        rw [jitems, e2 N' r' he (fun _ h => by cases h)]
      | true =>
        simp only at h
        have vne : ∀ (r3 r4 x3 : List UInt8) (v : JV), val N r3 = .ok v r4 → r3 = x3 ++ r4 → (∀ N' r', Ext r4 r' → val N' (x3 ++ r') = .ok v r') → x3 ≠ [] := by
          intro r3 r4 x3 v _ _ hx e
          have := hx N [] (Ext.nil _)
          rw [e, List.append_nil, hpos] at this
          cases this
        split at h
        · rename_i ho
          cases hn : jname N ns r2 with
          | bad e p => rw [hn] at h; cases h
          | ok nm r3 =>
            rw [hn] at h
            simp only at h
            cases hv : val N r3 with
            | bad e p => rw [hv] at h; cases h
            | ok v r4 =>
              rw [hv] at h
              simp only at h
              obtain ⟨x2, e3, e4⟩ := jname_okE N ns r2 nm r3 hn
              obtain ⟨x3, e5, e6⟩ := hval N r3 v r4 hv
              obtain ⟨x4, e7, e8⟩ := items_ok N val o hval hpos f r4 _ _ a r h
              have hx3 := vne r3 r4 x3 v hv e5 e6
              have hx3p : 0 < x3.length := List.length_pos_iff.2 hx3
              refine ⟨x1 ++ (x2 ++ (x3 ++ x4)), by rw [e1, e3, e5, e7]; simp, fun N' f' r' he hf => ?_⟩
              obtain ⟨g, rfl⟩ : ∃ g, f' = g + 1 := ⟨f' - 1, by omega⟩
              have he4 : Ext r4 (x4 ++ r') := by rw [e7]; exact Ext.app x4 he
              have he3 : Ext r3 (x3 ++ (x4 ++ r')) := by rw [e5]; exact Ext.app x3 he4
              have he2 : Ext r2 (x2 ++ (x3 ++ (x4 ++ r'))) := by rw [e3]; exact Ext.app x2 he3
              simp only [List.append_assoc] at hf ⊢
              rw [jitems, e2 N' _ he2 (fun _ _ => by simp [hx3])]
              simp only
              rw [if_pos ho, e4 N' _ he3]
              simp only
              rw [e6 N' _ he4]
              simp only
              exact e8 N' g r' he (by simp only [List.length_append] at hf ⊢; omega)
        · rename_i ho
          cases hv : val N r2 with
          | bad e p => rw [hv] at h; cases h
          | ok v r4 =>
            rw [hv] at h
            simp only at h
            obtain ⟨x3, e5, e6⟩ := hval N r2 v r4 hv
            obtain ⟨x4, e7, e8⟩ := items_ok N val o hval hpos f r4 _ _ a r h
            have hx3 := vne r2 r4 x3 v hv e5 e6
            have hx3p : 0 < x3.length := List.length_pos_iff.2 hx3
            refine ⟨x1 ++ (x3 ++ x4), by rw [e1, e5, e7]; simp, fun N' f' r' he hf => ?_⟩
            obtain ⟨g, rfl⟩ : ∃ g, f' = g + 1 := ⟨f' - 1, by omega⟩
            have he4 : Ext r4 (x4 ++ r') := by rw [e7]; exact Ext.app x4 he
            have he3 : Ext r2 (x3 ++ (x4 ++ r')) := by rw [e5]; exact Ext.app x3 he4
            simp only [List.append_assoc] at hf ⊢
            rw [jitems, e2 N' _ he3 (fun _ _ => by simp [hx3])]
            simp only
            rw [if_neg ho, e6 N' _ he4]
            simp only
            exact e8 N' g r' he (by simp only [List.length_append] at hf ⊢; omega)
theorem items_nil (N : Nat) (val : List UInt8 → JR JV) (o : Bool) (f : Nat) (ns : List ByteArray) (is : List JV) (hf : 0 < f) : jitems N val o f [] ns is = .bad 3 N := by
  obtain ⟨g, rfl⟩ : ∃ g, f = g + 1 := ⟨f - 1, by omega⟩
  rw [jitems]; rfl
theorem items_bad (N : Nat) (val : Nat → List UInt8 → JR JV) (o : Bool) (hval : ∀ N l, OkE val N l) (hbad : ∀ N l, l.length ≤ N → BadE val N l) (hpos : ∀ N, val N [] = .bad 3 N) : ∀ (f : Nat) (l : List UInt8) (ns : List ByteArray) (is : List JV), l.length < f → l.length ≤ N → ∀ e pl, jitems N (val N) o f l ns is = .bad e pl →
    ∃ x y, l = x ++ y ∧ pl + y.length = N ∧ (e = 3 → y = []) ∧ ∀ f', x.length < f' → jitems pl (val pl) o f' x ns is = .bad 3 pl
  | 0, l, ns, is, hf, _, e, pl, h => by omega
  | f + 1, l, ns, is, hf, hN, e, pl, h => by
    rw [jitems] at h
    cases hm : jmore N is.isEmpty (if o = true then 125 else 93) l with
    | bad e1 p1 =>
      rw [hm] at h
      obtain ⟨rfl, rfl⟩ := bad_inj h
      obtain ⟨x, y, e1, e2, e3, e4⟩ := jmore_bad N _ _ l hN _ _ hm
      refine ⟨x, y, e1, e2, e3, fun f' hf' => ?_⟩
      obtain ⟨g, rfl⟩ : ∃ g, f' = g + 1 := ⟨f' - 1, by omega⟩
      rw [jitems, e4]
    | ok b r2 =>
      obtain ⟨x1, e1, e2, e2'⟩ := jmore_ok N _ _ l r2 b hm
      have hl1 := congrArg List.length e1
      rw [List.length_append] at hl1
      rw [hm] at h
      cases b with
      | false => simp only at h; cases h
      | true =>
        simp only at h
        -- what is left of the round behind more
        have more : ∀ (x : List UInt8), Ext r2 x → ∀ (pl0 f' : Nat), (x1 ++ x).length < f' → (x = [] → is.isEmpty = true → jitems pl0 (val pl0) o f' (x1 ++ x) ns is = .bad 3 pl0) ∧ ((x = [] → is.isEmpty = false) → jmore pl0 is.isEmpty (if o = true then 125 else 93) (x1 ++ x) = .ok true x) := by
          intro x hx pl0 f' hf'
          refine ⟨fun h1 h2 => ?_, fun h1 => e2 pl0 x hx (fun h2 _ h3 => by rw [h1 h3] at h2; cases h2)⟩
          subst h1
          obtain ⟨g, rfl⟩ : ∃ g, f' = g + 1 := ⟨f' - 1, by omega⟩
          rw [List.append_nil, jitems, e2' h2 rfl pl0]
        split at h
        · rename_i ho
          cases hn : jname N ns r2 with
          | bad e3 p3 =>
            rw [hn] at h
            obtain ⟨rfl, rfl⟩ := bad_inj h
            obtain ⟨x, y, e4, e5, e6, e7⟩ := jname_bad N ns r2 (by omega) _ _ hn
            refine ⟨x1 ++ x, y, by rw [e1, e4]; simp, e5, e6, fun f' hf' => ?_⟩
            obtain ⟨m1, m2⟩ := more x (by rw [e4]; exact Ext.pre x y) p3 f' hf'
            by_cases hc : x = [] ∧ is.isEmpty = true
            · exact m1 hc.1 hc.2
            · have hm2 := m2 (fun hx => by cases hh : is.isEmpty with | false => rfl | true => exact absurd ⟨hx, hh⟩ hc)
              obtain ⟨g, rfl⟩ : ∃ g, f' = g + 1 := ⟨f' - 1, by omega⟩
              rw [jitems, hm2]
              simp only
              rw [if_pos ho, e7]
          | ok nm r3 =>
            rw [hn] at h
            simp only at h
            obtain ⟨x2, e3, e4⟩ := jname_okE N ns r2 nm r3 hn
            have hl2 := congrArg List.length e3
            rw [List.length_append] at hl2
            have hx2 : x2 ≠ [] := by
              intro e
              have := e4 N [] (Ext.nil _)
              rw [e] at this
              cases this
            cases hv : val N r3 with
            | bad e5 p5 =>
              rw [hv] at h
              obtain ⟨rfl, rfl⟩ := bad_inj h
              obtain ⟨x, y, e6, e7, e8, e9⟩ := hbad N r3 (by omega) _ _ hv
              refine ⟨x1 ++ (x2 ++ x), y, by rw [e1, e3, e6]; simp, e7, e8, fun f' hf' => ?_⟩
              have he3 : Ext r3 x := by rw [e6]; exact Ext.pre x y
              have he2 : Ext r2 (x2 ++ x) := by rw [e3]; exact Ext.app x2 he3
              have hm2 := (more (x2 ++ x) he2 p5 f' hf').2 (fun hx => by simp [hx2] at hx)
              obtain ⟨g, rfl⟩ : ∃ g, f' = g + 1 := ⟨f' - 1, by omega⟩
              rw [jitems, hm2]
              simp only
              rw [if_pos ho, e4 p5 x he3]
              simp only
              rcases e9 with e9 | ⟨a, e9⟩
              · rw [e9]
              · rw [e9]
                simp only
                refine items_nil _ _ _ _ _ _ ?_
                have : 0 < x2.length := List.length_pos_iff.2 hx2
                simp only [List.length_append] at hf'
                omega
            | ok v r4 =>
              rw [hv] at h
              simp only at h
              obtain ⟨x3, e5, e6⟩ := hval N r3 v r4 hv
              have hl3 := congrArg List.length e5
              rw [List.length_append] at hl3
              have hx3 : x3 ≠ [] := by
                intro e
                have := e6 N [] (Ext.nil _)
                rw [e, List.append_nil, hpos] at this
                cases this
              have hx3p : 0 < x3.length := List.length_pos_iff.2 hx3
              obtain ⟨x, y, e7, e8, e9, e10⟩ := items_bad N val o hval hbad hpos f r4 _ _ (by omega) (by omega) e pl h
              refine ⟨x1 ++ (x2 ++ (x3 ++ x)), y, by rw [e1, e3, e5, e7]; simp, e8, e9, fun f' hf' => ?_⟩
              have he4 : Ext r4 x := by rw [e7]; exact Ext.pre x y
              have he3 : Ext r3 (x3 ++ x) := by rw [e5]; exact Ext.app x3 he4
              have he2 : Ext r2 (x2 ++ (x3 ++ x)) := by rw [e3]; exact Ext.app x2 he3
              have hm2 := (more _ he2 pl f' hf').2 (fun hx => by simp [hx2] at hx)
              obtain ⟨g, rfl⟩ : ∃ g, f' = g + 1 := ⟨f' - 1, by omega⟩
              rw [jitems, hm2]
              simp only
              rw [if_pos ho, e4 pl _ he3]
              simp only
              rw [e6 pl x he4]
              simp only
              exact e10 g (by simp only [List.length_append] at hf'; omega)
        · rename_i ho
          cases hv : val N r2 with
          | bad e5 p5 =>
            rw [hv] at h
            obtain ⟨rfl, rfl⟩ := bad_inj h
            obtain ⟨x, y, e6, e7, e8, e9⟩ := hbad N r2 (by omega) _ _ hv
            refine ⟨x1 ++ x, y, by rw [e1, e6]; simp, e7, e8, fun f' hf' => ?_⟩
            have he2 : Ext r2 x := by rw [e6]; exact Ext.pre x y
            obtain ⟨m1, m2⟩ := more x he2 p5 f' hf'
            by_cases hc : x = [] ∧ is.isEmpty = true
            · exact m1 hc.1 hc.2
            · have hm2 := m2 (fun hx => by cases hh : is.isEmpty with | false => rfl | true => exact absurd ⟨hx, hh⟩ hc)
              obtain ⟨g, rfl⟩ : ∃ g, f' = g + 1 := ⟨f' - 1, by omega⟩
              rw [jitems, hm2]
              simp only
              rw [if_neg ho]
              rcases e9 with e9 | ⟨a, e9⟩
              · rw [e9]
              · rw [e9]
                simp only
                refine items_nil _ _ _ _ _ _ ?_
                have hxne : x ≠ [] := fun e => by rw [e, hpos] at e9; cases e9
                have : 0 < x.length := List.length_pos_iff.2 hxne
                simp only [List.length_append] at hf'
                omega
          | ok v r4 =>
            rw [hv] at h
            simp only at h
            obtain ⟨x3, e5, e6⟩ := hval N r2 v r4 hv
            have hl3 := congrArg List.length e5
            rw [List.length_append] at hl3
            have hx3 : x3 ≠ [] := by
              intro e
              have := e6 N [] (Ext.nil _)
              rw [e, List.append_nil, hpos] at this
              cases this
            have hx3p : 0 < x3.length := List.length_pos_iff.2 hx3
            obtain ⟨x, y, e7, e8, e9, e10⟩ := items_bad N val o hval hbad hpos f r4 _ _ (by omega) (by omega) e pl h
            refine ⟨x1 ++ (x3 ++ x), y, by rw [e1, e5, e7]; simp, e8, e9, fun f' hf' => ?_⟩
            have he4 : Ext r4 x := by rw [e7]; exact Ext.pre x y
            have he2 : Ext r2 (x3 ++ x) := by rw [e5]; exact Ext.app x3 he4
            have hm2 := (more _ he2 pl f' hf').2 (fun hx => by simp [hx3] at hx)
            obtain ⟨g, rfl⟩ : ∃ g, f' = g + 1 := ⟨f' - 1, by omega⟩
            rw [jitems, hm2]
            simp only
            rw [if_neg ho, e6 pl x he4]
            simp only
            exact e10 g (by simp only [List.length_append] at hf'; omega)
/-! values -/
theorem head_ok (deep : Nat → Bool → List UInt8 → JR JV) (hd : ∀ o N l, OkE (fun N => deep N o) N l) (N : Nat) (l : List UInt8) : OkE (fun N => jhead N (deep N)) N l := by
  intro a r h
  cases l with
  | nil => cases h
  | cons c q =>
    simp only [jhead] at h
    have word : ∀ (w : List UInt8) (k : Int) (hw : ∀ N' (z : List UInt8), jhead N' (deep N') (c :: z) = (match jword N' (c :: w) (c :: z) with | .bad e p => .bad e p | .ok _ q => .ok (jnil k) q)),
        (match jword N (c :: w) (c :: q) with | .bad e p => (.bad e p : JR JV) | .ok _ q => .ok (jnil k) q) = .ok a r → ∃ x, c :: q = x ++ r ∧ ∀ N' r', Ext r r' → jhead N' (deep N') (x ++ r') = .ok a r' := by
      intro w k hw hh
      cases hj : jword N (c :: w) (c :: q) with
      | bad e p => rw [hj] at hh; cases hh
      | ok u q2 =>
        rw [hj] at hh
        obtain ⟨rfl, rfl⟩ := ok_inj hh
        obtain ⟨h1, h2⟩ := jword_ok N _ _ _ _ hj
        refine ⟨c :: w, h1, fun N' r' _ => ?_⟩
        rw [List.cons_append, hw]
        have h3 := h2 N' r'
        rw [List.cons_append] at h3
        rw [h3]
    by_cases c1 : c = 110
    · subst c1; rw [if_pos rfl] at h; exact word [117, 108, 108] 0 (fun N' z => by rw [jhead, if_pos rfl]; rfl) h
    rw [if_neg c1] at h
    by_cases c2 : c = 116
    · subst c2; rw [if_pos rfl] at h; exact word [114, 117, 101] 2 (fun N' z => by rw [jhead, if_neg c1, if_pos rfl]; rfl) h
    rw [if_neg c2] at h
    by_cases c3 : c = 102
    · subst c3; rw [if_pos rfl] at h; exact word [97, 108, 115, 101] 1 (fun N' z => by rw [jhead, if_neg c1, if_neg c2, if_pos rfl]; rfl) h
    rw [if_neg c3] at h
    by_cases c4 : c = 45 ∨ isDg c = true
    · rw [if_pos c4] at h
      cases hj : jnum N (c :: q) with
      | bad e p => rw [hj] at h; cases h
      | ok n q2 =>
        rw [hj] at h
        obtain ⟨rfl, rfl⟩ := ok_inj h
        obtain ⟨x, h1, h2⟩ := jnum_ok N _ _ _ hj
        refine ⟨x, h1, fun N' r' he => ?_⟩
        have h3 := h2 N' r' he
        cases x with
        | nil =>
          have h4 := h2 N' [] (Ext.nil _)
          cases h4
        | cons d z =>
          have : d = c := by rw [List.cons_append] at h1; injection h1 with h1 _; exact h1.symm
          subst this
          rw [List.cons_append] at h3 ⊢
          dsimp only
          rw [jhead, if_neg c1, if_neg c2, if_neg c3, if_pos c4, h3]
    rw [if_neg c4] at h
    by_cases c5 : c = 34
    · rw [if_pos c5] at h
      cases hj : jtext N (q.length + 1) q [] with
      | bad e p => rw [hj] at h; cases h
      | ok x q2 =>
        rw [hj] at h
        obtain ⟨rfl, rfl⟩ := ok_inj h
        obtain ⟨x1, _, h1, h2⟩ := jtext_ok N _ q [] x _ hj
        refine ⟨c :: x1, by rw [h1]; rfl, fun N' r' he => ?_⟩
        dsimp only
        rw [List.cons_append, jhead, if_neg c1, if_neg c2, if_neg c3, if_neg c4, if_pos c5, h2 N' _ r' (by omega)]
    rw [if_neg c5] at h
    by_cases c6 : c = 91
    · rw [if_pos c6] at h
      obtain ⟨x, h1, h2⟩ := hd false N q a r h
      refine ⟨c :: x, by rw [h1]; rfl, fun N' r' he => ?_⟩
      dsimp only
      rw [List.cons_append, jhead, if_neg c1, if_neg c2, if_neg c3, if_neg c4, if_neg c5, if_pos c6]
      exact h2 N' r' he
    rw [if_neg c6] at h
    by_cases c7 : c = 123
    · rw [if_pos c7] at h
      obtain ⟨x, h1, h2⟩ := hd true N q a r h
      refine ⟨c :: x, by rw [h1]; rfl, fun N' r' he => ?_⟩
      dsimp only
      rw [List.cons_append, jhead, if_neg c1, if_neg c2, if_neg c3, if_neg c4, if_neg c5, if_neg c6, if_pos c7]
      exact h2 N' r' he
    rw [if_neg c7] at h
    cases h
/-- a list's or an object's fault, or the fault that it stands too deep -/
def BadD (deep : Nat → Bool → List UInt8 → JR JV) (N : Nat) (o : Bool) (q : List UInt8) : Prop := ∀ e pl, deep N o q = .bad e pl → (e ≠ 3 ∧ pl + (q.length + 1) = N) ∨ ∃ x y, q = x ++ y ∧ pl + y.length = N ∧ (e = 3 → y = []) ∧ deep pl o x = .bad 3 pl
theorem head_bad (deep : Nat → Bool → List UInt8 → JR JV) (N : Nat) (l : List UInt8) (hl : l.length ≤ N) (hd : ∀ o q, q.length + 1 ≤ N → BadD deep N o q) : BadE (fun N => jhead N (deep N)) N l := by
  intro e pl h
  cases l with
  | nil => obtain ⟨rfl, rfl⟩ := bad_inj h; exact ⟨[], [], rfl, rfl, fun _ => rfl, .inl rfl⟩
  | cons c q =>
    simp only [List.length_cons] at hl
    simp only [jhead] at h
    have here : ∀ (y : List UInt8), e ≠ 3 → pl + (q.length + 1) = N → ∃ x y, c :: q = x ++ y ∧ pl + y.length = N ∧ (e = 3 → y = []) ∧ (jhead pl (deep pl) x = .bad 3 pl ∨ ∃ a, jhead pl (deep pl) x = .ok a []) :=
      fun _ h1 h2 => ⟨[], c :: q, rfl, by simp only [List.length_cons]; omega, fun e => absurd e h1, .inl rfl⟩
    have word : ∀ (w : List UInt8) (k : Int) (hw : ∀ N' (z : List UInt8), jhead N' (deep N') (c :: z) = (match jword N' (c :: w) (c :: z) with | .bad e p => .bad e p | .ok _ q => .ok (jnil k) q)),
        (match jword N (c :: w) (c :: q) with | .bad e p => (.bad e p : JR JV) | .ok _ q => .ok (jnil k) q) = .bad e pl → ∃ x y, c :: q = x ++ y ∧ pl + y.length = N ∧ (e = 3 → y = []) ∧ (jhead pl (deep pl) x = .bad 3 pl ∨ ∃ a, jhead pl (deep pl) x = .ok a []) := by
      intro w k hw hh
      cases hj : jword N (c :: w) (c :: q) with
      | ok u q2 => rw [hj] at hh; cases hh
      | bad e1 p1 =>
        rw [hj] at hh
        obtain ⟨rfl, rfl⟩ := bad_inj hh
        obtain ⟨x, y, h1, h2, h3, h4⟩ := jword_bad N _ _ (by simp only [List.length_cons]; omega) _ _ hj
        cases x with
        | nil => exact ⟨[], y, h1, h2, h3, .inl rfl⟩
        | cons d z =>
          have : d = c := by rw [List.cons_append] at h1; injection h1 with h1 _; exact h1.symm
          subst this
          exact ⟨d :: z, y, h1, h2, h3, .inl (by rw [hw, h4])⟩
    by_cases c1 : c = 110
    · subst c1; rw [if_pos rfl] at h; exact word [117, 108, 108] 0 (fun N' z => by rw [jhead, if_pos rfl]; rfl) h
    rw [if_neg c1] at h
    by_cases c2 : c = 116
    · subst c2; rw [if_pos rfl] at h; exact word [114, 117, 101] 2 (fun N' z => by rw [jhead, if_neg c1, if_pos rfl]; rfl) h
    rw [if_neg c2] at h
    by_cases c3 : c = 102
    · subst c3; rw [if_pos rfl] at h; exact word [97, 108, 115, 101] 1 (fun N' z => by rw [jhead, if_neg c1, if_neg c2, if_pos rfl]; rfl) h
    rw [if_neg c3] at h
    by_cases c4 : c = 45 ∨ isDg c = true
    · rw [if_pos c4] at h
      cases hj : jnum N (c :: q) with
      | ok n q2 => rw [hj] at h; cases h
      | bad e1 p1 =>
        rw [hj] at h
        obtain ⟨rfl, rfl⟩ := bad_inj h
        obtain ⟨x, y, h1, h2, h3, h4⟩ := jnum_bad N _ (by simp only [List.length_cons]; omega) _ _ hj
        refine ⟨x, y, h1, h2, h3, ?_⟩
        cases x with
        | nil => exact .inl rfl
        | cons d z =>
          have : d = c := by rw [List.cons_append] at h1; injection h1 with h1 _; exact h1.symm
          subst this
          dsimp only
          rw [jhead, if_neg c1, if_neg c2, if_neg c3, if_pos c4]
          rcases h4 with h4 | ⟨a, h4⟩
          · rw [h4]; exact .inl rfl
          · rw [h4]; exact .inr ⟨_, rfl⟩
    rw [if_neg c4] at h
    by_cases c5 : c = 34
    · rw [if_pos c5] at h
      cases hj : jtext N (q.length + 1) q [] with
      | ok x q2 => rw [hj] at h; cases h
      | bad e1 p1 =>
        rw [hj] at h
        obtain ⟨rfl, rfl⟩ := bad_inj h
        obtain ⟨x, y, h1, h2, h3, h4⟩ := jtext_bad N _ q [] (by omega) (by omega) _ _ hj
        refine ⟨c :: x, y, by rw [h1]; rfl, h2, h3, .inl ?_⟩
        dsimp only
        rw [jhead, if_neg c1, if_neg c2, if_neg c3, if_neg c4, if_pos c5, h4 _ (by omega)]
    rw [if_neg c5] at h
    by_cases c6 : c = 91
    · rw [if_pos c6] at h
      rcases hd false q (by omega) e pl h with ⟨h1, h2⟩ | ⟨x, y, h1, h2, h3, h4⟩
      · exact here [] h1 h2
      · refine ⟨c :: x, y, by rw [h1]; rfl, h2, h3, .inl ?_⟩
        dsimp only
        rw [jhead, if_neg c1, if_neg c2, if_neg c3, if_neg c4, if_neg c5, if_pos c6, h4]
    rw [if_neg c6] at h
    by_cases c7 : c = 123
    · rw [if_pos c7] at h
      rcases hd true q (by omega) e pl h with ⟨h1, h2⟩ | ⟨x, y, h1, h2, h3, h4⟩
      · exact here [] h1 h2
      · refine ⟨c :: x, y, by rw [h1]; rfl, h2, h3, .inl ?_⟩
        dsimp only
        rw [jhead, if_neg c1, if_neg c2, if_neg c3, if_neg c4, if_neg c5, if_neg c6, if_pos c7, h4]
    rw [if_neg c7] at h
    obtain ⟨rfl, rfl⟩ := bad_inj h
    exact here [] (by decide) (by omega)
theorem val_nil (k N : Nat) : jval N k [] = .bad 3 N := by cases k <;> rfl
theorem val_ok : ∀ (k N : Nat) (l : List UInt8), OkE (fun N => jval N k) N l
  | 0, N, l => by
    have e : (fun N => jval N 0) = (fun N => jhead N (fun _ r => .bad 17 (N - (r.length + 1)))) := by funext N l; rw [jval]
    rw [e]
    exact head_ok (fun N _ r => .bad 17 (N - (r.length + 1))) (fun o N l a r h => by cases h) N l
  | k + 1, N, l => by
    have e : (fun N => jval N (k + 1)) = (fun N => jhead N (fun o r => jitems N (jval N k) o (r.length + 1) r [] [])) := by funext N l; rw [jval]
    rw [e]
    refine head_ok (fun N o r => jitems N (jval N k) o (r.length + 1) r [] []) (fun o N l a r h => ?_) N l
    obtain ⟨x, h1, h2⟩ := items_ok N (fun N => jval N k) o (fun N l => val_ok k N l) (fun N => val_nil k N) _ l [] [] a r h
    exact ⟨x, h1, fun N' r' he => h2 N' _ r' he (by omega)⟩
theorem val_bad : ∀ (k N : Nat) (l : List UInt8), l.length ≤ N → BadE (fun N => jval N k) N l
  | 0, N, l, hl => by
    have e : (fun N => jval N 0) = (fun N => jhead N (fun _ r => .bad 17 (N - (r.length + 1)))) := by funext N l; rw [jval]
    rw [e]
    refine head_bad (fun N _ r => .bad 17 (N - (r.length + 1))) N l hl (fun o q hq e pl h => .inl ?_)
    obtain ⟨rfl, rfl⟩ := bad_inj h
    exact ⟨by decide, by omega⟩
  | k + 1, N, l, hl => by
    have e : (fun N => jval N (k + 1)) = (fun N => jhead N (fun o r => jitems N (jval N k) o (r.length + 1) r [] [])) := by funext N l; rw [jval]
    rw [e]
    refine head_bad (fun N o r => jitems N (jval N k) o (r.length + 1) r [] []) N l hl (fun o q hq e pl h => .inr ?_)
    obtain ⟨x, y, h1, h2, h3, h4⟩ := items_bad N (fun N => jval N k) o (fun N l => val_ok k N l) (fun N l hl => val_bad k N l hl) (fun N => val_nil k N) _ q [] [] (by omega) (by omega) e pl h
    exact ⟨x, y, h1, h2, h3, h4 _ (by omega)⟩
/-! whole texts -/
theorem first_bad {bs : List UInt8} {e p : Nat} (h : jparse bs = .bad e p) : p ≤ bs.length ∧ (e = 3 → p = bs.length) ∧ (jparse (bs.take p) = .bad 3 p ∨ ∃ v, jparse (bs.take p) = .ok v []) := by
  unfold jparse at h
  split at h
  · obtain ⟨rfl, rfl⟩ := bad_inj h
    exact ⟨by omega, fun h => by omega, .inl rfl⟩
  · rename_i hl
    have fin : ∀ x y : List UInt8, bs = x ++ y → p + y.length = bs.length → x = bs.take p ∧ x.length = p := by
      intro x y h1 h2
      have hlen := congrArg List.length h1
      rw [List.length_append] at hlen
      have hx : x.length = p := by omega
      exact ⟨by rw [h1, ← hx, List.take_left], hx⟩
    obtain ⟨x0, e1, e2⟩ := jbl_ext bs
    have hlen0 := congrArg List.length e1
    rw [List.length_append] at hlen0
    cases hv : jval bs.length 64 (jbl bs) with
    | bad e1' p1 =>
      rw [hv] at h
      obtain ⟨rfl, rfl⟩ := bad_inj h
      obtain ⟨x, y, e3, e4, e5, e6⟩ := val_bad 64 bs.length (jbl bs) (by omega) _ _ hv
      obtain ⟨f1, f2⟩ := fin (x0 ++ x) y (by rw [e1, e3]; simp) e4
      refine ⟨by omega, fun h3 => by have := e5 h3; subst this; simp at e4; omega, ?_⟩
      have hb := e2 x (by rw [e3]; exact Ext.pre x y)
      rw [← f1]
      unfold jparse
      rw [if_neg (by omega), hb, f2]
      rcases e6 with e6 | ⟨a, e6⟩
      · left; simp only at e6; rw [e6]
      · right; simp only at e6; rw [e6]; exact ⟨a, rfl⟩
    | ok v r =>
      rw [hv] at h
      simp only at h
      cases hb2 : jbl r with
      | nil => rw [hb2] at h; cases h
      | cons c q =>
        rw [hb2] at h
        simp only at h
        obtain ⟨rfl, rfl⟩ := bad_inj h
        obtain ⟨x, e3, e4⟩ := val_ok 64 bs.length (jbl bs) v r hv
        obtain ⟨x2, e5, e6⟩ := jbl_ext r
        have hlen1 := congrArg List.length e3
        have hlen2 := congrArg List.length e5
        rw [List.length_append] at hlen1 hlen2
        rw [hb2] at e5 hlen2
        simp only [List.length_cons] at hlen2
        obtain ⟨f1, f2⟩ := fin (x0 ++ (x ++ x2)) (c :: q) (by rw [e1, e3, e5]; simp) (by simp only [List.length_cons]; omega)
        refine ⟨by omega, fun h => by omega, .inr ⟨v, ?_⟩⟩
        have hr : Ext r x2 := by rw [e5]; exact Ext.pre x2 _
        have hb := e2 (x ++ x2) (by rw [e3]; exact Ext.app x hr)
        have h7 := e4 (x0 ++ (x ++ x2)).length x2 hr
        have h8 := e6 [] (Ext.nil _)
        rw [List.append_nil] at h8
        simp only at h7
        rw [← f1]
        unfold jparse
        rw [if_neg (by omega), hb, h7]
        simp only
        rw [h8]
theorem first_ok {bs r : List UInt8} {v : JV} (h : jparse bs = .ok v r) : bs.length = 65536 ∨ jparse (bs ++ [0]) = .bad 4 bs.length := by
  unfold jparse at h
  split at h
  · cases h
  · rename_i hl
    by_cases hm : bs.length = 65536
    · exact .inl hm
    right
    obtain ⟨x0, e1, e2⟩ := jbl_ext bs
    cases hv : jval bs.length 64 (jbl bs) with
    | bad e1' p1 => rw [hv] at h; cases h
    | ok v2 r2 =>
      rw [hv] at h
      simp only at h
      cases hb2 : jbl r2 with
      | cons c q => rw [hb2] at h; cases h
      | nil =>
        obtain ⟨x, e3, e4⟩ := val_ok 64 bs.length (jbl bs) v2 r2 hv
        obtain ⟨x2, e5, e6⟩ := jbl_ext r2
        rw [hb2, List.append_nil] at e5
        have hr : Ext r2 (x2 ++ [0]) := by
          rw [e5]
          cases x2 with
          | nil => exact .inr (.inr ⟨rfl, rfl⟩)
          | cons c q => exact .inr (.inl ⟨c, _, _, rfl, rfl⟩)
        have hb := e2 (x ++ (x2 ++ [0])) (by rw [e3]; exact Ext.app x hr)
        have h7 := e4 (bs ++ [0]).length (x2 ++ [0]) hr
        have h8 := e6 [0] (by rw [hb2]; exact .inr (.inr ⟨rfl, rfl⟩))
        have hbs : bs ++ [0] = x0 ++ (x ++ (x2 ++ [0])) := by
          conv => lhs; rw [e1, e3, e5]
          simp
        simp only at h7
        unfold jparse
        rw [if_neg (by simp only [List.length_append, List.length_cons, List.length_nil]; omega)]
        rw [show jbl (bs ++ [0]) = x ++ (x2 ++ [0]) by rw [hbs, hb], h7]
        simp only
        rw [h8]
        simp only [List.length_append, List.length_cons, List.length_nil]
        congr 1
theorem jparse_len {bs r : List UInt8} {v : JV} (h : jparse bs = .ok v r) : bs.length ≤ 65536 := by
  unfold jparse at h
  split at h
  · cases h
  · omega
end Go.Proofs.YtbkbokfegjodnaaDoor
