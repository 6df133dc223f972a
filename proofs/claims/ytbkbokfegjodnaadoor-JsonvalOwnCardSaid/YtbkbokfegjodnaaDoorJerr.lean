/- Plain law: no fault has the number 0. No program in sight. Conditions: none. -/
import Derived.Test.YtbkbokfegjodnaaDoorPlainb
namespace Go.Proofs.YtbkbokfegjodnaaDoor
theorem jfour_e (N : Nat) : ∀ (m n : Nat) (l : List UInt8) (e p : Nat), jfour N m n l = .bad e p → e ≠ 0
  | 0, n, l, e, p, h => by rw [jfour] at h; cases h
  | m + 1, n, [], e, p, h => by rw [jfour] at h; have := (bad_inj h).1; omega
  | m + 1, n, c :: l, e, p, h => by
    rw [jfour] at h
    split at h
    · exact jfour_e N m _ l e p h
    · have := (bad_inj h).1; omega
theorem jword_e (N : Nat) : ∀ (w l : List UInt8) (e p : Nat), jword N w l = .bad e p → e ≠ 0
  | [], l, e, p, h => by rw [jword] at h; cases h
  | c :: w, [], e, p, h => by rw [jword] at h; have := (bad_inj h).1; omega
  | c :: w, d :: l, e, p, h => by
    rw [jword] at h
    split at h
    · exact jword_e N w l e p h
    · have := (bad_inj h).1; omega
theorem juni_e {N f : Nat} {l : List UInt8} {e p : Nat} (h : juni N f l = .bad e p) : e ≠ 0 := by
  unfold juni at h
  cases h4 : jfour N 4 0 l with
  | bad e1 p1 => rw [h4, jchr] at h; have := jfour_e _ _ _ _ _ _ h4; have := (bad_inj h).1; omega
  | ok n q =>
    rw [h4, jchr] at h
    split at h
    · cases h
    · split at h
      · have := (bad_inj h).1; omega
      · cases h5 : jlit N f [92, 117] q with
        | bad e1 p1 => rw [h5, jsec] at h; have := jlit_bad _ _ _ _ _ _ h5; have := (bad_inj h).1; omega
        | ok u q2 =>
          rw [h5, jsec] at h
          cases h6 : jfour N 4 0 q2 with
          | bad e1 p1 => rw [h6, jlow] at h; have := jfour_e _ _ _ _ _ _ h6; have := (bad_inj h).1; omega
          | ok m q3 =>
            rw [h6, jlow] at h
            split at h
            · have := (bad_inj h).1; omega
            · cases h
theorem jesc_e {N : Nat} {l : List UInt8} {e p : Nat} (h : jesc N l = .bad e p) : e ≠ 0 := by
  cases l with
  | nil => have := (bad_inj h).1; omega
  | cons c q =>
    rw [jesc] at h
    iterate 8 (split at h; · cases h)
    split at h
    · cases hu : juni N (N - (q.length + 2)) q with
      | bad e1 p1 => rw [hu, jutf] at h; have := juni_e hu; have := (bad_inj h).1; omega
      | ok n q2 => rw [hu, jutf] at h; cases h
    · have := (bad_inj h).1; omega
theorem jtext_e (N : Nat) : ∀ (f : Nat) (l acc : List UInt8), l.length < f → ∀ e p, jtext N f l acc = .bad e p → e ≠ 0
  | 0, l, acc, hf, e, p, h => by omega
  | f + 1, [], acc, hf, e, p, h => by rw [jtext] at h; have := (bad_inj h).1; omega
  | f + 1, c :: l, acc, hf, e, p, h => by
    rw [jtext] at h
    simp only [List.length_cons] at hf
    split at h
    · cases h
    · split at h
      · cases he : jesc N l with
        | bad e1 p1 => rw [he] at h; have := jesc_e he; have := (bad_inj h).1; omega
        | ok y q =>
          rw [he] at h
          obtain ⟨x, hx, e1, e2⟩ := jesc_ok N l q y he
          have := congrArg List.length e1
          rw [List.length_append] at this
          have := List.length_pos_iff.2 hx
          exact jtext_e N f q _ (by omega) e p h
      · split at h
        · have := (bad_inj h).1; omega
        · split at h
          · have := (bad_inj h).1; omega
          · split at h
            · have := (bad_inj h).1; omega
            · exact jtext_e N f _ _ (by rw [List.length_drop]; simp only [List.length_cons]; omega) e p h
theorem jnumEnd_e {N f : Nat} {m : Bool} {v : Nat} {l : List UInt8} {e p : Nat} (h : jnumEnd N f m v l = .bad e p) : e ≠ 0 := by
  unfold jnumEnd at h
  split at h
  · have := (bad_inj h).1; omega
  · cases l with
    | nil => cases h
    | cons c q =>
      simp only at h
      split at h
      · have := (bad_inj h).1; omega
      · cases h
theorem jnumA_e {N f : Nat} {m : Bool} {l : List UInt8} {e p : Nat} (h : jnumA N f m l = .bad e p) : e ≠ 0 := by
  cases l with
  | nil => have := (bad_inj h).1; omega
  | cons c q =>
    rw [jnumA] at h
    split at h
    · exact jnumEnd_e h
    · have := (bad_inj h).1; omega
theorem jnum_e {N : Nat} {l : List UInt8} {e p : Nat} (h : jnum N l = .bad e p) : e ≠ 0 := by
  cases l with
  | nil => have := (bad_inj h).1; omega
  | cons c q =>
    rw [jnum] at h
    split at h <;> exact jnumA_e h
theorem jname_e {N : Nat} {ns : List ByteArray} {l : List UInt8} {e p : Nat} (h : jname N ns l = .bad e p) : e ≠ 0 := by
  cases l with
  | nil => have := (bad_inj h).1; omega
  | cons c q =>
    rw [jname] at h
    split at h
    · cases ht : jtext N (q.length + 1) q [] with
      | bad e1 p1 => rw [ht] at h; have := jtext_e N _ q [] (by omega) _ _ ht; have := (bad_inj h).1; omega
      | ok x q2 =>
        rw [ht] at h
        simp only at h
        split at h
        · have := (bad_inj h).1; omega
        · split at h
          · have := (bad_inj h).1; omega
          · split at h
            · cases h
            · have := (bad_inj h).1; omega
    · have := (bad_inj h).1; omega
theorem jmore_e {N : Nat} {f : Bool} {c : UInt8} {l : List UInt8} {e p : Nat} (h : jmore N f c l = .bad e p) : e ≠ 0 := by
  unfold jmore at h
  split at h
  · have := (bad_inj h).1; omega
  · split at h
    · cases h
    · split at h
      · cases h
      · split at h
        · cases h
        · have := (bad_inj h).1; omega
theorem items_e (N : Nat) (val : List UInt8 → JR JV) (o : Bool) (hval : ∀ l e p, val l = .bad e p → e ≠ 0) (hlen : ∀ l t r, val l = .ok t r → r.length < l.length) : ∀ (f : Nat) (l : List UInt8) (ns : List ByteArray) (is : List JV), l.length < f → ∀ e p, jitems N val o f l ns is = .bad e p → e ≠ 0
  | 0, l, ns, is, hf, e, p, h => by omega
  | f + 1, l, ns, is, hf, e, p, h => by
    rw [jitems] at h
    cases hm : jmore N is.isEmpty (if o = true then 125 else 93) l with
    | bad e1 p1 => rw [hm] at h; have := jmore_e hm; have := (bad_inj h).1; omega
    | ok b r2 =>
      obtain ⟨x1, e1, _⟩ := jmore_ok N _ _ l r2 b hm
      have hl1 := congrArg List.length e1
      rw [List.length_append] at hl1
      rw [hm] at h
      cases b with
      | false => simp only at h; cases h
      | true =>
        simp only at h
        split at h
        · cases hn : jname N ns r2 with
          | bad e3 p3 => rw [hn] at h; have := jname_e hn; have := (bad_inj h).1; omega
          | ok nm r3 =>
            rw [hn] at h
            simp only at h
            obtain ⟨x2, e3, _⟩ := jname_okE N ns r2 nm r3 hn
            have hl2 := congrArg List.length e3
            rw [List.length_append] at hl2
            cases hv : val r3 with
            | bad e5 p5 => rw [hv] at h; have := hval _ _ _ hv; have := (bad_inj h).1; omega
            | ok v r4 =>
              rw [hv] at h
              have := hlen _ _ _ hv
              exact items_e N val o hval hlen f r4 _ _ (by omega) e p h
        · cases hv : val r2 with
          | bad e5 p5 => rw [hv] at h; have := hval _ _ _ hv; have := (bad_inj h).1; omega
          | ok v r4 =>
            rw [hv] at h
            have := hlen _ _ _ hv
            exact items_e N val o hval hlen f r4 _ _ (by omega) e p h
theorem head_e (N : Nat) (deep : Bool → List UInt8 → JR JV) (hdeep : ∀ o l e p, deep o l = .bad e p → e ≠ 0) (l : List UInt8) (e p : Nat) (h : jhead N deep l = .bad e p) : e ≠ 0 := by
  have word : ∀ (w l : List UInt8) (k : Int) (hh : (match jword N w l with | .bad e p => (.bad e p : JR JV) | .ok _ q => .ok (jnil k) q) = .bad e p), e ≠ 0 := by
    intro w l k hh
    cases hj : jword N w l with
    | bad e1 p1 => rw [hj] at hh; have := jword_e _ _ _ _ _ hj; have := (bad_inj hh).1; omega
    | ok u q => rw [hj] at hh; cases hh
  cases l with
  | nil => have := (bad_inj h).1; omega
  | cons c q =>
    rw [jhead] at h
    split at h
    · exact word _ _ 0 h
    split at h
    · exact word _ _ 2 h
    split at h
    · exact word _ _ 1 h
    split at h
    · cases hj : jnum N (c :: q) with
      | bad e1 p1 => rw [hj] at h; have := jnum_e hj; have := (bad_inj h).1; omega
      | ok n q2 => rw [hj] at h; cases h
    split at h
    · cases hj : jtext N (q.length + 1) q [] with
      | bad e1 p1 => rw [hj] at h; have := jtext_e N _ q [] (by omega) _ _ hj; have := (bad_inj h).1; omega
      | ok x q2 => rw [hj] at h; cases h
    split at h
    · exact hdeep _ _ _ _ h
    split at h
    · exact hdeep _ _ _ _ h
    · have := (bad_inj h).1; omega
theorem val_short (k N : Nat) (l : List UInt8) (t : JV) (r : List UInt8) (h : jval N k l = .ok t r) : r.length < l.length := by
  obtain ⟨x, h1, h2⟩ := val_ok k N l t r h
  have hx : x ≠ [] := by
    intro e
    have := h2 N [] (Ext.nil _)
    rw [e, List.append_nil] at this
    simp only [val_nil] at this
    cases this
  have := List.length_pos_iff.2 hx
  rw [h1, List.length_append]; omega
theorem val_e (N : Nat) : ∀ (k : Nat) (l : List UInt8) (e p : Nat), jval N k l = .bad e p → e ≠ 0
  | 0, l, e, p, h => by
    rw [jval] at h
    exact head_e N _ (fun o l e p h => by have := (bad_inj h).1; omega) l e p h
  | k + 1, l, e, p, h => by
    rw [jval] at h
    exact head_e N _ (fun o l e p h => items_e N (jval N k) o (fun l e p h => val_e N k l e p h) (fun l t r h => val_short k N l t r h) _ l [] [] (by omega) e p h) l e p h
theorem jparse_ne {bs : List UInt8} {e p : Nat} (h : jparse bs = .bad e p) : e ≠ 0 := by
  unfold jparse at h
  split at h
  · have := (bad_inj h).1; omega
  · cases hv : jval bs.length 64 (jbl bs) with
    | bad e1 p1 => rw [hv] at h; have := val_e _ _ _ _ _ hv; have := (bad_inj h).1; omega
    | ok v r =>
      rw [hv] at h
      simp only at h
      split at h
      · cases h
      · have := (bad_inj h).1; omega
end Go.Proofs.YtbkbokfegjodnaaDoor
