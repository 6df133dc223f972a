/- Plain law: what was read holds no more than its text. No program in sight. Conditions: none. -/
import Derived.Test.YtbkbokfegjodnaaDoorJerr
import Derived.Test.YtbkbokfegjodnaaDoorBasic
namespace Go.Proofs.YtbkbokfegjodnaaDoor
theorem jfour_len (N : Nat) : ∀ (m n : Nat) (l r : List UInt8) (a : Nat), jfour N m n l = .ok a r → r.length + m = l.length
  | 0, n, l, r, a, h => by rw [jfour] at h; obtain ⟨_, rfl⟩ := ok_inj h; rfl
  | m + 1, n, [], r, a, h => by rw [jfour] at h; cases h
  | m + 1, n, c :: l, r, a, h => by
    rw [jfour] at h
    split at h
    · have := jfour_len N m _ l r a h; simp only [List.length_cons]; omega
    · cases h
theorem utfL_len4 (n : Nat) : (utfL n).length ≤ 4 := by
  unfold utfL
  repeat' split
  all_goals simp
theorem jlit_len (N f : Nat) (w l r : List UInt8) (u : Unit) (h : jlit N f w l = .ok u r) : r.length + w.length = l.length := by
  obtain ⟨h1, _⟩ := jlit_ok N f w l r u h
  rw [h1, List.length_append]; omega
theorem juni_len {N f : Nat} {l r : List UInt8} {a : Nat} (h : juni N f l = .ok a r) : r.length + 4 ≤ l.length := by
  unfold juni at h
  cases h4 : jfour N 4 0 l with
  | bad e p => rw [h4] at h; cases h
  | ok n q =>
    have h0 := jfour_len N 4 0 l q n h4
    rw [h4, jchr] at h
    split at h
    · obtain ⟨_, rfl⟩ := ok_inj h; omega
    · split at h
      · cases h
      · cases h5 : jlit N f [92, 117] q with
        | bad e p => rw [h5] at h; cases h
        | ok u q2 =>
          have h1 := jlit_len N f _ q q2 u h5
          simp only [List.length_cons, List.length_nil] at h1
          rw [h5, jsec] at h
          cases h6 : jfour N 4 0 q2 with
          | bad e p => rw [h6] at h; cases h
          | ok m q3 =>
            have h2 := jfour_len N 4 0 q2 q3 m h6
            rw [h6, jlow] at h
            split at h
            · cases h
            · obtain ⟨_, rfl⟩ := ok_inj h; omega
theorem jesc_len {N : Nat} {l x r : List UInt8} (h : jesc N l = .ok x r) : x.length + r.length ≤ l.length := by
  cases l with
  | nil => cases h
  | cons c q =>
    rw [jesc] at h
    iterate 8 (split at h; · obtain ⟨rfl, rfl⟩ := ok_inj h; simp only [List.length_cons, List.length_nil]; omega)
    split at h
    · cases hu : juni N (N - (q.length + 2)) q with
      | bad e p => rw [hu] at h; cases h
      | ok n q2 =>
        rw [hu, jutf] at h
        obtain ⟨rfl, rfl⟩ := ok_inj h
        have := juni_len hu
        have := utfL_len4 n
        simp only [List.length_cons]; omega
    · cases h
theorem jtext_len2 (N : Nat) : ∀ (f : Nat) (l acc x r : List UInt8), jtext N f l acc = .ok x r → x.length + r.length + 1 ≤ acc.length + l.length
  | 0, _, _, _, _, h => by rw [jtext] at h; cases h
  | f + 1, [], _, _, _, h => by rw [jtext] at h; cases h
  | f + 1, c :: l, acc, x, r, h => by
    rw [jtext] at h
    split at h
    · obtain ⟨rfl, rfl⟩ := ok_inj h; simp only [List.length_cons]; omega
    · split at h
      · cases he : jesc N l with
        | bad e p => rw [he] at h; cases h
        | ok y q =>
          rw [he] at h
          have h1 := jesc_len he
          have h2 := jtext_len2 N f q (acc ++ y) x r h
          rw [List.length_append] at h2
          simp only [List.length_cons]; omega
      · split at h
        · cases h
        · split at h
          · cases h
          · split at h
            · cases h
            · have h2 := jtext_len2 N f _ _ x r h
              have hle := chr_le (c :: l)
              rw [List.length_append, List.length_take, List.length_drop] at h2
              omega
theorem jbl_le (l : List UInt8) : (jbl l).length ≤ l.length := by
  obtain ⟨x, h, _⟩ := jbl_ext l
  have := congrArg List.length h
  rw [List.length_append] at this; omega
theorem jname_len {N : Nat} {ns : List ByteArray} {l r : List UInt8} {n : ByteArray} (h : jname N ns l = .ok n r) : n.size + r.length + 1 ≤ l.length := by
  cases l with
  | nil => cases h
  | cons c q =>
    rw [jname] at h
    split at h
    · cases ht : jtext N (q.length + 1) q [] with
      | bad e p => rw [ht] at h; cases h
      | ok x q2 =>
        rw [ht] at h
        have h1 := jtext_len2 N _ q [] x q2 ht
        have h2 := jbl_le q2
        simp only at h
        split at h
        · cases h
        · split at h
          · cases h
          · rename_i c2 r3 hb
            rw [hb] at h2
            have h3 := jbl_le r3
            split at h
            · obtain ⟨rfl, rfl⟩ := ok_inj h
              simp only [List.length_cons, List.length_nil] at h1 h2 ⊢
              have : (⟨x.toArray⟩ : ByteArray).size = x.length := by show x.toArray.size = _; simp
              omega
            · cases h
    · cases h
theorem strsBulk_app (a b : List ByteArray) : strsBulk (a ++ b) = strsBulk a + strsBulk b := by
  induction a with
  | nil => simp [strsBulk]
  | cons x a ih => rw [List.cons_append, strsBulk, strsBulk, ih]; omega
theorem bulks_app (a b : List JV) : JV.bulks (a ++ b) = JV.bulks a + JV.bulks b := by
  induction a with
  | nil => simp [JV.bulks]
  | cons x a ih => rw [List.cons_append, JV.bulks, JV.bulks, ih]; omega
theorem jmore_len2 {N : Nat} {f b : Bool} {e : UInt8} {l r : List UInt8} (h : jmore N f e l = .ok b r) : r.length ≤ l.length := by
  obtain ⟨x, h1, _⟩ := jmore_ok N f e l r b h
  rw [h1, List.length_append]; omega
theorem items_bulk (N : Nat) (val : List UInt8 → JR JV) (o : Bool) (hval : ∀ l t r, val l = .ok t r → t.bulk + r.length ≤ l.length) : ∀ (f : Nat) (l : List UInt8) (ns : List ByteArray) (is : List JV) (t : JV) (r : List UInt8), jitems N val o f l ns is = .ok t r → t.bulk + r.length ≤ 1 + strsBulk ns + JV.bulks is + l.length
  | 0, _, _, _, _, _, h => by rw [jitems] at h; cases h
  | f + 1, l, ns, is, t, r, h => by
    rw [jitems] at h
    split at h
    · cases h
    · rename_i r2 hm
      have h1 := jmore_len2 hm
      obtain ⟨rfl, rfl⟩ := ok_inj h
      rw [JV.bulk]
      have : (ByteArray.mk #[]).size = 0 := rfl
      omega
    · rename_i r2 hm
      have h1 := jmore_len2 hm
      split at h
      · cases hn : jname N ns r2 with
        | bad e p => rw [hn] at h; cases h
        | ok x r3 =>
          rw [hn] at h
          simp only at h
          have h2 := jname_len hn
          cases hv : val r3 with
          | bad e p => rw [hv] at h; cases h
          | ok v r4 =>
            rw [hv] at h
            have h3 := hval _ _ _ hv
            have h4 := items_bulk N val o hval f r4 _ _ t r h
            rw [strsBulk_app, bulks_app] at h4
            simp only [strsBulk, JV.bulks] at h4
            omega
      · cases hv : val r2 with
        | bad e p => rw [hv] at h; cases h
        | ok v r4 =>
          rw [hv] at h
          have h3 := hval _ _ _ hv
          have h4 := items_bulk N val o hval f r4 _ _ t r h
          rw [bulks_app] at h4
          simp only [JV.bulks] at h4
          omega
theorem flat_bulk (k n : Int) (s : ByteArray) : (JV.mk k n s [] []).bulk = 1 + s.size := by simp [JV.bulk, strsBulk, JV.bulks]
theorem head_bulk (N : Nat) (deep : Bool → List UInt8 → JR JV) (hdeep : ∀ o l t r, deep o l = .ok t r → t.bulk + r.length ≤ 1 + l.length) : ∀ l t r, jhead N deep l = .ok t r → t.bulk + r.length ≤ l.length := by
  intro l t r h
  have h0 : (ByteArray.mk #[]).size = 0 := rfl
  have word : ∀ (w l : List UInt8) (k : Int) (hw : w ≠ []) (hh : (match jword N w l with | .bad e p => (.bad e p : JR JV) | .ok _ q => .ok (jnil k) q) = .ok t r), t.bulk + r.length ≤ l.length := by
    intro w l k hw hh
    cases hj : jword N w l with
    | bad e p => rw [hj] at hh; cases hh
    | ok u q =>
      rw [hj] at hh
      obtain ⟨rfl, rfl⟩ := ok_inj hh
      obtain ⟨h1, _⟩ := jword_ok N w l _ u hj
      have := List.length_pos_iff.2 hw
      unfold jnil
      rw [flat_bulk, h1, List.length_append]
      omega
  cases l with
  | nil => cases h
  | cons c q =>
    rw [jhead] at h
    split at h
    · exact word _ _ 0 (by simp) h
    split at h
    · exact word _ _ 2 (by simp) h
    split at h
    · exact word _ _ 1 (by simp) h
    split at h
    · cases hj : jnum N (c :: q) with
      | bad e p => rw [hj] at h; cases h
      | ok n q2 =>
        rw [hj] at h
        obtain ⟨rfl, rfl⟩ := ok_inj h
        obtain ⟨x, h1, h2⟩ := jnum_ok N _ _ _ hj
        have hx : x ≠ [] := by
          intro e
          have := h2 N [] (Ext.nil _)
          rw [e] at this
          cases this
        have := List.length_pos_iff.2 hx
        rw [flat_bulk, h1, List.length_append]
        omega
    split at h
    · cases hj : jtext N (q.length + 1) q [] with
      | bad e p => rw [hj] at h; cases h
      | ok x q2 =>
        rw [hj] at h
        obtain ⟨rfl, rfl⟩ := ok_inj h
        have h1 := jtext_len2 N _ q [] x _ hj
        have : (⟨x.toArray⟩ : ByteArray).size = x.length := by show x.toArray.size = _; simp
        rw [flat_bulk, this]
        simp only [List.length_cons, List.length_nil] at h1 ⊢
        omega
    split at h
    · have := hdeep _ _ _ _ h; simp only [List.length_cons]; omega
    split at h
    · have := hdeep _ _ _ _ h; simp only [List.length_cons]; omega
    · cases h
theorem val_bulk (N : Nat) : ∀ (k : Nat) l t r, jval N k l = .ok t r → t.bulk + r.length ≤ l.length
  | 0, l, t, r, h => by
    rw [jval] at h
    exact head_bulk N _ (fun o l t r h => by cases h) l t r h
  | k + 1, l, t, r, h => by
    rw [jval] at h
    refine head_bulk N _ (fun o l t r h => ?_) l t r h
    have := items_bulk N (jval N k) o (fun l t r h => val_bulk N k l t r h) _ l [] [] t r h
    simp only [strsBulk, JV.bulks] at this
    omega
/-- what was read holds no more than its text -/
theorem jparse_bulk {bs r : List UInt8} {t : JV} (h : jparse bs = .ok t r) : t.bulk ≤ 65536 := by
  have hl := jparse_len h
  unfold jparse at h
  rw [if_neg (by omega)] at h
  cases hv : jval bs.length 64 (jbl bs) with
  | bad e p => rw [hv] at h; cases h
  | ok v q =>
    rw [hv] at h
    simp only at h
    have h1 := val_bulk _ 64 _ _ _ hv
    have h2 := jbl_le bs
    split at h
    · obtain ⟨rfl, _⟩ := ok_inj h; omega
    · cases h
end Go.Proofs.YtbkbokfegjodnaaDoor
