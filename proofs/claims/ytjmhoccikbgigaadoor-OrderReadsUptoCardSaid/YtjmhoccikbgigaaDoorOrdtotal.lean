/- Plain law: the order of values is total: turned round it is turned round, and it goes on. No program in sight. -/
import Derived.Test.YtjmhoccikbgigaaDoorCmpl
namespace Go.Proofs.YtjmhoccikbgigaaDoor
theorem sgn_facts (a b : Int) : (sgn a b = -1 ∧ a < b) ∨ (sgn a b = 0 ∧ a = b) ∨ (sgn a b = 1 ∧ b < a) := by
  unfold sgn
  split
  · exact .inl ⟨rfl, by assumption⟩
  · split
    · exact .inr (.inr ⟨rfl, by assumption⟩)
    · exact .inr (.inl ⟨rfl, by omega⟩)
theorem txt_anti : ∀ a b : List UInt8, txt a b = - txt b a ∧ -1 ≤ txt a b ∧ txt a b ≤ 1
  | [], [] => by simp [txt]
  | [], _ :: _ => by simp [txt]
  | _ :: _, [] => by simp [txt]
  | x :: a, y :: b => by
    have h := txt_anti a b
    rw [txt, txt]
    repeat' split
    all_goals omega
theorem txt_trans : ∀ a b c : List UInt8, txt a b ≤ 0 → txt b c ≤ 0 → txt a c ≤ 0
  | [], _, [], _, _ => by simp [txt]
  | [], _, _ :: _, _, _ => by simp [txt]
  | _ :: _, [], _, h, _ => by simp [txt] at h
  | _ :: _, _ :: _, [], _, h => by simp [txt] at h
  | x :: a, y :: b, z :: c, h1, h2 => by
    have h := txt_trans a b c
    rw [txt] at h1 h2 ⊢
    repeat' split at h1
    all_goals repeat' split at h2
    all_goals repeat' split
    all_goals omega
/-- Of three: it goes on, from each of them. -/
structure Goes {α : Type} (f : α → α → Int) (x y z : α) : Prop where
  xy : f x y = - f y x
  yz : f y z = - f z y
  xz : f x z = - f z x
  a : f x y ≤ 0 → f y z ≤ 0 → f x z ≤ 0
  b : f z x ≤ 0 → f x y ≤ 0 → f z y ≤ 0
  c : f y z ≤ 0 → f z x ≤ 0 → f y x ≤ 0
theorem goes_txt (x y z : List UInt8) : Goes txt x y z := ⟨(txt_anti _ _).1, (txt_anti _ _).1, (txt_anti _ _).1, txt_trans _ _ _, txt_trans _ _ _, txt_trans _ _ _⟩
/-- lists: turned round -/
theorem ordL_anti (m : Nat) (H : ∀ t u : JV, t.size ≤ m → u.size ≤ m → ord t u = - ord u t ∧ -1 ≤ ord t u ∧ ord t u ≤ 1) :
    ∀ a b : List JV, (∀ t ∈ a, t.size ≤ m) → (∀ t ∈ b, t.size ≤ m) → ordL a b = - ordL b a ∧ -1 ≤ ordL a b ∧ ordL a b ≤ 1
  | [], [], _, _ => by simp [ordL]
  | [], _ :: _, _, _ => by simp [ordL]
  | _ :: _, [], _, _ => by simp [ordL]
  | x :: a, y :: b, ha, hb => by
    have h := ordL_anti m H a b (fun t ht => ha t (by simp [ht])) (fun t ht => hb t (by simp [ht]))
    have h2 := H x y (ha x (by simp)) (hb y (by simp))
    rw [ordL, ordL]
    repeat' split
    all_goals omega
theorem ordL_trans (m : Nat) (H : ∀ t u v : JV, t.size ≤ m → u.size ≤ m → v.size ≤ m → Goes ord t u v) :
    ∀ a b c : List JV, (∀ t ∈ a, t.size ≤ m) → (∀ t ∈ b, t.size ≤ m) → (∀ t ∈ c, t.size ≤ m) → ordL a b ≤ 0 → ordL b c ≤ 0 → ordL a c ≤ 0
  | [], _, [], _, _, _, _, _ => by simp [ordL]
  | [], _, _ :: _, _, _, _, _, _ => by simp [ordL]
  | _ :: _, [], _, _, _, _, h, _ => by simp [ordL] at h
  | _ :: _, _ :: _, [], _, _, _, _, h => by simp [ordL] at h
  | x :: a, y :: b, z :: c, ha, hb, hc, h1, h2 => by
    have h := ordL_trans m H a b c (fun t ht => ha t (by simp [ht])) (fun t ht => hb t (by simp [ht])) (fun t ht => hc t (by simp [ht]))
    obtain ⟨e1, e2, e3, e4, e5, e6⟩ := H x y z (ha x (by simp)) (hb y (by simp)) (hc z (by simp))
    rw [ordL] at h1 h2 ⊢
    repeat' split at h1
    all_goals repeat' split at h2
    all_goals repeat' split
    all_goals omega
/-- members as pairs -/
def ordP : List (ByteArray × JV) → List (ByteArray × JV) → Int
  | [], [] => 0
  | [], _ :: _ => -1
  | _ :: _, [] => 1
  | x :: a, y :: b => if txt x.1.data.toList y.1.data.toList ≠ 0 then txt x.1.data.toList y.1.data.toList else if ord x.2 y.2 ≠ 0 then ord x.2 y.2 else ordP a b
theorem ordM_pairs : ∀ (ns : List ByteArray) (a : List JV) (ns' : List ByteArray) (b : List JV), ordM ns a ns' b = ordP (ns.zip a) (ns'.zip b)
  | [], a, ns', b => by
    rw [ordM_out (.inl rfl)]
    cases e : ns'.zip b with
    | nil =>
      have : min ns'.length b.length = 0 := by rw [← List.length_zip, e]; rfl
      simp [ordP, this, sgn]
    | cons p r =>
      have : min ns'.length b.length = r.length + 1 := by rw [← List.length_zip, e]; rfl
      rw [this]
      simp [ordP, sgn]
      try omega
  | m :: ns, [], ns', b => by
    rw [ordM_out (.inr (.inl rfl))]
    cases e : ns'.zip b with
    | nil =>
      have : min ns'.length b.length = 0 := by rw [← List.length_zip, e]; rfl
      simp [ordP, this, sgn]
    | cons p r =>
      have : min ns'.length b.length = r.length + 1 := by rw [← List.length_zip, e]; rfl
      rw [this]
      simp [ordP, sgn]
      try omega
  | m :: ns, x :: a, [], b => by
    rw [ordM_out (.inr (.inr (.inl rfl)))]
    simp [ordP, sgn]
    try omega
  | m :: ns, x :: a, m' :: ns', [] => by
    rw [ordM_out (.inr (.inr (.inr rfl)))]
    simp [ordP, sgn]
    try omega
  | m :: ns, x :: a, m' :: ns', y :: b => by
    rw [ordM, ordM_pairs ns a ns' b]
    rfl
theorem ordP_anti (m : Nat) (H : ∀ t u : JV, t.size ≤ m → u.size ≤ m → ord t u = - ord u t ∧ -1 ≤ ord t u ∧ ord t u ≤ 1) :
    ∀ a b : List (ByteArray × JV), (∀ t ∈ a, t.2.size ≤ m) → (∀ t ∈ b, t.2.size ≤ m) → ordP a b = - ordP b a ∧ -1 ≤ ordP a b ∧ ordP a b ≤ 1
  | [], [], _, _ => by simp [ordP]
  | [], _ :: _, _, _ => by simp [ordP]
  | _ :: _, [], _, _ => by simp [ordP]
  | x :: a, y :: b, ha, hb => by
    have h := ordP_anti m H a b (fun t ht => ha t (by simp [ht])) (fun t ht => hb t (by simp [ht]))
    have h2 := H x.2 y.2 (ha x (by simp)) (hb y (by simp))
    have h3 := txt_anti x.1.data.toList y.1.data.toList
    rw [ordP, ordP]
    repeat' split
    all_goals omega
theorem ordP_trans (m : Nat) (H : ∀ t u v : JV, t.size ≤ m → u.size ≤ m → v.size ≤ m → Goes ord t u v) :
    ∀ a b c : List (ByteArray × JV), (∀ t ∈ a, t.2.size ≤ m) → (∀ t ∈ b, t.2.size ≤ m) → (∀ t ∈ c, t.2.size ≤ m) → ordP a b ≤ 0 → ordP b c ≤ 0 → ordP a c ≤ 0
  | [], _, [], _, _, _, _, _ => by simp [ordP]
  | [], _, _ :: _, _, _, _, _, _ => by simp [ordP]
  | _ :: _, [], _, _, _, _, h, _ => by simp [ordP] at h
  | _ :: _, _ :: _, [], _, _, _, _, h => by simp [ordP] at h
  | x :: a, y :: b, z :: c, ha, hb, hc, h1, h2 => by
    have h := ordP_trans m H a b c (fun t ht => ha t (by simp [ht])) (fun t ht => hb t (by simp [ht])) (fun t ht => hc t (by simp [ht]))
    obtain ⟨e1, e2, e3, e4, e5, e6⟩ := H x.2 y.2 z.2 (ha x (by simp)) (hb y (by simp)) (hc z (by simp))
    obtain ⟨d1, d2, d3, d4, d5, d6⟩ := goes_txt x.1.data.toList y.1.data.toList z.1.data.toList
    rw [ordP] at h1 h2 ⊢
    generalize txt x.1.data.toList y.1.data.toList = xy at *
    generalize txt y.1.data.toList z.1.data.toList = yz at *
    generalize txt x.1.data.toList z.1.data.toList = xz at *
    generalize txt y.1.data.toList x.1.data.toList = yx at *
    generalize txt z.1.data.toList y.1.data.toList = zy at *
    generalize txt z.1.data.toList x.1.data.toList = zx at *
    by_cases q1 : xy = 0
    · by_cases q2 : yz = 0
      · have q0 : xz ≤ 0 := by omega
        by_cases q3 : xz = 0
        · simp only [q1, q2, q3, ne_eq, not_true_eq_false, if_false] at h1 h2 ⊢
          repeat' split at h1
          all_goals repeat' split at h2
          all_goals repeat' split
          all_goals omega
        · rw [if_pos q3]; exact q0
      · have q3 : xz < 0 := by rw [if_pos q2] at h2; omega
        rw [if_pos (by omega)]; omega
    · have q4 : xy < 0 := by rw [if_pos q1] at h1; omega
      have q5 : yz ≤ 0 := by by_cases q2 : yz = 0; (· omega); (· rw [if_pos q2] at h2; omega)
      have q3 : xz < 0 := by omega
      rw [if_pos (by omega)]; omega
theorem rank_is (k : Int) : (rankK k = 1 ↔ k = 3) ∧ (rankK k = 2 ↔ k = 4) ∧ (rankK k = 4 ↔ k = 5) ∧ (rankK k = 3 ↔ k = 6) := by
  unfold rankK
  repeat' split
  all_goals refine ⟨⟨fun h => ?_, fun h => ?_⟩, ⟨fun h => ?_, fun h => ?_⟩, ⟨fun h => ?_, fun h => ?_⟩, ⟨fun h => ?_, fun h => ?_⟩⟩
  all_goals omega
/-- within a rank -/
def body (k : Int) : JV → JV → Int
  | .mk _ n s ns is, .mk _ n' s' ns' is' => if k = 3 then sgn n n' else if k = 4 then txt s.data.toList s'.data.toList else if k = 5 then ordL is is' else if k = 6 then ordP (ns.zip is) (ns'.zip is') else 0
theorem ord_body (t u : JV) : ord t u = if sgn (rankK t.kind) (rankK u.kind) ≠ 0 then sgn (rankK t.kind) (rankK u.kind) else body t.kind t u := by
  cases t with
  | mk k n s ns is =>
  cases u with
  | mk k' n' s' ns' is' =>
  rw [ord, body, ordM_pairs]
  rfl
theorem body_same {k k' : Int} (h : rankK k = rankK k') (t u : JV) : body k t u = body k' t u := by
  obtain ⟨a1, a2, a3, a4⟩ := rank_is k
  obtain ⟨b1, b2, b3, b4⟩ := rank_is k'
  rw [h] at a1 a2 a3 a4
  cases t with
  | mk _ n s ns is =>
  cases u with
  | mk _ n' s' ns' is' =>
  have c3 : k = 3 ↔ k' = 3 := a1.symm.trans b1
  have c4 : k = 4 ↔ k' = 4 := a2.symm.trans b2
  have c5 : k = 5 ↔ k' = 5 := a3.symm.trans b3
  have c6 : k = 6 ↔ k' = 6 := a4.symm.trans b4
  simp only [body, c3, c4, c5, c6]
theorem items_size {k n : Int} {s : ByteArray} {ns : List ByteArray} {is : List JV} {m : Nat} (h : (JV.mk k n s ns is).size ≤ m + 1) : (∀ t ∈ is, t.size ≤ m) ∧ (∀ p ∈ ns.zip is, p.2.size ≤ m) := by
  have h1 : ∀ t ∈ is, t.size ≤ m := fun t ht => by have := JV.size_le ht; rw [JV.size] at h; omega
  exact ⟨h1, fun p hp => h1 p.2 (List.of_mem_zip hp).2⟩
theorem ord_anti_all (m : Nat) : ∀ t u : JV, t.size ≤ m → u.size ≤ m → ord t u = - ord u t ∧ -1 ≤ ord t u ∧ ord t u ≤ 1 := by
  induction m with
  | zero => intro t _ hm; have := JV.size_pos t; omega
  | succ m ih =>
    intro t u ht hu
    have hb : ∀ k : Int, body k t u = - body k u t ∧ -1 ≤ body k t u ∧ body k t u ≤ 1 := by
      intro k
      cases t with
      | mk k0 n s ns is =>
      cases u with
      | mk k0' n' s' ns' is' =>
      have h1 := sgn_facts n n'
      have h2 := sgn_facts n' n
      have h3 := txt_anti s.data.toList s'.data.toList
      have h4 := ordL_anti m ih is is' (items_size ht).1 (items_size hu).1
      have h5 := ordP_anti m ih (ns.zip is) (ns'.zip is') (items_size ht).2 (items_size hu).2
      rw [body, body]
      repeat' split
      all_goals omega
    rw [ord_body t u, ord_body u t]
    have h1 := sgn_facts (rankK t.kind) (rankK u.kind)
    have h2 := sgn_facts (rankK u.kind) (rankK t.kind)
    have h3 := hb t.kind
    by_cases e : rankK t.kind = rankK u.kind
    · have h4 := body_same e u t
      rw [if_neg (by omega), if_neg (by omega)]
      omega
    · rw [if_pos (by omega), if_pos (by omega)]
      omega
theorem ord_anti (t u : JV) : ord t u = - ord u t ∧ -1 ≤ ord t u ∧ ord t u ≤ 1 := ord_anti_all (t.size + u.size) t u (by omega) (by omega)
theorem ord_trans_all (m : Nat) : ∀ t u v : JV, t.size ≤ m → u.size ≤ m → v.size ≤ m → ord t u ≤ 0 → ord u v ≤ 0 → ord t v ≤ 0 := by
  induction m with
  | zero => intro t _ _ hm; have := JV.size_pos t; omega
  | succ m ih =>
    have hg : ∀ t u v : JV, t.size ≤ m → u.size ≤ m → v.size ≤ m → Goes ord t u v := fun t u v h1 h2 h3 =>
      ⟨(ord_anti _ _).1, (ord_anti _ _).1, (ord_anti _ _).1, ih _ _ _ h1 h2 h3, ih _ _ _ h3 h1 h2, ih _ _ _ h2 h3 h1⟩
    intro t u v ht hu hv h1 h2
    have hb : ∀ k : Int, body k t u ≤ 0 → body k u v ≤ 0 → body k t v ≤ 0 := by
      intro k
      cases t with
      | mk k0 n s ns is =>
      cases u with
      | mk k0' n' s' ns' is' =>
      cases v with
      | mk k0'' n'' s'' ns'' is'' =>
      rw [body, body, body]
      have g1 := sgn_facts n n'
      have g2 := sgn_facts n' n''
      have g3 := sgn_facts n n''
      have g4 := txt_trans s.data.toList s'.data.toList s''.data.toList
      have g5 := ordL_trans m hg is is' is'' (items_size ht).1 (items_size hu).1 (items_size hv).1
      have g6 := ordP_trans m hg (ns.zip is) (ns'.zip is') (ns''.zip is'') (items_size ht).2 (items_size hu).2 (items_size hv).2
      by_cases e3 : k = 3
      · simp only [e3, if_true]; omega
      · rw [if_neg e3, if_neg e3, if_neg e3]
        by_cases e4 : k = 4
        · simp only [e4, if_true]; exact g4
        · rw [if_neg e4, if_neg e4, if_neg e4]
          by_cases e5 : k = 5
          · simp only [e5, if_true]; exact g5
          · rw [if_neg e5, if_neg e5, if_neg e5]
            by_cases e6 : k = 6
            · simp only [e6, if_true]; exact g6
            · rw [if_neg e6, if_neg e6, if_neg e6]; omega
    rw [ord_body] at h1 h2 ⊢
    have s1 := sgn_facts (rankK t.kind) (rankK u.kind)
    have s2 := sgn_facts (rankK u.kind) (rankK v.kind)
    have s3 := sgn_facts (rankK t.kind) (rankK v.kind)
    by_cases e1 : rankK t.kind = rankK u.kind
    · by_cases e2 : rankK u.kind = rankK v.kind
      · rw [if_neg (by omega)] at h1 h2 ⊢
        rw [← body_same e1] at h2
        exact hb _ h1 h2
      · rw [if_pos (by omega)] at h2
        rw [if_pos (by omega)]
        omega
    · rw [if_pos (by omega)] at h1
      by_cases e2 : rankK u.kind = rankK v.kind
      · rw [if_pos (by omega)]; omega
      · rw [if_pos (by omega)] at h2
        rw [if_pos (by omega)]; omega
theorem ord_trans (t u v : JV) (h1 : ord t u ≤ 0) (h2 : ord u v ≤ 0) : ord t v ≤ 0 := ord_trans_all (t.size + u.size + v.size) t u v (by omega) (by omega) (by omega) h1 h2
end Go.Proofs.YtjmhoccikbgigaaDoor
