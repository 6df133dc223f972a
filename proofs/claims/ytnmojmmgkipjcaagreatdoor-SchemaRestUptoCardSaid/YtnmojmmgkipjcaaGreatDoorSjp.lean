/- Plain laws for SchemaJoins: a schema's rules turned; not, allOf, anyOf. Conditions: none. -/
import Derived.Test.YtnmojmmgkipjcaaGreatDoorSkeep
namespace Go.Proofs.YtnmojmmgkipjcaaGreatDoor
mutual
theorem chk_mono : ∀ (t : JV) (d d' : Int), d' ≤ d → chk t d = 0 → chk t d' = 0
  | .mk k n s ns is, d, d', hd, h => by
    rw [chk] at h ⊢
    split at h
    · exact absurd h (by decide)
    · rename_i h1
      rw [if_neg (by omega)]
      split at h
      · exact absurd h (by decide)
      · rename_i h2
        rw [if_neg h2]
        exact chkL_mono _ ns [] is d d' hd h
theorem chkL_mono : ∀ (o : Bool) (ns seen : List ByteArray) (is : List JV) (d d' : Int), d' ≤ d → chkL o ns seen is d = 0 → chkL o ns seen is d' = 0
  | o, ns, seen, [], d, d', _, _ => by rw [chkL]
  | o, ns, seen, t :: r, d, d', hd, h => by
    rw [chkL] at h ⊢
    split at h
    · exact absurd h (by decide)
    · rename_i h1
      rw [if_neg h1]
      split at h
      · exact absurd h (by decide)
      · rename_i h2
        rw [if_neg h2]
        split at h
        · rename_i h3
          rw [if_pos (chk_mono t (d + 1) (d' + 1) (by omega) h3)]
          exact chkL_mono o ns.tail _ r d d' hd h
        · contradiction
end
mutual
/-- how many rules a reader counts does not hang on where it began -/
theorem readS_shift : ∀ (t : JV) (d n m : Nat), readS t d n = .ok m → n ≤ m ∧ ∀ n', n' + (m - n) ≤ 128 → readS t d n' = .ok (n' + (m - n))
  | .mk k i s ns is, d, n, m, h => by
    rw [readS] at h
    split at h
    · rename_i h6
      split at h
      · cases h
      · rename_i h8
        obtain ⟨h1, h2⟩ := readRules_shift is ns d n m h
        exact ⟨h1, fun n' hn => by rw [readS, if_pos h6, if_neg h8]; exact h2 n' hn⟩
    · cases h
theorem readRules_shift : ∀ (is : List JV) (ns : List ByteArray) (d n m : Nat), readRules is ns d n = .ok m → n ≤ m ∧ ∀ n', n' + (m - n) ≤ 128 → readRules is ns d n' = .ok (n' + (m - n))
  | x :: is, w :: ns, d, n, m, h => by
    rw [readRules] at h
    split at h
    · cases h
    · rename_i h1
      split at h
      · cases h
      · rename_i m2 h2
        obtain ⟨a1, a2⟩ := readRule_shift x w d (n + 1) m2 h2
        obtain ⟨b1, b2⟩ := readRules_shift is ns d m2 m h
        refine ⟨by omega, fun n' hn => ?_⟩
        rw [readRules, if_neg (by omega), a2 (n' + 1) (by omega)]
        show readRules is ns d (n' + 1 + (m2 - (n + 1))) = _
        rw [b2 _ (by omega)]
        congr 1
        omega
  | [], _, _, n, m, h => by
    rw [readRules] at h
    injection h with h
    subst h
    exact ⟨Nat.le_refl _, fun n' _ => by rw [readRules]; simp⟩
  | _ :: _, [], _, n, m, h => by
    rw [readRules] at h
    injection h with h
    subst h
    exact ⟨Nat.le_refl _, fun n' _ => by rw [readRules]; simp⟩
theorem readRule_shift : ∀ (x : JV) (w : ByteArray) (d n m : Nat), readRule x w d n = .ok m → n ≤ m ∧ ∀ n', n' + (m - n) ≤ 128 → readRule x w d n' = .ok (n' + (m - n))
  | .mk k i s ns is, w, d, n, m, h => by
    rw [readRule] at h
    split at h
    · rename_i h1
      split at h
      · rename_i h6
        obtain ⟨a1, a2⟩ := readList_shift is (d + 1) n m h
        exact ⟨a1, fun n' hn => by rw [readRule, if_pos h1, if_pos h6]; exact a2 n' hn⟩
      · cases h
    · rename_i h1
      split at h
      · rename_i h2
        split at h
        · rename_i h5
          obtain ⟨a1, a2⟩ := readList_shift is (d + 1) n m h
          exact ⟨a1, fun n' hn => by rw [readRule, if_neg h1, if_pos h2, if_pos h5]; exact a2 n' hn⟩
        · cases h
      · rename_i h2
        split at h
        · rename_i h3
          split at h
          · rename_i h6
            split at h
            · cases h
            · rename_i h8
              obtain ⟨a1, a2⟩ := readRules_shift is ns (d + 1) n m h
              exact ⟨a1, fun n' hn => by rw [readRule, if_neg h1, if_neg h2, if_pos h3, if_pos h6, if_neg h8]; exact a2 n' hn⟩
          · cases h
        · rename_i h3
          unfold given at h
          split at h
          · rename_i h4
            injection h with h
            subst h
            exact ⟨Nat.le_refl _, fun n' _ => by rw [readRule, if_neg h1, if_neg h2, if_neg h3]; unfold given; rw [if_pos h4]; simp⟩
          · cases h
theorem readList_shift : ∀ (is : List JV) (d n m : Nat), readList is d n = .ok m → n ≤ m ∧ ∀ n', n' + (m - n) ≤ 128 → readList is d n' = .ok (n' + (m - n))
  | x :: is, d, n, m, h => by
    rw [readList] at h
    split at h
    · cases h
    · rename_i m2 h2
      obtain ⟨a1, a2⟩ := readS_shift x d n m2 h2
      obtain ⟨b1, b2⟩ := readList_shift is d m2 m h
      refine ⟨by omega, fun n' hn => ?_⟩
      rw [readList, a2 n' (by omega)]
      show readList is d (n' + (m2 - n)) = _
      rw [b2 _ (by omega)]
      congr 1
      omega
  | [], d, n, m, h => by
    rw [readList] at h
    injection h with h
    subst h
    exact ⟨Nat.le_refl _, fun n' _ => by rw [readList]; simp⟩
end
theorem readRules_app : ∀ (i1 : List JV) (n1 : List ByteArray) (i2 : List JV) (n2 : List ByteArray) (d n : Nat), i1.length = n1.length → readRules (i1 ++ i2) (n1 ++ n2) d n = (match readRules i1 n1 d n with | .ok m => readRules i2 n2 d m | .bad e => .bad e)
  | [], [], i2, n2, d, n, _ => by rw [List.nil_append, List.nil_append, readRules]
  | [], _ :: _, _, _, _, _, h => by simp at h
  | _ :: _, [], _, _, _, _, h => by simp at h
  | x :: i1, w :: n1, i2, n2, d, n, h => by
    rw [List.cons_append, List.cons_append, readRules, readRules]
    split
    · rfl
    · cases hr : readRule x w d (n + 1) with
      | bad e => rfl
      | ok m => exact readRules_app i1 n1 i2 n2 d m (by simpa using h)
theorem readRules_rev : ∀ (is : List JV) (ns : List ByteArray) (d n m : Nat), is.length = ns.length → m ≤ 128 → readRules is ns d n = .ok m → readRules is.reverse ns.reverse d n = .ok m
  | [], [], d, n, m, _, _, h => h
  | [], _ :: _, _, _, _, h, _, _ => by simp at h
  | _ :: _, [], _, _, _, h, _, _ => by simp at h
  | x :: is, w :: ns, d, n, m, hl, hm, h => by
    rw [readRules] at h
    split at h
    · cases h
    · rename_i h1
      split at h
      · cases h
      · rename_i m2 h2
        have hl' : is.length = ns.length := by simpa using hl
        obtain ⟨a1, a2⟩ := readRule_shift x w d (n + 1) m2 h2
        have h3 := readRules_rev is ns d m2 m hl' hm h
        obtain ⟨b1, b2⟩ := readRules_shift _ _ d m2 m h3
        rw [List.reverse_cons, List.reverse_cons, readRules_app _ _ _ _ d n (by simpa using hl'), b2 n (by omega)]
        show readRules [x] [w] d (n + (m - m2)) = _
        rw [readRules, if_neg (by omega), a2 (n + (m - m2) + 1) (by omega)]
        show readRules [] [] d _ = _
        rw [readRules]
        congr 1
        omega
theorem fault_app : ∀ (i1 : List JV) (n1 : List ByteArray) (i2 : List JV) (n2 : List ByteArray) (kn v : JV), i1.length = n1.length → (faultL (i1 ++ i2) (n1 ++ n2) kn v).isNone = ((faultL i1 n1 kn v).isNone && (faultL i2 n2 kn v).isNone)
  | [], [], i2, n2, kn, v, _ => by simp [faultL]
  | [], _ :: _, _, _, _, _, h => by simp at h
  | _ :: _, [], _, _, _, _, h => by simp at h
  | x :: i1, w :: n1, i2, n2, kn, v, h => by
    rw [List.cons_append, List.cons_append, faultL, faultL]
    cases hr : faultR x w kn v with
    | some pw => rfl
    | none => exact fault_app i1 n1 i2 n2 kn v (by simpa using h)
theorem fault_rev : ∀ (is : List JV) (ns : List ByteArray) (kn v : JV), is.length = ns.length → (faultL is.reverse ns.reverse kn v).isNone = (faultL is ns kn v).isNone
  | [], [], _, _, _ => rfl
  | [], _ :: _, _, _, h => by simp at h
  | _ :: _, [], _, _, h => by simp at h
  | x :: is, w :: ns, kn, v, h => by
    have hl : is.length = ns.length := by simpa using h
    rw [List.reverse_cons, List.reverse_cons, fault_app _ _ _ _ kn v (by simpa using hl), fault_rev is ns kn v hl]
    have h1 := fault_app [x] [w] is ns kn v rfl
    rw [List.singleton_append, List.singleton_append] at h1
    rw [h1, Bool.and_comm]
theorem hasG_app (x : ByteArray) : ∀ (n1 : List ByteArray) (i1 : List JV) (n2 : List ByteArray) (i2 : List JV), i1.length = n1.length → hasG x (n1 ++ n2) (i1 ++ i2) = (hasG x n1 i1).or (hasG x n2 i2)
  | [], [], n2, i2, _ => by simp [hasG]
  | [], _ :: _, _, _, h => by simp at h
  | _ :: _, [], _, _, h => by simp at h
  | n :: n1, t :: i1, n2, i2, h => by
    rw [List.cons_append, List.cons_append, hasG, hasG]
    split
    · rfl
    · exact hasG_app x n1 i1 n2 i2 (by simpa using h)
theorem hasG_rev (x : ByteArray) : ∀ (ns : List ByteArray) (is : List JV), is.length = ns.length → ns.Nodup → hasG x ns.reverse is.reverse = hasG x ns is
  | [], [], _, _ => rfl
  | [], _ :: _, h, _ => by simp at h
  | _ :: _, [], h, _ => by simp at h
  | n :: ns, t :: is, h, hn => by
    have hl : is.length = ns.length := by simpa using h
    obtain ⟨h1, h2⟩ := List.nodup_cons.1 hn
    rw [List.reverse_cons, List.reverse_cons, hasG_app x _ _ _ _ (by simpa using hl), hasG_rev x ns is hl h2, hasG, hasG]
    by_cases hx : n = x
    · subst hx
      rw [if_pos (bytes_eq.2 rfl), hasG_none n ns is (fun j hj _ e => h1 (by rw [← e]; exact List.getElem_mem hj))]
      simp
    · have hne : ¬ (n.toList == x.toList) = true := by rw [bytes_ne hx]; decide
      rw [if_neg hne, if_neg hne]
      simp [hasG]
theorem hasB_false {seen : List ByteArray} {n : ByteArray} : hasB seen n = false ↔ n ∉ seen := by
  unfold hasB
  rw [List.any_eq_false]
  constructor
  · intro h hm
    have := h n hm
    simp at this
  · intro h x hx he
    have e : x = n := ByteArray.ext (Array.ext' (by simpa using he))
    exact h (e ▸ hx)
theorem chkL_iff : ∀ (ns seen : List ByteArray) (is : List JV) (d : Int), is.length = ns.length → (chkL true ns seen is d = 0 ↔ (∀ n ∈ ns, Lib.validD n.data.toList = true) ∧ (∀ n ∈ ns, n ∉ seen) ∧ ns.Nodup ∧ ∀ t ∈ is, chk t (d + 1) = 0)
  | [], seen, [], d, _ => by simp [chkL]
  | [], _, _ :: _, _, h => by simp at h
  | _ :: _, _, [], _, h => by simp at h
  | n :: ns, seen, t :: is, d, h => by
    have hl : is.length = ns.length := by simpa using h
    have ih := chkL_iff ns (seen ++ [n]) is d hl
    rw [chkL]
    simp only [List.headD_cons, List.tail_cons, true_and]
    constructor
    · intro h0
      split at h0
      · exact absurd h0 (by decide)
      · rename_i h1
        split at h0
        · exact absurd h0 (by decide)
        · rename_i h2
          split at h0
          · rename_i h3
            obtain ⟨i1, i2, i3, i4⟩ := ih.1 h0
            have h2' : n ∉ seen := hasB_false.1 (by simpa using h2)
            refine ⟨fun m hm => ?_, fun m hm => ?_, List.nodup_cons.2 ⟨fun hm => ?_, i3⟩, fun u hu => ?_⟩
            · rcases List.mem_cons.1 hm with rfl | hm
              · simpa using h1
              · exact i1 m hm
            · rcases List.mem_cons.1 hm with rfl | hm
              · exact h2'
              · exact fun hs => i2 m hm (List.mem_append_left _ hs)
            · exact i2 n hm (by simp)
            · rcases List.mem_cons.1 hu with rfl | hu
              · exact h3
              · exact i4 u hu
          · rename_i h3
            exact absurd h0 h3
    · rintro ⟨i1, i2, i3, i4⟩
      obtain ⟨n1, n2⟩ := List.nodup_cons.1 i3
      rw [if_neg (by rw [i1 n (by simp)]; decide), if_neg (by rw [hasB_false.2 (i2 n (by simp))]; decide), if_pos (i4 t (by simp))]
      refine ih.2 ⟨fun m hm => i1 m (by simp [hm]), fun m hm hs => ?_, n2, fun u hu => i4 u (by simp [hu])⟩
      rcases List.mem_append.1 hs with hs | hs
      · exact i2 m (by simp [hm]) hs
      · rw [List.mem_singleton.1 hs] at hm; exact n1 hm
/-- an object with its rules turned -/
def turnedJ (a : JV) : JV := .mk 6 0 ⟨#[]⟩ a.names.reverse a.items.reverse
theorem chk_obj {k i : Int} {s : ByteArray} {ns : List ByteArray} {is : List JV} {d : Int} (h : chk (.mk k i s ns is) d = 0) (h6 : k = 6) : d ≤ 63 ∧ is.length = ns.length ∧ fitsB 6 i s ns.length is.length = true ∧ chkL true ns [] is d = 0 := by
  subst h6
  rw [chk] at h
  split at h
  · exact absurd h (by decide)
  · rename_i h1
    split at h
    · exact absurd h (by decide)
    · rename_i h2
      have hf : fitsB 6 i s ns.length is.length = true := by simpa using h2
      exact ⟨by simp [mostD] at h1; omega, (fits_len hf rfl).symm, hf, by simpa using h⟩
theorem fits_obj (n : Nat) : fitsB 6 0 ⟨#[]⟩ n n = true := by simp [fitsB]
theorem chk_mk {ns : List ByteArray} {is : List JV} {d : Int} (hd : d ≤ 63) (hl : is.length = ns.length) (hc : chkL true ns [] is d = 0) : chk (.mk 6 0 ⟨#[]⟩ ns is) d = 0 := by
  rw [chk, if_neg (by simp [mostD]; omega), if_neg (by rw [hl, fits_obj]; decide)]
  simpa using hc
theorem turned_good {a : JV} (h : goodB a = true) : goodB (turnedJ a) = true ∧ ∀ v, (faultS (turnedJ a) v).isNone = (faultS a v).isNone := by
  obtain ⟨h0, m, hr⟩ := goodB_ok h
  obtain ⟨k, i, s, ns, is⟩ := a
  have h6 : k = 6 := by
    rw [readS] at hr
    split at hr
    · assumption
    · cases hr
  obtain ⟨hd, hl, _, hc⟩ := chk_obj h0 h6
  obtain ⟨c1, _, c3, c4⟩ := (chkL_iff ns [] is 0 hl).1 hc
  subst h6
  rw [readS, if_pos rfl, if_neg (by omega)] at hr
  have hm := readRules_le is ns 0 0 m (by omega) hr
  refine ⟨?_, fun v => ?_⟩
  · have hl2 : is.reverse.length = ns.reverse.length := by simpa using hl
    have hc2 : chk (.mk 6 0 ⟨#[]⟩ ns.reverse is.reverse) 0 = 0 := chk_mk (by omega) hl2 ((chkL_iff ns.reverse [] is.reverse 0 hl2).2 ⟨fun n hn => c1 n (by simpa using hn), fun n _ => by simp, List.pairwise_reverse.2 (c3.imp (fun h => Ne.symm h)), fun t ht => c4 t (by simpa using ht)⟩)
    show goodB (.mk 6 0 ⟨#[]⟩ ns.reverse is.reverse) = true
    unfold goodB
    rw [decide_eq_true hc2, readS, if_pos rfl, if_neg (by omega), readRules_rev is ns 0 0 m hl hm.2 hr]
    rfl
  · unfold turnedJ
    rw [faultS, faultS]
    show (faultL is.reverse ns.reverse (knownJ ns.reverse is.reverse) v).isNone = _
    have hk : knownJ ns.reverse is.reverse = knownJ ns is := by unfold knownJ; rw [hasG_rev _ ns is hl c3]
    rw [hk, fault_rev is ns _ v hl]
/-- a list of two -/
def twoJ (a b : JV) : JV := .mk 5 0 ⟨#[]⟩ [] [a, b]
theorem chk_one {nm : ByteArray} {x : JV} (hv : Lib.validD nm.data.toList = true) (h : chk x 1 = 0) : chk (jobj nm x) 0 = 0 :=
  chk_mk (by omega) rfl ((chkL_iff [nm] [] [x] 0 rfl).2 ⟨fun n hn => by rw [List.mem_singleton.1 hn]; exact hv, fun _ _ => by simp, by simp, fun t ht => by rw [List.mem_singleton.1 ht]; exact h⟩)
theorem one_chk {nm : ByteArray} {x : JV} (h : chk (jobj nm x) 0 = 0) : chk x 1 = 0 :=
  ((chkL_iff [nm] [] [x] 0 rfl).1 (chk_obj h rfl).2.2.2).2.2.2 x (by simp)
theorem two_chk {a b : JV} {d : Int} (h : chk (twoJ a b) d = 0) : chk a (d + 1) = 0 ∧ chk b (d + 1) = 0 := by
  unfold twoJ at h
  rw [chk] at h
  split at h
  · exact absurd h (by decide)
  · split at h
    · exact absurd h (by decide)
    · rw [show decide ((5 : Int) = 6) = false from rfl, chkL] at h
      simp only [Bool.false_eq_true, false_and, if_false] at h
      split at h
      · rename_i h1
        rw [chkL] at h
        simp only [Bool.false_eq_true, false_and, if_false] at h
        split at h
        · rename_i h2; exact ⟨h1, h2⟩
        · contradiction
      · contradiction
theorem valid_words : Lib.validD (⟨#[110, 111, 116]⟩ : ByteArray).data.toList = true ∧ Lib.validD (⟨#[97, 108, 108, 79, 102]⟩ : ByteArray).data.toList = true ∧ Lib.validD (⟨#[97, 110, 121, 79, 102]⟩ : ByteArray).data.toList = true := by decide
theorem read_one (nm : ByteArray) (x : JV) : readS (jobj nm x) 0 0 = (match readRule x nm 0 1 with | .ok m => .ok m | .bad e => .bad e) := by
  unfold jobj
  rw [readS, if_pos rfl, if_neg (by omega), readRules, if_neg (by omega)]
  cases readRule x nm 0 (0 + 1) with
  | ok m => show readRules [] [] 0 m = _; rw [readRules]
  | bad e => rfl
theorem joins_good {a b : JV} (h : goodB (jobj ⟨#[97, 108, 108, 79, 102]⟩ (twoJ a b)) = true) : goodB (jobj ⟨#[110, 111, 116]⟩ a) = true ∧ goodB (jobj ⟨#[97, 110, 121, 79, 102]⟩ (twoJ a b)) = true := by
  obtain ⟨h0, m, hr⟩ := goodB_ok h
  have h1 := one_chk h0
  have h2 := two_chk h1
  rw [read_one] at hr
  have hall : readRule (twoJ a b) ⟨#[97, 108, 108, 79, 102]⟩ 0 1 = readList [a, b] 1 1 := by unfold twoJ; rw [readRule, if_neg (by decide), if_pos (by decide), if_pos ⟨rfl, by simp⟩]
  have hany : readRule (twoJ a b) ⟨#[97, 110, 121, 79, 102]⟩ 0 1 = readList [a, b] 1 1 := by unfold twoJ; rw [readRule, if_neg (by decide), if_pos (by decide), if_pos ⟨rfl, by simp⟩]
  rw [hall] at hr
  cases hl : readList [a, b] 1 1 with
  | bad e => rw [hl] at hr; cases hr
  | ok m1 =>
    constructor
    · unfold goodB
      rw [decide_eq_true (chk_one valid_words.1 (chk_mono a 2 1 (by omega) h2.1)), read_one]
      rw [readList] at hl
      cases ha : readS a 1 1 with
      | bad e => rw [ha] at hl; cases hl
      | ok m2 =>
        have hn : readRule a ⟨#[110, 111, 116]⟩ 0 1 = readS a 1 1 := by
          obtain ⟨k, i, s, ns, is⟩ := a
          rw [readRule, if_neg (by decide), if_neg (by decide), if_pos (by decide), readS]
        rw [hn, ha]
        rfl
    · unfold goodB
      rw [decide_eq_true (chk_one valid_words.2.2 h1), read_one, hany, hl]
      rfl
theorem fault_one (nm : ByteArray) (x v : JV) : (faultS (jobj nm x) v).isNone = (faultR x nm (knownJ [nm] [x]) v).isNone := by
  unfold jobj
  rw [faultS, faultL]
  cases faultR x nm (knownJ [nm] [x]) v with
  | some pw => rfl
  | none => simp [faultL]
theorem not_fault (a v : JV) : (faultS (jobj ⟨#[110, 111, 116]⟩ a) v).isNone = !(faultS a v).isNone := by
  rw [fault_one]
  obtain ⟨k, i, s, ns, is⟩ := a
  rw [faultR, if_neg (by decide), if_neg (by decide), if_neg (by decide), if_neg (by decide), if_pos rfl, faultS]
  cases faultL is ns (knownJ ns is) v <;> rfl
theorem all_fault (a b v : JV) : (faultS (jobj ⟨#[97, 108, 108, 79, 102]⟩ (twoJ a b)) v).isNone = ((faultS a v).isNone && (faultS b v).isNone) := by
  rw [fault_one]
  unfold twoJ
  rw [faultR, if_neg (by decide), if_neg (by decide), if_pos rfl]
  simp only [keptL, List.length_cons, List.length_nil]
  cases faultS a v <;> cases faultS b v <;> rfl
theorem any_fault (a b v : JV) : (faultS (jobj ⟨#[97, 110, 121, 79, 102]⟩ (twoJ a b)) v).isNone = ((faultS a v).isNone || (faultS b v).isNone) := by
  rw [fault_one]
  unfold twoJ
  rw [faultR, if_neg (by decide), if_pos rfl]
  simp only [keptL]
  cases faultS a v <;> cases faultS b v <;> rfl
end Go.Proofs.YtnmojmmgkipjcaaGreatDoor
