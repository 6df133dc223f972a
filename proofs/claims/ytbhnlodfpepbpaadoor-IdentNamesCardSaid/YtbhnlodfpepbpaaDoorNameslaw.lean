/- The walks of IdentNames and IdentKeys. Conditions: the tables hold their numbers; lengths add up to an int. -/
import Derived.Test.YtbhnlodfpepbpaaDoorPartlaw
import Derived.Test.YtbhnlodfpepbpaaDoorLive
import Derived.WalkSpells
import Derived.WalkLawsBesides
import Derived.Handy
import Derived.BigQuiet
namespace Go.Proofs.YtbhnlodfpepbpaaDoor
open Go.RowKit
set_option maxHeartbeats 2000000 in
theorem names_walk (s a : ByteArray) (hs : s.size ≤ maxLen) (h : a.size + 1 + s.size ≤ 9223372036854775807) (w : World) (t : Tabs w) :
    Calls Tryd.prog 8 #[.string s, .string a] w fun e w' => e = .returned (.bool true) ∧ Below w.heap.size w w' := by
  have hj := join_c a s h
  have h1 := fun w => run_string_add_sum (P := Tryd.prog) w a ⟨#[47]⟩ (by show a.size + 1 ≤ _; omega)
  have h2 := fun w => run_string_add_sum (P := Tryd.prog) w (a ++ ⟨#[47]⟩) s (by rw [ByteArray.size_append]; show a.size + 1 + s.size ≤ _; omega)
  have hp := part_c s hs
  have hq := refPart_c s hs
  clear h
  generalize a ++ ⟨#[47]⟩ = c at *
  generalize c ++ s = d at *
  generalize partR s = p at *
  obtain ⟨pa, pb, pc⟩ := p
  go_enter Tryd.func8, Tryd.ntmps8
  go_wp2_with fail
  refine (hp _).mono ?_; rintro e w1 ⟨rfl, n1, rfl⟩
  go_wp2_with fail
  refine (hq _).mono ?_; rintro e w1 ⟨rfl, n2, rfl⟩
  clear hp hq
  go_wp2_with fail
  refine (id_c s hs _).mono ?_; rintro e w1 ⟨rfl, rfl⟩
  go_wp2_with fail
  refine (refId_c s hs _).mono ?_; rintro e w1 ⟨rfl, rfl⟩
  go_wp2_with fail
  refine (name_c s hs _).mono ?_; rintro e w1 ⟨rfl, rfl⟩
  go_wp2_with fail
  refine (refName_c s hs _).mono ?_; rintro e w1 ⟨rfl, rfl⟩
  go_wp2_with fail
  refine (hj _).mono ?_; rintro e w1 ⟨rfl, rfl⟩
  clear hj
  go_wp2_with fail
  refine (live_c _ (tabs_drewN t _)).mono ?_; rintro e w1 ⟨rfl, hb⟩
  go_wp2
  go_ret
  exact ⟨rfl, below_trans (below_drewN' _ _) hb⟩
/-- a name's bytes are none of them a slash -/
theorem name_no_slash {s : ByteArray} (h : nameB s.data.toList = true) (k : Nat) (hk : k < s.size) : s[k].toNat ≠ 47 := by
  rw [name_all, Bool.and_eq_true, decide_eq_true_iff] at h
  have h1 := h.1 k (by simpa using hk)
  rw [getE s k hk] at h1
  intro e
  simp [namec, letc, othc, e] at h1
theorem key_list (a b : ByteArray) : (a ++ ⟨#[47]⟩ ++ b).data.toList = a.data.toList ++ 47 :: b.data.toList := by
  simp [ByteArray.data_append]
theorem index_at (l : List UInt8) (c : UInt8) (r : List UInt8) (h : ∀ x ∈ l, x ≠ c) : Lib.indexByte (l ++ c :: r) c = (l.length : Int) := by
  induction l with
  | nil => simp [Lib.indexByte]
  | cons x l ih =>
    have h1 : (x == c) = false := by simpa using h x (by simp)
    have h2 := ih (fun y hy => h y (by simp [hy]))
    simp only [List.cons_append, Lib.indexByte, h1, h2]
    rw [show (((l.length : Int) == -1) = false) by simp]
    simp
theorem drop_key (l r : List UInt8) (c : UInt8) : (l ++ c :: r).drop (l.length + 1) = r := by
  induction l with
  | nil => rfl
  | cons x l ih => exact ih
theorem part_key {a b : ByteArray} (ha : nameB a.data.toList = true) (hb : idB b.data.toList = true) : partR (a ++ ⟨#[47]⟩ ++ b) = (a, b, true) := by
  have hsl : slash (a ++ ⟨#[47]⟩ ++ b) = (a.size : Int) := by
    unfold slash
    rw [key_list, index_at]
    · simp
    · intro x hx
      obtain ⟨k, hk, rfl⟩ := List.mem_iff_getElem.1 hx
      have hk' : k < a.size := by simpa using hk
      have := name_no_slash ha k hk'
      rw [getE a k hk']
      intro e
      exact this (by rw [e]; rfl)
  have h1 : headS (a ++ ⟨#[47]⟩ ++ b) a.size = a := by
    unfold headS
    apply ByteArray.ext
    apply Array.ext'
    rw [ByteArray.data_extract, Array.toList_extract]
    simp [ByteArray.data_append]
  have h2 : tailS (a ++ ⟨#[47]⟩ ++ b) a.size = b := by
    unfold tailS
    apply ByteArray.ext
    apply Array.ext'
    rw [ByteArray.data_extract, Array.toList_extract, key_list, List.extract_eq_take_drop, show a.size = a.data.toList.length by simp, drop_key, List.take_of_length_le]
    rw [ByteArray.size_append, ByteArray.size_append]
    simp
    show b.size ≤ a.size + 1 + b.size - (a.size + 1)
    omega
  have h3 := part_ok hsl (by rw [h1]; exact ha) (by rw [h2]; exact hb)
  rw [h3, h1, h2]
theorem key_beq {a b c d : ByteArray} (ha : nameB a.data.toList = true) (hb : idB b.data.toList = true) (hc : nameB c.data.toList = true) (hd : idB d.data.toList = true) :
    ((a ++ ⟨#[47]⟩ ++ b).toList == (c ++ ⟨#[47]⟩ ++ d).toList) = ((a.toList == c.toList) && (b.toList == d.toList)) := by
  simp only [ByteArray.toList_eq]
  rw [Bool.eq_iff_iff, beq_iff_eq, Bool.and_eq_true, beq_iff_eq, beq_iff_eq]
  constructor
  · intro h
    have e : a ++ ⟨#[47]⟩ ++ b = c ++ ⟨#[47]⟩ ++ d := ByteArray.ext (Array.ext' h)
    have h1 := part_key ha hb
    rw [e, part_key hc hd] at h1
    simp only [Prod.mk.injEq, and_true] at h1
    exact ⟨by rw [h1.1], by rw [h1.2]⟩
  · rintro ⟨h1, h2⟩
    rw [key_list, key_list, h1, h2]
theorem name_len {s : ByteArray} (h : nameB s.data.toList = true) : s.size ≤ 32 := by
  rw [name_all] at h; simp at h; have := s.size_data; omega
theorem id_len {s : ByteArray} (h : idB s.data.toList = true) : s.size ≤ 64 := by
  unfold idB at h; simp at h; have := s.size_data; omega
set_option maxHeartbeats 4000000 in
theorem keys_walk (a b c d : ByteArray) (ha : a.size ≤ maxLen) (hb : b.size ≤ maxLen) (hc : c.size ≤ maxLen) (hd : d.size ≤ maxLen) (w : World) (t : Tabs w) :
    Calls Tryd.prog 9 #[.agg #[.string a, .string b, .string c, .string d]] w fun e w' => e = .returned (.bool true) ∧ Below w.heap.size w w' := by
  have n1 := name_c a ha
  have n2 := id_c b hb
  have n3 := name_c c hc
  have n4 := id_c d hd
  have hb0 : ∀ nq, Below w.heap.size w ((w.alloc (.cells #[.string a, .string b, .string c, .string d] 57)).drewN nq) := fun nq => below_drewN ((Below.refl _ _).alloc (Nat.le_refl _) _) _
  by_cases h1 : nameB a.data.toList = true
  case neg =>
    rw [show nameB a.data.toList = false by simpa using h1] at n1
    clear h1
    go_enter Tryd.func9, Tryd.ntmps9
    go_wp2_with fail
    go_quiet (fail)
    have hB := hb0 nq
    have t1 := tabs_below t hB
    clear hb0
    go_wp2_with fail
    refine (n1 _).mono ?_; rintro e w1 ⟨rfl, rfl⟩
    go_wp2_with fail
    refine (live_c _ t1).mono ?_; rintro e w1 ⟨rfl, hl⟩
    go_wp2
    go_ret
    exact ⟨rfl, below_trans hB hl⟩
  by_cases h2 : idB b.data.toList = true
  case neg =>
    rw [h1] at n1
    rw [show idB b.data.toList = false by simpa using h2] at n2
    clear h1 h2
    go_enter Tryd.func9, Tryd.ntmps9
    go_wp2_with fail
    go_quiet (fail)
    have hB := hb0 nq
    have t1 := tabs_below t hB
    clear hb0
    go_wp2_with fail
    refine (n1 _).mono ?_; rintro e w1 ⟨rfl, rfl⟩
    go_wp2_with fail
    refine (n2 _).mono ?_; rintro e w1 ⟨rfl, rfl⟩
    go_wp2_with fail
    refine (live_c _ t1).mono ?_; rintro e w1 ⟨rfl, hl⟩
    go_wp2
    go_ret
    exact ⟨rfl, below_trans hB hl⟩
  by_cases h3 : nameB c.data.toList = true
  case neg =>
    rw [h1] at n1
    rw [h2] at n2
    rw [show nameB c.data.toList = false by simpa using h3] at n3
    clear h1 h2 h3
    go_enter Tryd.func9, Tryd.ntmps9
    go_wp2_with fail
    go_quiet (fail)
    have hB := hb0 nq
    have t1 := tabs_below t hB
    clear hb0
    go_wp2_with fail
    refine (n1 _).mono ?_; rintro e w1 ⟨rfl, rfl⟩
    go_wp2_with fail
    refine (n2 _).mono ?_; rintro e w1 ⟨rfl, rfl⟩
    go_wp2_with fail
    refine (n3 _).mono ?_; rintro e w1 ⟨rfl, rfl⟩
    go_wp2_with fail
    refine (live_c _ t1).mono ?_; rintro e w1 ⟨rfl, hl⟩
    go_wp2
    go_ret
    exact ⟨rfl, below_trans hB hl⟩
  by_cases h4 : idB d.data.toList = true
  case neg =>
    rw [h1] at n1
    rw [h2] at n2
    rw [h3] at n3
    rw [show idB d.data.toList = false by simpa using h4] at n4
    clear h1 h2 h3 h4
    go_enter Tryd.func9, Tryd.ntmps9
    go_wp2_with fail
    go_quiet (fail)
    have hB := hb0 nq
    have t1 := tabs_below t hB
    clear hb0
    go_wp2_with fail
    refine (n1 _).mono ?_; rintro e w1 ⟨rfl, rfl⟩
    go_wp2_with fail
    refine (n2 _).mono ?_; rintro e w1 ⟨rfl, rfl⟩
    go_wp2_with fail
    refine (n3 _).mono ?_; rintro e w1 ⟨rfl, rfl⟩
    go_wp2_with fail
    refine (n4 _).mono ?_; rintro e w1 ⟨rfl, rfl⟩
    go_wp2_with fail
    refine (live_c _ t1).mono ?_; rintro e w1 ⟨rfl, hl⟩
    go_wp2
    go_ret
    exact ⟨rfl, below_trans hB hl⟩
  have j1 := join_c a b (by have := name_len h1; have := id_len h2; omega)
  have j2 := join_c c d (by have := name_len h3; have := id_len h4; omega)
  have p1 := part_c (a ++ ⟨#[47]⟩ ++ b) (by rw [ByteArray.size_append, ByteArray.size_append]; show a.size + 1 + b.size ≤ maxLen; have := name_len h1; have := id_len h2; unfold maxLen; omega)
  rw [part_key h1 h2] at p1
  have hk := key_beq h1 h2 h3 h4
  rw [h1] at n1
  rw [h2] at n2
  rw [h3] at n3
  rw [h4] at n4
  clear h1 h2 h3 h4
  generalize a ++ ⟨#[47]⟩ ++ b = x at *
  generalize c ++ ⟨#[47]⟩ ++ d = y at *
  go_enter Tryd.func9, Tryd.ntmps9
  go_wp2_with fail
  go_quiet (fail)
  go_wp2_with fail
  refine (n1 _).mono ?_; rintro e w1 ⟨rfl, rfl⟩
  go_wp2_with fail
  refine (n2 _).mono ?_; rintro e w1 ⟨rfl, rfl⟩
  go_wp2_with fail
  refine (n3 _).mono ?_; rintro e w1 ⟨rfl, rfl⟩
  go_wp2_with fail
  refine (n4 _).mono ?_; rintro e w1 ⟨rfl, rfl⟩
  go_wp2_with fail
  refine (j1 _).mono ?_; rintro e w1 ⟨rfl, rfl⟩
  go_wp2_with fail
  refine (p1 _).mono ?_; rintro e w1 ⟨rfl, n5, rfl⟩
  go_wp2_with fail
  refine (j2 _).mono ?_; rintro e w1 ⟨rfl, rfl⟩
  clear j1 j2 p1 n1 n2 n3 n4
  rcases Bool.eq_false_or_eq_true (a.toList == c.toList) with hac | hac <;> rcases Bool.eq_false_or_eq_true (b.toList == d.toList) with hbd | hbd
  · have hk2 : (x.toList == y.toList) = true := by rw [hk, hac, hbd]; rfl
    clear hk
    go_wp2_with fail
    refine (live_c _ (tabs_below t (hb0 _))).mono ?_; rintro e w1 ⟨rfl, hl⟩
    go_wp2
    go_ret
    exact ⟨rfl, below_trans (hb0 _) hl⟩
  · have hk2 : (x.toList == y.toList) = false := by rw [hk, hac, hbd]; rfl
    clear hk
    go_wp2_with fail
    refine (live_c _ (tabs_below t (hb0 _))).mono ?_; rintro e w1 ⟨rfl, hl⟩
    go_wp2
    go_ret
    exact ⟨rfl, below_trans (hb0 _) hl⟩
  · have hk2 : (x.toList == y.toList) = false := by rw [hk, hac, hbd]; rfl
    clear hk
    go_wp2_with fail
    refine (live_c _ (tabs_below t (hb0 _))).mono ?_; rintro e w1 ⟨rfl, hl⟩
    go_wp2
    go_ret
    exact ⟨rfl, below_trans (hb0 _) hl⟩
  · have hk2 : (x.toList == y.toList) = false := by rw [hk, hac, hbd]; rfl
    clear hk
    go_wp2_with fail
    refine (live_c _ (tabs_below t (hb0 _))).mono ?_; rintro e w1 ⟨rfl, hl⟩
    go_wp2
    go_ret
    exact ⟨rfl, below_trans (hb0 _) hl⟩
end Go.Proofs.YtbhnlodfpepbpaaDoor
