/- The walks of Has, both. Conditions: what the tree holds is at most 2 to the 40. -/
import Derived.Test.YtnmojmmgkipjcaaGreatDoorFcopyp
import Derived.Test.YtnmojmmgkipjcaaGreatDoorShelf
import Derived.Test.YtnmojmmgkipjcaaGreatDoorJkit
import Derived.Test.YtnmojmmgkipjcaaGreatDoorHasp
namespace Go.Proofs.YtnmojmmgkipjcaaGreatDoor
open Go.RowKit
/-- What Has answers. -/
def HasPost (w : World) (res : Option JV) (e : Ending) (w' : World) : Prop := ∃ an cn ai ci, e = .returned (.tuple #[.agg #[.int .i64 (res.getD (jnil 0)).kind, .int .i64 (res.getD (jnil 0)).int, .string (res.getD (jnil 0)).text, .slice an (res.getD (jnil 0)).names.length cn, .slice ai (res.getD (jnil 0)).items.length ci], .bool res.isSome]) ∧
  Rep w' (fun b => w.heap.size ≤ b) (res.getD (jnil 0)) [.int .i64 (res.getD (jnil 0)).kind, .int .i64 (res.getD (jnil 0)).int, .string (res.getD (jnil 0)).text, .slice an (res.getD (jnil 0)).names.length cn, .slice ai (res.getD (jnil 0)).items.length ci] ∧ Below w.heap.size w w'
theorem has_none {w w' : World} {res : Option JV} {v : Value} (h : res = none) (hv : v = .tuple #[.agg #[.int .i64 0, .int .i64 0, .string ⟨#[]⟩, .slice none 0 0, .slice none 0 0], .bool false]) (hb : Below w.heap.size w w') : HasPost w res (.returned v) w' := by
  subst h; subst hv
  exact ⟨none, 0, none, 0, rfl, rep_flat 0 0 ⟨#[]⟩ (by omega) (by omega) (Nat.zero_le _) _ _, hb⟩
theorem has_some {w w' : World} {res : Option JV} {u : JV} {v : Value} {an ai : Option Addr} {cn ci : Nat} (h : res = some u) (hv : v = .tuple #[.agg #[.int .i64 u.kind, .int .i64 u.int, .string u.text, .slice an u.names.length cn, .slice ai u.items.length ci], .bool true])
    (hr : Rep w' (fun b => w.heap.size ≤ b) u [.int .i64 u.kind, .int .i64 u.int, .string u.text, .slice an u.names.length cn, .slice ai u.items.length ci]) (hb : Below w.heap.size w w') : HasPost w res (.returned v) w' := by
  subst h; subst hv
  exact ⟨an, cn, ai, ci, rfl, hr, hb⟩
theorem index_c (w : World) (ok : Nat → Prop) (a : Option Addr) (ns : List ByteArray) (c : Nat) (x : ByteArray) (hst : StrsAt w ok a ns) (hb : ns.length ≤ 9223372036854775807) :
    Calls Tryz.prog 88 #[.slice a ns.length c, .string x] w fun e w' => e = .returned (.int .i64 (Lib.idxOfS ns x)) ∧ w' = w := by
  rcases hst with rfl | ⟨b, o, rfl, _, hl⟩
  · exact Tryz.slices_Index_string_empty a c x w
  · refine (Tryz.slices_Index_string b o ns.length c ns x w (Nat.le_refl _) hb (fun j hj => hl j _ (by simp [hj]))).mono ?_
    rintro e w' ⟨rfl, rfl⟩
    rw [List.take_length]
    exact ⟨rfl, rfl⟩
theorem idx_hit {ns : List ByteArray} {x : ByteArray} {i : Nat} (h : i < ns.length) (hx : ns[i] = x) (hne : ∀ j (hj : j < ns.length), j < i → ns[j] ≠ x) : Lib.idxOfS ns x = (i : Int) := by
  have := Lib.idxOfS_hit ns ns.length i x h (Nat.le_refl _) (by simp [List.getD, h, hx]) (fun j hj => by have hj2 : j < ns.length := by omega
                                                                                                         have := hne j hj2 hj; simpa [List.getD, hj2] using this)
  rwa [List.take_length] at this
theorem idx_miss {ns : List ByteArray} {x : ByteArray} (hne : ∀ j (hj : j < ns.length), ns[j] ≠ x) : Lib.idxOfS ns x = -1 := by
  have := Lib.idxOfS_miss ns ns.length x (fun j hj => by have := hne j hj; simpa [List.getD, hj] using this)
  rwa [List.take_length] at this
set_option maxRecDepth 20000 in
set_option maxHeartbeats 8000000 in
theorem has_c (t : JV) (x : ByteArray) (cs : List Value) (w : World) (ok : Nat → Prop) (hr : Rep w ok t cs) (hbk : t.bulk ≤ 1099511627776) : Calls Tryz.prog 72 #[.agg cs.toArray, .string x] w (HasPost w (hasJ t x)) := by
  cases t with
  | mk k n s ns is =>
  rw [rep_mk] at hr
  obtain ⟨hk, hn, hs, an, cn, ai, ci, rfl, hcn, hci, hst, hit⟩ := hr
  unfold maxLen at hcn hci
  rw [JV.bulk] at hbk
  obtain ⟨a0, a1, a2, a3, a4⟩ := cells5' w (.int .i64 k) (.int .i64 n) (.string s) (.slice an ns.length cn) (.slice ai is.length ci) 25
  have hb0 : Below w.heap.size w (w.alloc (.cells #[.int .i64 k, .int .i64 n, .string s, .slice an ns.length cn, .slice ai is.length ci] 25)) := (Below.refl _ _).alloc (Nat.le_refl _) _
  have hb9 : Below ((w.alloc (.cells #[.int .i64 k, .int .i64 n, .string s, .slice an ns.length cn, .slice ai is.length ci] 25))).heap.size (w.alloc (.cells #[.int .i64 k, .int .i64 n, .string s, .slice an ns.length cn, .slice ai is.length ci] 25)) ((w.alloc (.cells #[.int .i64 k, .int .i64 n, .string s, .slice an ns.length cn, .slice ai is.length ci] 25)).alloc (.cells #[.int .i64 0, .int .i64 0, .string ⟨#[]⟩, .slice none 0 0, .slice none 0 0] 25)) := (Below.refl _ _).alloc (Nat.le_refl _) _
  have A0 := cell_below hb9 a0
  have A1 := cell_below hb9 a1
  have A2 := cell_below hb9 a2
  have A3 := cell_below hb9 a3
  have A4 := cell_below hb9 a4
  have hRX : (((w.alloc (.cells #[.int .i64 k, .int .i64 n, .string s, .slice an ns.length cn, .slice ai is.length ci] 25)).alloc (.cells #[.int .i64 0, .int .i64 0, .string ⟨#[]⟩, .slice none 0 0, .slice none 0 0] 25))).heap[w.heap.size + 1]? = some (.cells #[.int .i64 0, .int .i64 0, .string ⟨#[]⟩, .slice none 0 0, .slice none 0 0] 25) := by have := heap_alloc_new (w.alloc (.cells #[.int .i64 k, .int .i64 n, .string s, .slice an ns.length cn, .slice ai is.length ci] 25)) (.cells #[.int .i64 0, .int .i64 0, .string ⟨#[]⟩, .slice none 0 0, .slice none 0 0] 25); simpa only [World.size_alloc] using this
  have hB2 := below_trans hb0 hb9
  have HIT := Lib.hid (hit.below hB2)
  have hst2 := hst.below hB2
  have HB2 := Lib.hid hB2
  have HRX := Lib.hid hRX
  obtain ⟨⟨t0, t1, t2, t3, t4⟩, f0, f1, f2, f3, f4⟩ := cellsOf5 hRX
  clear hst hit hk hn hs hb0 hb9 a0 a1 a2 a3 a4 hB2 hRX
  by_cases h6 : k = 6
  case neg =>
    have HJ := Lib.hid (show hasJ (.mk k n s ns is) x = none from if_neg h6)
    have hne : (k != 6) = true := by simp [h6]
    clear hst2
    go_enter Tryz.func72, Tryz.ntmps72
    go_wp2
    refine bodyPost_ret (results_ct rfl _ _ (w.heap.size + 1) 25 _ (0, 0) _ (by rfl) HRX.out Tryz.underlying25 rfl (by kernel_rfl)) rfl ?_
    exact has_none HJ.out rfl HB2.out
  subst h6
  have hix := index_c ((w.alloc (.cells #[.int .i64 6, .int .i64 n, .string s, .slice an ns.length cn, .slice ai is.length ci] 25)).alloc (.cells #[.int .i64 0, .int .i64 0, .string ⟨#[]⟩, .slice none 0 0, .slice none 0 0] 25)) ok an ns cn x hst2 (by omega)
  have fin : ∀ j, ns.length ≤ j ∨ is.length ≤ j ∨ (j < ns.length ∧ j < is.length) := fun j => by omega
  rcases first_or x ns with ⟨i, hi, hx, hfi⟩ | hno
  · rw [idx_hit hi hx hfi] at hix
    by_cases hil : i < is.length
    · have HJ := Lib.hid (show hasJ (.mk 6 n s ns is) x = some is[i] from (if_pos rfl).trans (hasG_at x ns is i hi hil hx hfi))
      rcases HIT.out with rfl | ⟨b, off, rfl, _, hall⟩
      · simp at hil
      obtain ⟨us, hru, hlu⟩ := hall.at i hil
      have hbu : is[i].bulk ≤ 1099511627776 := by have h1 := JV.bulk_le (List.getElem_mem hil); omega
      obtain ⟨xan, xcn, xai, xci, rfl⟩ := hru.form
      obtain ⟨l0, l1, l2, l3, l4⟩ := lie5 hlu
      have hcp := pcopy_c is[i] _ _ ok hru hbu
      generalize is[i] = u at *
      have n1 : ¬ (i : Int) < 0 := by omega
      have n2 : ¬ (is.length : Int) ≤ (i : Int) := by omega
      have n3 : (i : Int) < (is.length : Int) := by omega
      clear hst2 hall hlu hru hx hfi fin
      go_enter Tryz.func72, Tryz.ntmps72
      go_wp2_with fail
      refine hix.mono ?_; rintro e w' ⟨rfl, rfl⟩
      go_wp2_with fail
      refine hcp.mono ?_; rintro e w1 ⟨yan, ycn, yai, yci, F, rfl, hrep, hnd, hfr, hb1⟩
      have hrx1 := (hb1.block (w.heap.size + 1) (by simp only [World.size_alloc]; omega)).trans HRX.out
      obtain ⟨⟨e0, e1, e2, e3, e4⟩, g0, g1, g2, g3, g4⟩ := cellsOf5 hrx1
      have HR1 := Lib.hid (And.intro hrep (And.intro hfr (And.intro hrx1 (HB2.out.trans (hb1.mono HB2.out.size)))))
      clear hix hcp hrep hnd hfr hb1 hrx1 l0 l1 l2 l3 l4 t0 t1 t2 t3 t4 f0 f1 f2 f3 f4
      go_wp2
      obtain ⟨hrep, hfr, hrx1, hbl⟩ := HR1.out
      refine bodyPost_ret (results_ct rfl _ _ (w.heap.size + 1) 25 _ (0, 0) _ (by rfl) (set5 hrx1) Tryz.underlying25 rfl (by kernel_rfl)) rfl ?_
      refine has_some HJ.out rfl (RepF.rep _ _ F (RepF.kept _ _ F hrep (fun b hm => other_set5 (by have := hfr b hm; simp only [World.size_alloc] at this; omega))) (fun b hm => by have := hfr b hm; simp only [World.size_alloc] at this; omega)) (below_set5 hbl (by omega))
    · have HJ := Lib.hid (show hasJ (.mk 6 n s ns is) x = none from (if_pos rfl).trans (hasG_none x ns is (fun j hj hlt => hfi j hj (by omega))))
      have n1 : ¬ (i : Int) < 0 := by omega
      have n2 : (is.length : Int) ≤ (i : Int) := by omega
      clear hst2 hx hfi fin
      go_enter Tryz.func72, Tryz.ntmps72
      go_wp2_with fail
      refine hix.mono ?_; rintro e w' ⟨rfl, rfl⟩
      go_wp2
      refine bodyPost_ret (results_ct rfl _ _ (w.heap.size + 1) 25 _ (0, 0) _ (by rfl) HRX.out Tryz.underlying25 rfl (by kernel_rfl)) rfl ?_
      exact has_none HJ.out rfl HB2.out
  · rw [idx_miss hno] at hix
    have HJ := Lib.hid (show hasJ (.mk 6 n s ns is) x = none from (if_pos rfl).trans (hasG_none x ns is (fun j hj _ => hno j hj)))
    clear hst2 hno fin
    go_enter Tryz.func72, Tryz.ntmps72
    go_wp2_with fail
    refine hix.mono ?_; rintro e w' ⟨rfl, rfl⟩
    go_wp2
    refine bodyPost_ret (results_ct rfl _ _ (w.heap.size + 1) 25 _ (0, 0) _ (by rfl) HRX.out Tryz.underlying25 rfl (by kernel_rfl)) rfl ?_
    exact has_none HJ.out rfl HB2.out
end Go.Proofs.YtnmojmmgkipjcaaGreatDoor
