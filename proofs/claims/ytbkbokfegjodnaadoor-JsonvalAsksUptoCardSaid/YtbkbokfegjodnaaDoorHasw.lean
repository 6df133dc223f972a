/- The walks of Has, both. Conditions: what the tree holds is at most 2 to the 40. -/
import Derived.Test.YtbkbokfegjodnaaDoorFcopyp
import Derived.Test.YtbkbokfegjodnaaDoorFcopyw
import Derived.Test.YtbkbokfegjodnaaDoorShelf
import Derived.Test.YtbkbokfegjodnaaDoorMemory
namespace Go.Proofs.YtbkbokfegjodnaaDoor
open Go.RowKit
/-- a member by its name -/
def hasG (x : ByteArray) : List ByteArray → List JV → Option JV
  | n :: ns, t :: is => if (n.toList == x.toList) = true then some t else hasG x ns is
  | _, _ => none
def hasJ (t : JV) (x : ByteArray) : Option JV := if t.kind = 6 then hasG x t.names t.items else none
theorem results_ct {P : Program} {fn : Func} {p t : Tmp} {ty : TypeId} (h : fn.results = #[.cell p ty, .tmp t]) (tmps : Array Value) (w : World) (g : Nat) (T : TypeId) (cs : Array Value) (fr : Nat × Nat) (d : TypeDesc)
    (hp : tmps.getD p undef = .pointer (some ⟨g, 0, none⟩)) (hg : w.heap[g]? = some (.cells cs T fr))
    (hu : P.underlying ty = some d) (hd : (match d with | .struct _ | .array _ _ => true | _ => false) = true) (hi : (P.info? ty).map (·.size) = some cs.size) :
    (results fn tmps).run P w = .ok (.tuple #[.agg cs, tmps.getD t undef]) w := by
  have hp' : tmps[p]?.getD undef = .pointer (some ⟨g, 0, none⟩) := by simpa using hp
  simp [results, h, hp', asAddr, run_loadVar_row w g T ty cs fr d hg hu hd hi]
theorem bytes_eq {a b : ByteArray} : (a.toList == b.toList) = true ↔ a = b := by
  rw [beq_iff_eq, ByteArray.toList_eq, ByteArray.toList_eq]
  exact ⟨fun h => ByteArray.ext (Array.ext' h), fun h => by rw [h]⟩
theorem bytes_ne {a b : ByteArray} (h : a ≠ b) : (a.toList == b.toList) = false := by
  rw [Bool.eq_false_iff]; intro e; exact h (bytes_eq.1 e)
theorem hasG_at (x : ByteArray) : ∀ (ns : List ByteArray) (is : List JV) (i : Nat) (h1 : i < ns.length) (h2 : i < is.length), ns[i] = x → (∀ j (hj : j < ns.length), j < i → ns[j] ≠ x) → hasG x ns is = some is[i]
  | n :: ns, t :: is, 0, _, _, h, _ => by
    rw [hasG, if_pos (bytes_eq.2 (by simpa using h))]; rfl
  | n :: ns, t :: is, i + 1, h1, h2, h, hne => by
    have h0 : n ≠ x := hne 0 (by simp) (by omega)
    rw [hasG, if_neg (by rw [bytes_ne h0]; decide)]
    exact hasG_at x ns is i (by simpa using h1) (by simpa using h2) (by simpa using h) (fun j hj hlt => by have := hne (j + 1) (by simpa using hj) (by omega); simpa using this)
theorem hasG_none (x : ByteArray) : ∀ (ns : List ByteArray) (is : List JV), (∀ j (hj : j < ns.length), j < is.length → ns[j] ≠ x) → hasG x ns is = none
  | [], is, _ => by cases is <;> simp [hasG]
  | n :: ns, [], _ => by simp [hasG]
  | n :: ns, t :: is, h => by
    have h0 : n ≠ x := h 0 (by simp) (by simp)
    rw [hasG, if_neg (by rw [bytes_ne h0]; decide)]
    exact hasG_none x ns is (fun j hj hlt => by have := h (j + 1) (by simpa using hj) (by simpa using hlt); simpa using this)
theorem first_or (x : ByteArray) : ∀ ns : List ByteArray, (∃ i, ∃ h : i < ns.length, ns[i] = x ∧ ∀ j (hj : j < ns.length), j < i → ns[j] ≠ x) ∨ ∀ j (hj : j < ns.length), ns[j] ≠ x
  | [] => .inr fun j hj => by simp at hj
  | n :: ns => by
    by_cases h0 : n = x
    · exact .inl ⟨0, by simp, h0, fun j hj hlt => by omega⟩
    · rcases first_or x ns with ⟨i, hi, h1, h2⟩ | h
      · refine .inl ⟨i + 1, by simpa using hi, by simpa using h1, fun j hj hlt => ?_⟩
        cases j with
        | zero => exact h0
        | succ j => have := h2 j (by simpa using hj) (by omega); simpa using this
      · refine .inr fun j hj => ?_
        cases j with
        | zero => exact h0
        | succ j => have := h j (by simpa using hj); simpa using this
/-- What Has answers. -/
def HasPost (w : World) (res : Option JV) (e : Ending) (w' : World) : Prop := ∃ an cn ai ci, e = .returned (.tuple #[.agg #[.int .i64 (res.getD (jnil 0)).kind, .int .i64 (res.getD (jnil 0)).int, .string (res.getD (jnil 0)).text, .slice an (res.getD (jnil 0)).names.length cn, .slice ai (res.getD (jnil 0)).items.length ci], .bool res.isSome]) ∧
  Rep w' (fun b => w.heap.size ≤ b) (res.getD (jnil 0)) [.int .i64 (res.getD (jnil 0)).kind, .int .i64 (res.getD (jnil 0)).int, .string (res.getD (jnil 0)).text, .slice an (res.getD (jnil 0)).names.length cn, .slice ai (res.getD (jnil 0)).items.length ci] ∧ Below w.heap.size w w'
theorem has_none {w w' : World} {res : Option JV} {v : Value} (h : res = none) (hv : v = .tuple #[.agg #[.int .i64 0, .int .i64 0, .string ⟨#[]⟩, .slice none 0 0, .slice none 0 0], .bool false]) (hb : Below w.heap.size w w') : HasPost w res (.returned v) w' := by
  subst h; subst hv
  exact ⟨none, 0, none, 0, rfl, rep_flat 0 0 ⟨#[]⟩ (by omega) (by omega) (Nat.zero_le _) _ _, hb⟩
theorem has_some {w w' : World} {res : Option JV} {u : JV} {v : Value} {an ai : Option Addr} {cn ci : Nat} (h : res = some u) (hv : v = .tuple #[.agg #[.int .i64 u.kind, .int .i64 u.int, .string u.text, .slice an u.names.length cn, .slice ai u.items.length ci], .bool true])
    (hr : Rep w' (fun b => w.heap.size ≤ b) u [.int .i64 u.kind, .int .i64 u.int, .string u.text, .slice an u.names.length cn, .slice ai u.items.length ci]) (hb : Below w.heap.size w w') : HasPost w res (.returned v) w' := by
  subst h; subst hv
  exact ⟨an, cn, ai, ci, rfl, hr, hb⟩
theorem index_c (w : World) (ok : Nat → Prop) (a : Option Addr) (ns : List ByteArray) (c : Nat) (x : ByteArray) (hst : StrsAt w ok a ns) (hb : ns.length ≤ 9223372036854775807) :
    Calls Tryd.prog 59 #[.slice a ns.length c, .string x] w fun e w' => e = .returned (.int .i64 (Lib.idxOfS ns x)) ∧ w' = w := by
  rcases hst with rfl | ⟨b, o, rfl, _, hl⟩
  · exact Tryd.slices_Index_string_empty a c x w
  · refine (Tryd.slices_Index_string b o ns.length c ns x w (Nat.le_refl _) hb (fun j hj => hl j _ (by simp [hj]))).mono ?_
    rintro e w' ⟨rfl, rfl⟩
    rw [List.take_length]
    exact ⟨rfl, rfl⟩
theorem idx_hit {ns : List ByteArray} {x : ByteArray} {i : Nat} (h : i < ns.length) (hx : ns[i] = x) (hne : ∀ j (hj : j < ns.length), j < i → ns[j] ≠ x) : Lib.idxOfS ns x = (i : Int) := by
  have := Lib.idxOfS_hit ns ns.length i x h (Nat.le_refl _) (by simp [List.getD, h, hx]) (fun j hj => by have hj2 : j < ns.length := by omega
                                                                                                         have := hne j hj2 hj; simpa [List.getD, hj2] using this)
  rwa [List.take_length] at this
theorem idx_miss {ns : List ByteArray} {x : ByteArray} (hne : ∀ j (hj : j < ns.length), ns[j] ≠ x) : Lib.idxOfS ns x = -1 := by
  have := Lib.idxOfS_miss ns ns.length x (fun j hj => by have := hne j hj; simpa [List.getD, hj] using this)
  rwa [List.take_length] at this
set_option maxRecDepth 20000 in
set_option maxHeartbeats 8000000 in
theorem has_c (t : JV) (x : ByteArray) (cs : List Value) (w : World) (ok : Nat → Prop) (hr : Rep w ok t cs) (hbk : t.bulk ≤ 1099511627776) : Calls Tryd.prog 38 #[.agg cs.toArray, .string x] w (HasPost w (hasJ t x)) := by
  cases t with
  | mk k n s ns is =>
  rw [rep_mk] at hr
  obtain ⟨hk, hn, hs, an, cn, ai, ci, rfl, hcn, hci, hst, hit⟩ := hr
  unfold maxLen at hcn hci
  rw [JV.bulk] at hbk
  obtain ⟨a0, a1, a2, a3, a4⟩ := cells5' w (.int .i64 k) (.int .i64 n) (.string s) (.slice an ns.length cn) (.slice ai is.length ci) 28
  have hb0 : Below w.heap.size w (w.alloc (.cells #[.int .i64 k, .int .i64 n, .string s, .slice an ns.length cn, .slice ai is.length ci] 28)) := (Below.refl _ _).alloc (Nat.le_refl _) _
  have hb9 : Below ((w.alloc (.cells #[.int .i64 k, .int .i64 n, .string s, .slice an ns.length cn, .slice ai is.length ci] 28))).heap.size (w.alloc (.cells #[.int .i64 k, .int .i64 n, .string s, .slice an ns.length cn, .slice ai is.length ci] 28)) ((w.alloc (.cells #[.int .i64 k, .int .i64 n, .string s, .slice an ns.length cn, .slice ai is.length ci] 28)).alloc (.cells #[.int .i64 0, .int .i64 0, .string ⟨#[]⟩, .slice none 0 0, .slice none 0 0] 28)) := (Below.refl _ _).alloc (Nat.le_refl _) _
  have A0 := cell_below hb9 a0
  have A1 := cell_below hb9 a1
  have A2 := cell_below hb9 a2
  have A3 := cell_below hb9 a3
  have A4 := cell_below hb9 a4
  have hRX : (((w.alloc (.cells #[.int .i64 k, .int .i64 n, .string s, .slice an ns.length cn, .slice ai is.length ci] 28)).alloc (.cells #[.int .i64 0, .int .i64 0, .string ⟨#[]⟩, .slice none 0 0, .slice none 0 0] 28))).heap[w.heap.size + 1]? = some (.cells #[.int .i64 0, .int .i64 0, .string ⟨#[]⟩, .slice none 0 0, .slice none 0 0] 28) := by have := heap_alloc_new (w.alloc (.cells #[.int .i64 k, .int .i64 n, .string s, .slice an ns.length cn, .slice ai is.length ci] 28)) (.cells #[.int .i64 0, .int .i64 0, .string ⟨#[]⟩, .slice none 0 0, .slice none 0 0] 28); simpa only [World.size_alloc] using this
  have hB2 := below_trans hb0 hb9
  have HIT := Lib.hid (hit.below hB2)
  have hst2 := hst.below hB2
  have HB2 := Lib.hid hB2
  have HRX := Lib.hid hRX
  obtain ⟨⟨t0, t1, t2, t3, t4⟩, f0, f1, f2, f3, f4⟩ := cellsOf5 hRX
  clear hst hit hk hn hs hb0 hb9 a0 a1 a2 a3 a4 hB2 hRX
  by_cases h6 : k = 6
  case neg =>
    have HJ := Lib.hid (show hasJ (.mk k n s ns is) x = none from if_neg h6)
    have hne : (k != 6) = true := by simp [h6]
    clear hst2
    go_enter Tryd.func38, Tryd.ntmps38
    go_wp2
    refine bodyPost_ret (results_ct rfl _ _ (w.heap.size + 1) 28 _ (0, 0) _ (by rfl) HRX.out Tryd.underlying28 rfl (by kernel_rfl)) rfl ?_
    exact has_none HJ.out rfl HB2.out
  subst h6
  have hix := index_c ((w.alloc (.cells #[.int .i64 6, .int .i64 n, .string s, .slice an ns.length cn, .slice ai is.length ci] 28)).alloc (.cells #[.int .i64 0, .int .i64 0, .string ⟨#[]⟩, .slice none 0 0, .slice none 0 0] 28)) ok an ns cn x hst2 (by omega)
  have fin : ∀ j, ns.length ≤ j ∨ is.length ≤ j ∨ (j < ns.length ∧ j < is.length) := fun j => by omega
  rcases first_or x ns with ⟨i, hi, hx, hfi⟩ | hno
  · rw [idx_hit hi hx hfi] at hix
    by_cases hil : i < is.length
    · have HJ := Lib.hid (show hasJ (.mk 6 n s ns is) x = some is[i] from (if_pos rfl).trans (hasG_at x ns is i hi hil hx hfi))
      rcases HIT.out with rfl | ⟨b, off, rfl, _, hall⟩
      · simp at hil
      obtain ⟨us, hru, hlu⟩ := hall.at i hil
      have hbu : is[i].bulk ≤ 1099511627776 := by have h1 := JV.bulk_le (List.getElem_mem hil); omega
      obtain ⟨xan, xcn, xai, xci, rfl⟩ := hru.form
      obtain ⟨l0, l1, l2, l3, l4⟩ := lie5 hlu
      have hcp := pcopy_c is[i] _ _ ok hru hbu
      generalize is[i] = u at *
      have n1 : ¬ (i : Int) < 0 := by omega
      have n2 : ¬ (is.length : Int) ≤ (i : Int) := by omega
      have n3 : (i : Int) < (is.length : Int) := by omega
      clear hst2 hall hlu hru hx hfi fin
      go_enter Tryd.func38, Tryd.ntmps38
      go_wp2_with fail
      refine hix.mono ?_; rintro e w' ⟨rfl, rfl⟩
      go_wp2_with fail
      refine hcp.mono ?_; rintro e w1 ⟨yan, ycn, yai, yci, F, rfl, hrep, hnd, hfr, hb1⟩
      have hrx1 := (hb1.block (w.heap.size + 1) (by simp only [World.size_alloc]; omega)).trans HRX.out
      obtain ⟨⟨e0, e1, e2, e3, e4⟩, g0, g1, g2, g3, g4⟩ := cellsOf5 hrx1
      have HR1 := Lib.hid (And.intro hrep (And.intro hfr (And.intro hrx1 (HB2.out.trans (hb1.mono HB2.out.size)))))
      clear hix hcp hrep hnd hfr hb1 hrx1 l0 l1 l2 l3 l4 t0 t1 t2 t3 t4 f0 f1 f2 f3 f4
      go_wp2
      obtain ⟨hrep, hfr, hrx1, hbl⟩ := HR1.out
      refine bodyPost_ret (results_ct rfl _ _ (w.heap.size + 1) 28 _ (0, 0) _ (by rfl) (set5 hrx1) Tryd.underlying28 rfl (by kernel_rfl)) rfl ?_
      refine has_some HJ.out rfl (RepF.rep _ _ F (RepF.kept _ _ F hrep (fun b hm => other_set5 (by have := hfr b hm; simp only [World.size_alloc] at this; omega))) (fun b hm => by have := hfr b hm; simp only [World.size_alloc] at this; omega)) (below_set5 hbl (by omega))
    · have HJ := Lib.hid (show hasJ (.mk 6 n s ns is) x = none from (if_pos rfl).trans (hasG_none x ns is (fun j hj hlt => hfi j hj (by omega))))
      have n1 : ¬ (i : Int) < 0 := by omega
      have n2 : (is.length : Int) ≤ (i : Int) := by omega
      clear hst2 hx hfi fin
      go_enter Tryd.func38, Tryd.ntmps38
      go_wp2_with fail
      refine hix.mono ?_; rintro e w' ⟨rfl, rfl⟩
      go_wp2
      refine bodyPost_ret (results_ct rfl _ _ (w.heap.size + 1) 28 _ (0, 0) _ (by rfl) HRX.out Tryd.underlying28 rfl (by kernel_rfl)) rfl ?_
      exact has_none HJ.out rfl HB2.out
  · rw [idx_miss hno] at hix
    have HJ := Lib.hid (show hasJ (.mk 6 n s ns is) x = none from (if_pos rfl).trans (hasG_none x ns is (fun j hj _ => hno j hj)))
    clear hst2 hno fin
    go_enter Tryd.func38, Tryd.ntmps38
    go_wp2_with fail
    refine hix.mono ?_; rintro e w' ⟨rfl, rfl⟩
    go_wp2
    refine bodyPost_ret (results_ct rfl _ _ (w.heap.size + 1) 28 _ (0, 0) _ (by rfl) HRX.out Tryd.underlying28 rfl (by kernel_rfl)) rfl ?_
    exact has_none HJ.out rfl HB2.out
set_option maxRecDepth 20000 in
set_option maxHeartbeats 8000000 in
theorem refMember_c (t : JV) (x : ByteArray) (cs : List Value) (w : World) (ok : Nat → Prop) (hr : Rep w ok t cs) (hbk : t.bulk ≤ 1099511627776) : Calls Tryd.prog 39 #[.agg cs.toArray, .string x] w (HasPost w (hasJ t x)) := by
  cases t with
  | mk k n s ns is =>
  rw [rep_mk] at hr
  obtain ⟨hk, hn, hs, an, cn, ai, ci, rfl, hcn, hci, hst, hit⟩ := hr
  unfold maxLen at hcn hci
  rw [JV.bulk] at hbk
  obtain ⟨a0, a1, a2, a3, a4⟩ := cells5' w (.int .i64 k) (.int .i64 n) (.string s) (.slice an ns.length cn) (.slice ai is.length ci) 28
  have hb0 : Below w.heap.size w (w.alloc (.cells #[.int .i64 k, .int .i64 n, .string s, .slice an ns.length cn, .slice ai is.length ci] 28)) := (Below.refl _ _).alloc (Nat.le_refl _) _
  have hb9 : Below ((w.alloc (.cells #[.int .i64 k, .int .i64 n, .string s, .slice an ns.length cn, .slice ai is.length ci] 28))).heap.size (w.alloc (.cells #[.int .i64 k, .int .i64 n, .string s, .slice an ns.length cn, .slice ai is.length ci] 28)) ((w.alloc (.cells #[.int .i64 k, .int .i64 n, .string s, .slice an ns.length cn, .slice ai is.length ci] 28)).alloc (.cells #[.int .i64 0, .int .i64 0, .string ⟨#[]⟩, .slice none 0 0, .slice none 0 0] 28)) := (Below.refl _ _).alloc (Nat.le_refl _) _
  have A0 := cell_below hb9 a0
  have A1 := cell_below hb9 a1
  have A2 := cell_below hb9 a2
  have A3 := cell_below hb9 a3
  have A4 := cell_below hb9 a4
  have hRX : (((w.alloc (.cells #[.int .i64 k, .int .i64 n, .string s, .slice an ns.length cn, .slice ai is.length ci] 28)).alloc (.cells #[.int .i64 0, .int .i64 0, .string ⟨#[]⟩, .slice none 0 0, .slice none 0 0] 28))).heap[w.heap.size + 1]? = some (.cells #[.int .i64 0, .int .i64 0, .string ⟨#[]⟩, .slice none 0 0, .slice none 0 0] 28) := by have := heap_alloc_new (w.alloc (.cells #[.int .i64 k, .int .i64 n, .string s, .slice an ns.length cn, .slice ai is.length ci] 28)) (.cells #[.int .i64 0, .int .i64 0, .string ⟨#[]⟩, .slice none 0 0, .slice none 0 0] 28); simpa only [World.size_alloc] using this
  have hB2 := below_trans hb0 hb9
  have HIT := Lib.hid (hit.below hB2)
  have hst2 := hst.below hB2
  have HB2 := Lib.hid hB2
  have HRX := Lib.hid hRX
  obtain ⟨⟨t0, t1, t2, t3, t4⟩, f0, f1, f2, f3, f4⟩ := cellsOf5 hRX
  clear hst hit hk hn hs hb0 hb9 a0 a1 a2 a3 a4 hB2 hRX
  by_cases h6 : k = 6
  case neg =>
    have HJ := Lib.hid (show hasJ (.mk k n s ns is) x = none from if_neg h6)
    have hne : (k == 6) = false := by simp [h6]
    clear hst2
    go_enter Tryd.func39, Tryd.ntmps39
    go_wp2
    go_loop [6] (fun i => i = .int .i64 0) (fun _ => 0)
    case atStart => rfl
    case round =>
      obtain rfl := hrel
      go_wp2
      (try simp only [Exit.inBlock, Exit.then])
      refine bodyPost_ret (results_ct rfl _ _ (w.heap.size + 1) 28 _ (0, 0) _ (by rfl) HRX.out Tryd.underlying28 rfl (by kernel_rfl)) rfl ?_
      exact has_none HJ.out rfl HB2.out
  subst h6
  have HG := Lib.hid (show hasJ (.mk 6 n s ns is) x = hasG x ns is from if_pos rfl)
  have HST := Lib.hid hst2
  clear hst2
  go_enter Tryd.func39, Tryd.ntmps39
  go_wp2
  go_loop [6] (fun i => ∃ j : Nat, j ≤ ns.length ∧ j ≤ is.length ∧ i = .int .i64 j ∧ Hid (hasJ (.mk 6 n s ns is) x = hasG x (ns.drop j) (is.drop j))) (fun i => is.length - (intOf i).toNat)
  case atStart => exact ⟨0, by omega, by omega, rfl, HG⟩
  case round =>
    clear HG
    obtain ⟨j, hj1, hj2, rfl, HG⟩ := hrel
    by_cases h1 : j < ns.length
    · by_cases h2 : j < is.length
      · rcases HST.out with rfl | ⟨bN, oN, rfl, _, hl⟩
        · simp at h1
        have hn1 := hl j (.string ns[j]) (by simp [h1])
        rcases HIT.out with rfl | ⟨b, off, rfl, _, hall⟩
        · simp at h2
        obtain ⟨us, hru, hlu⟩ := hall.at j h2
        have hbu : is[j].bulk ≤ 1099511627776 := by have h1 := JV.bulk_le (List.getElem_mem h2); omega
        obtain ⟨xan, xcn, xai, xci, rfl⟩ := hru.form
        obtain ⟨l0, l1, l2, l3, l4⟩ := lie5 hlu
        have hcp := fcopy_c is[j] _ _ ok hru hbu
        have hstep : hasG x (ns.drop j) (is.drop j) = if (ns[j].toList == x.toList) = true then some is[j] else hasG x (ns.drop (j + 1)) (is.drop (j + 1)) := by
          rw [List.drop_eq_getElem_cons h1, List.drop_eq_getElem_cons h2, hasG]
        have HS := Lib.hid (HG.out.trans hstep)
        have H1 := Lib.hid h1
        have H2 := Lib.hid h2
        clear hstep HG hl hall hlu hru
        generalize is[j] = u at *
        generalize ns[j] = m at *
        rcases Bool.eq_false_or_eq_true (m.toList == x.toList) with hmx | hmx
        · have HJ := Lib.hid (HS.out.trans (if_pos hmx))
          go_wp2_with fail
          refine hcp.mono ?_; rintro e w1 ⟨yan, ycn, yai, yci, F, rfl, hrep, hnd, hfr, hb1⟩
          have hrx1 := (hb1.block (w.heap.size + 1) (by simp only [World.size_alloc]; omega)).trans HRX.out
          obtain ⟨⟨e0, e1, e2, e3, e4⟩, g0, g1, g2, g3, g4⟩ := cellsOf5 hrx1
          have HR1 := Lib.hid (And.intro hrep (And.intro hfr (And.intro hrx1 (HB2.out.trans (hb1.mono HB2.out.size)))))
          clear hcp hrep hnd hfr hb1 hrx1 l0 l1 l2 l3 l4 t0 t1 t2 t3 t4 f0 f1 f2 f3 f4
          go_wp2
          (try simp only [Exit.inBlock, Exit.then])
          obtain ⟨hrep, hfr, hrx1, hbl⟩ := HR1.out
          refine bodyPost_ret (results_ct rfl _ _ (w.heap.size + 1) 28 _ (0, 0) _ (by rfl) (set5 hrx1) Tryd.underlying28 rfl (by kernel_rfl)) rfl ?_
          refine has_some HJ.out rfl (RepF.rep _ _ F (RepF.kept _ _ F hrep (fun b hm => other_set5 (by have := hfr b hm; simp only [World.size_alloc] at this; omega))) (fun b hm => by have := hfr b hm; simp only [World.size_alloc] at this; omega)) (below_set5 hbl (by omega))
        · have HJ := Lib.hid (HS.out.trans (if_neg (by rw [hmx]; decide)))
          clear hcp
          go_wp2
          go_round
          case rel => exact ⟨j + 1, H1.out, H2.out, by go_num, HJ⟩
          case measure => have := H2.out; simp [intOf]; omega
      · have HJ := Lib.hid (HG.out.trans (show _ = none by rw [List.drop_of_length_le (show is.length ≤ j by omega)]; cases ns.drop j <;> simp [hasG]))
        go_wp2
        (try simp only [Exit.inBlock, Exit.then])
        refine bodyPost_ret (results_ct rfl _ _ (w.heap.size + 1) 28 _ (0, 0) _ (by rfl) HRX.out Tryd.underlying28 rfl (by kernel_rfl)) rfl ?_
        exact has_none HJ.out rfl HB2.out
    · have HJ := Lib.hid (HG.out.trans (show _ = none by rw [List.drop_of_length_le (show ns.length ≤ j by omega)]; simp [hasG]))
      go_wp2
      (try simp only [Exit.inBlock, Exit.then])
      refine bodyPost_ret (results_ct rfl _ _ (w.heap.size + 1) 28 _ (0, 0) _ (by rfl) HRX.out Tryd.underlying28 rfl (by kernel_rfl)) rfl ?_
      exact has_none HJ.out rfl HB2.out
end Go.Proofs.YtbkbokfegjodnaaDoor
