/- The walks of the program's Equal. Conditions: none. -/
import Derived.Test.YtnmojmmgkipjcaaGreatDoorEqualw
import Derived.Test.YtnmojmmgkipjcaaGreatDoorBasea
import Derived.Test.YtnmojmmgkipjcaaGreatDoorShelf
namespace Go.Proofs.YtnmojmmgkipjcaaGreatDoor
open Go.RowKit
theorem names_inj : ∀ (a b : List ByteArray), a.map (·.data.toList) = b.map (·.data.toList) → a = b
  | [], [], _ => rfl
  | [], _ :: _, h => by simp at h
  | _ :: _, [], h => by simp at h
  | x :: a, y :: b, h => by
    simp only [List.map_cons, List.cons.injEq] at h
    rw [names_inj a b h.2, show x = y from ByteArray.ext (Array.ext' h.1)]
theorem names_dec (a b : List ByteArray) : decide (a = b) = (a.map (·.data.toList) == b.map (·.data.toList)) := by
  rw [Bool.eq_iff_iff, decide_eq_true_iff, beq_iff_eq]
  exact ⟨fun h => by rw [h], names_inj a b⟩
theorem strs_cells {w : World} {b off : Nat} {l : List ByteArray} (h : Lie w b off (l.map Value.string)) : ∀ j, j < l.length → w.cell? ⟨b, off + j, none⟩ = some (.string (l.getD j ByteArray.empty)) := fun j hj => h j _ (by simp [hj])
theorem strsEq_c (w : World) (ok ok' : Nat → Prop) (a b : Option Addr) (ns ms : List ByteArray) (c d : Nat) (hn : ns.length ≤ maxLen) (hm : ms.length ≤ maxLen) (h1 : StrsAt w ok a ns) (h2 : StrsAt w ok' b ms) :
    Calls Tryz.prog 86 #[.slice a ns.length c, .slice b ms.length d] w fun e w' => e = .returned (.bool (ns.map (·.data.toList) == ms.map (·.data.toList))) ∧ Below w.heap.size w w' := by
  unfold maxLen at hn hm
  by_cases hl : ns.length = ms.length
  · rcases h1 with rfl | ⟨b1, o1, rfl, _, hc1⟩
    · have : ms = [] := List.eq_nil_of_length_eq_zero (by simpa using hl.symm)
      subst this
      refine (Tryz.slices_Equal_string_empty a b c 0 d w (by omega)).mono ?_
      rintro e w' ⟨rfl, rfl⟩
      exact ⟨rfl, Below.refl _ _⟩
    · rcases h2 with rfl | ⟨b2, o2, rfl, _, hc2⟩
      · have : ns = [] := List.eq_nil_of_length_eq_zero (by simpa using hl)
        subst this
        refine (Tryz.slices_Equal_string_empty _ b c 0 d w (by omega)).mono ?_
        rintro e w' ⟨rfl, rfl⟩
        exact ⟨rfl, Below.refl _ _⟩
      · refine (Tryz.slices_Equal_string b1 o1 ns.length c b2 o2 ms.length d ns ms w (Nat.le_refl _) (Nat.le_refl _) (by omega) (by omega) (strs_cells hc1) (strs_cells hc2)).mono ?_
        rintro e w' ⟨rfl, q, rfl⟩
        rw [List.take_length, List.take_length, names_dec]
        exact ⟨rfl, below_drewN' _ _⟩
  · refine (Tryz.slices_Equal_string_lens a b ns.length c ms.length d w hl).mono ?_
    rintro e w' ⟨rfl, rfl⟩
    refine ⟨?_, Below.refl _ _⟩
    rw [beq_eq_false_iff_ne.2 (fun h => hl (by simpa using congrArg List.length h))]
def EquSaid (m : Nat) : Prop := ∀ (t u : JV), t.size ≤ m → ∀ (cs ds : List Value) (w : World) (ok ok' : Nat → Prop), Rep w ok t cs → Rep w ok' u ds →
    Calls Tryz.prog 68 #[.agg cs.toArray, .agg ds.toArray] w fun e w' => e = .returned (.bool (same t u)) ∧ Below w.heap.size w w'
set_option maxRecDepth 20000 in
set_option maxHeartbeats 4000000 in
theorem equf_c (m : Nat) (ih : EquSaid m) (is js : List JV) (hsz : ∀ t ∈ is, t.size ≤ m) (a b : Option Addr) (c d : Nat) (w : World) (ok ok' : Nat → Prop) (h1 : ItemsAt w ok a is) (h2 : ItemsAt w ok' b js) (hi : is.length ≤ maxLen) (hj : js.length ≤ maxLen) :
    Calls Tryz.prog 87 #[.slice a is.length c, .slice b js.length d, .func (.func 68) #[] #[]] w fun e w' => e = .returned (.bool (sameL is js)) ∧ Below w.heap.size w w' := by
  unfold maxLen at hi hj
  by_cases hl : is.length = js.length
  · have hne : (((is.length : Int)) != (js.length : Int)) = false := by simp [hl]
    have HL := Lib.hid hl
    have IH := Lib.hid ih
    have H1 := Lib.hid h1
    have H2 := Lib.hid h2
    have HSZ := Lib.hid hsz
    clear hl ih h1 h2 hsz
    go_enter Tryz.func87, Tryz.ntmps87
    go_wp2
    go_loopw [17] (fun i wr => ∃ j : Nat, j ≤ is.length ∧ i = .int .i64 j ∧ Hid (sameL is js = sameL (is.drop j) (js.drop j)) ∧ Hid (Below w.heap.size w wr)) (fun i _ => is.length - (intOf i).toNat)
    case atStart => exact ⟨0, by omega, rfl, rfl, Lib.hid (Below.refl _ _)⟩
    case round =>
      obtain ⟨j, hjl, rfl, HQ, HB⟩ := hrel
      by_cases hlt : j < is.length
      · have hlt' : j < js.length := by have := HL.out; omega
        rcases H1.out.below HB.out with rfl | ⟨g, o, rfl, _, hall⟩
        · simp at hlt
        rcases H2.out.below HB.out with rfl | ⟨g', o', rfl, _, hall'⟩
        · simp at hlt'
        obtain ⟨cs, hrj, hlj⟩ := hall.at j hlt
        obtain ⟨ds, hrj', hlj'⟩ := hall'.at j hlt'
        have hszj := HSZ.out is[j] (List.getElem_mem hlt)
        have hstep : sameL (is.drop j) (js.drop j) = (same is[j] js[j] && sameL (is.drop (j + 1)) (js.drop (j + 1))) := by
          rw [List.drop_eq_getElem_cons hlt, List.drop_eq_getElem_cons hlt', sameL]
        have HSt := Lib.hid (HQ.out.trans hstep)
        have HLT := Lib.hid hlt
        clear hstep HQ hall hall'
        generalize is[j] = x at *
        generalize js[j] = y at *
        obtain ⟨xan, xcn, xai, xci, rfl⟩ := hrj.form
        obtain ⟨yan, ycn, yai, yci, rfl⟩ := hrj'.form
        obtain ⟨l0, l1, l2, l3, l4⟩ := lie5 hlj
        have hb1 : Below wr.heap.size wr (wr.alloc (.cells #[.int .i64 x.kind, .int .i64 x.int, .string x.text, .slice xan x.names.length xcn, .slice xai x.items.length xci] 25)) := (Below.refl _ _).alloc (Nat.le_refl _) _
        obtain ⟨e0, e1, e2, e3, e4⟩ := cells5 wr (.int .i64 x.kind) (.int .i64 x.int) (.string x.text) (.slice xan x.names.length xcn) (.slice xai x.items.length xci) 25
        have hlj2 := hlj'.kept (w' := wr.alloc (.cells #[.int .i64 x.kind, .int .i64 x.int, .string x.text, .slice xan x.names.length xcn, .slice xai x.items.length xci] 25)) (hb1.block g' (cell_lt (hlj' 0 _ rfl)))
        obtain ⟨m0, m1, m2, m3, m4⟩ := lie5 hlj2
        have hb2 : Below (World.alloc wr (.cells #[.int .i64 x.kind, .int .i64 x.int, .string x.text, .slice xan x.names.length xcn, .slice xai x.items.length xci] 25)).heap.size (wr.alloc (.cells #[.int .i64 x.kind, .int .i64 x.int, .string x.text, .slice xan x.names.length xcn, .slice xai x.items.length xci] 25)) ((wr.alloc (.cells #[.int .i64 x.kind, .int .i64 x.int, .string x.text, .slice xan x.names.length xcn, .slice xai x.items.length xci] 25)).alloc (.cells #[.int .i64 y.kind, .int .i64 y.int, .string y.text, .slice yan y.names.length ycn, .slice yai y.items.length yci] 25)) := (Below.refl _ _).alloc (Nat.le_refl _) _
        obtain ⟨g0, g1, g2, g3, g4⟩ := cells5 (wr.alloc (.cells #[.int .i64 x.kind, .int .i64 x.int, .string x.text, .slice xan x.names.length xcn, .slice xai x.items.length xci] 25)) (.int .i64 y.kind) (.int .i64 y.int) (.string y.text) (.slice yan y.names.length ycn) (.slice yai y.items.length yci) 25
        simp only [World.size_alloc] at g0 g1 g2 g3 g4
        have E0 := cell_below hb2 e0
        have E1 := cell_below hb2 e1
        have E2 := cell_below hb2 e2
        have E3 := cell_below hb2 e3
        have E4 := cell_below hb2 e4
        have hb12 := below_trans hb1 hb2
        have hcall := IH.out x y hszj _ _ _ ok ok' (hrj.below hb12) (hrj'.below hb12)
        have HB2 := Lib.hid (HB.out.trans (hb12.mono HB.out.size))
        clear hlj hlj' hlj2 hrj hrj' hb1 hb2 hb12 e0 e1 e2 e3 e4 HB
        generalize same x y = bb at *
        go_wp2_with fail
        refine hcall.mono ?_; rintro e w5 ⟨rfl, hb5⟩
        have HB5 := Lib.hid (HB2.out.trans (hb5.mono HB2.out.size))
        clear hcall hb5 l0 l1 l2 l3 l4 m0 m1 m2 m3 m4 g0 g1 g2 g3 g4 E0 E1 E2 E3 E4 HB2
        cases bb with
        | true =>
          have HQ2 := Lib.hid (HSt.out.trans (Bool.true_and _))
          go_wp2
          go_roundw
          case rel => exact ⟨j + 1, HLT.out, by go_num, HQ2, HB5⟩
          case measure => have := HLT.out; simp [intOf]; omega
        | false =>
          have HF := Lib.hid (HSt.out.trans (Bool.false_and _))
          go_wp2
          go_ret
          exact ⟨by rw [HF.out]; rfl, HB5.out⟩
      · obtain rfl : j = is.length := by omega
        have HQ3 := Lib.hid (show sameL is js = true by rw [HQ.out, List.drop_of_length_le (Nat.le_refl _), List.drop_of_length_le (by have := HL.out; omega)]; rfl)
        clear HQ
        go_wp2
        go_ret
        exact ⟨by rw [HQ3.out]; rfl, HB.out⟩
  · have hne : (((is.length : Int)) != (js.length : Int)) = true := by simp; omega
    have HF := Lib.hid (sameL_len hl)
    clear hl
    go_enter Tryz.func87, Tryz.ntmps87
    go_wp2
    go_ret
    exact ⟨by rw [HF.out]; rfl, Below.refl _ _⟩
set_option maxRecDepth 20000 in
set_option maxHeartbeats 8000000 in
theorem equ_step (m : Nat) (ih : EquSaid m) : EquSaid (m + 1) := by
  intro t u hm cs ds w ok ok' hr hu
  cases t with
  | mk k n s ns is =>
  cases u with
  | mk k' n' s' ns' is' =>
  rw [rep_mk] at hr hu
  obtain ⟨_, _, _, an, cn, ai, ci, rfl, hcn, hci, hst, hit⟩ := hr
  obtain ⟨_, _, _, an', cn', ai', ci', rfl, hcn', hci', hst', hit'⟩ := hu
  have hsz : ∀ t ∈ is, t.size ≤ m := fun t ht => by have h1 := JV.size_le ht; rw [JV.size] at hm; omega
  have HS := Lib.hid (show same (.mk k n s ns is) (.mk k' n' s' ns' is') = (k == k' && n == n' && (s.toList == s'.toList) && (ns.map (·.data.toList) == ns'.map (·.data.toList)) && sameL is is') by rw [same, ByteArray.toList_eq, ByteArray.toList_eq])
  obtain ⟨a0, a1, a2, a3, a4⟩ := cells5 w (.int .i64 k) (.int .i64 n) (.string s) (.slice an ns.length cn) (.slice ai is.length ci) 25
  have hb0 : Below w.heap.size w (w.alloc (.cells #[.int .i64 k, .int .i64 n, .string s, .slice an ns.length cn, .slice ai is.length ci] 25)) := (Below.refl _ _).alloc (Nat.le_refl _) _
  obtain ⟨b0, b1, b2, b3, b4⟩ := cells5 (w.alloc (.cells #[.int .i64 k, .int .i64 n, .string s, .slice an ns.length cn, .slice ai is.length ci] 25)) (.int .i64 k') (.int .i64 n') (.string s') (.slice an' ns'.length cn') (.slice ai' is'.length ci') 25
  have hb1 : Below (World.heap (w.alloc (.cells #[.int .i64 k, .int .i64 n, .string s, .slice an ns.length cn, .slice ai is.length ci] 25))).size (w.alloc (.cells #[.int .i64 k, .int .i64 n, .string s, .slice an ns.length cn, .slice ai is.length ci] 25)) ((w.alloc (.cells #[.int .i64 k, .int .i64 n, .string s, .slice an ns.length cn, .slice ai is.length ci] 25)).alloc (.cells #[.int .i64 k', .int .i64 n', .string s', .slice an' ns'.length cn', .slice ai' is'.length ci'] 25)) := (Below.refl _ _).alloc (Nat.le_refl _) _
  have hB := below_trans hb0 hb1
  have A0 := cell_below hb1 a0
  have A1 := cell_below hb1 a1
  have A2 := cell_below hb1 a2
  have A3 := cell_below hb1 a3
  have A4 := cell_below hb1 a4
  have h57 := strsEq_c ((w.alloc (.cells #[.int .i64 k, .int .i64 n, .string s, .slice an ns.length cn, .slice ai is.length ci] 25)).alloc (.cells #[.int .i64 k', .int .i64 n', .string s', .slice an' ns'.length cn', .slice ai' is'.length ci'] 25)) ok ok' an an' ns ns' cn cn' (by omega) (by omega) (hst.below hB) (hst'.below hB)
  have HIT := Lib.hid (hit.below hB)
  have HIT' := Lib.hid (hit'.below hB)
  have HBB := Lib.hid hB
  clear a0 a1 a2 a3 a4 hst hst' hit hit' hb0 hb1 hB
  simp only [World.size_alloc] at b0 b1 b2 b3 b4
  have C1 := Lib.hid (show is.length ≤ maxLen by omega)
  have C2 := Lib.hid (show is'.length ≤ maxLen by omega)
  clear hcn hci hcn' hci'
  rcases Bool.eq_false_or_eq_true (k == k') with q1 | q1
  case inr =>
    have HF := Lib.hid (HS.out.trans (show _ = false by rw [q1]; simp only [Bool.false_and]))
    clear h57
    go_enter Tryz.func68, Tryz.ntmps68
    go_wp2
    go_ret
    exact ⟨by rw [HF.out]; rfl, HBB.out⟩
  rcases Bool.eq_false_or_eq_true (n == n') with q2 | q2
  case inr =>
    have HF := Lib.hid (HS.out.trans (show _ = false by rw [q2]; simp only [Bool.false_and, Bool.and_false]))
    clear h57
    go_enter Tryz.func68, Tryz.ntmps68
    go_wp2
    go_ret
    exact ⟨by rw [HF.out]; rfl, HBB.out⟩
  rcases Bool.eq_false_or_eq_true (s.toList == s'.toList) with q3 | q3
  case inr =>
    have HF := Lib.hid (HS.out.trans (show _ = false by rw [q3]; simp only [Bool.false_and, Bool.and_false]))
    clear h57
    go_enter Tryz.func68, Tryz.ntmps68
    go_wp2
    go_ret
    exact ⟨by rw [HF.out]; rfl, HBB.out⟩
  have HS2 := Lib.hid (HS.out.trans (show _ = ((ns.map (·.data.toList) == ns'.map (·.data.toList)) && sameL is is') by rw [q1, q2, q3]; simp only [Bool.true_and]))
  have h58 := fun (W : World) (hb : Below (World.heap ((w.alloc (.cells #[.int .i64 k, .int .i64 n, .string s, .slice an ns.length cn, .slice ai is.length ci] 25)).alloc (.cells #[.int .i64 k', .int .i64 n', .string s', .slice an' ns'.length cn', .slice ai' is'.length ci'] 25))).size ((w.alloc (.cells #[.int .i64 k, .int .i64 n, .string s, .slice an ns.length cn, .slice ai is.length ci] 25)).alloc (.cells #[.int .i64 k', .int .i64 n', .string s', .slice an' ns'.length cn', .slice ai' is'.length ci'] 25)) W) => equf_c m ih is is' hsz ai ai' ci ci' W ok ok' (HIT.out.below hb) (HIT'.out.below hb) C1.out C2.out
  have H58 := Lib.hid h58
  clear h58 HS hsz
  generalize (ns.map (·.data.toList) == ns'.map (·.data.toList)) = bn at *
  go_enter Tryz.func68, Tryz.ntmps68
  go_wp2_with fail
  refine h57.mono ?_; rintro e w1 ⟨rfl, hbw⟩
  have c4 := cell_below hbw A4
  have d4 := cell_below hbw b4
  have hc := H58.out w1 hbw
  have HB1 := Lib.hid (below_trans HBB.out hbw)
  clear h57 hbw A0 A1 A2 A3 A4 b0 b1 b2 b3 b4 H58
  cases bn with
  | false =>
    have HF := Lib.hid (HS2.out.trans (Bool.false_and _))
    clear hc
    go_wp2
    go_ret
    exact ⟨by rw [HF.out]; rfl, HB1.out⟩
  | true =>
    have HF := Lib.hid (HS2.out.trans (Bool.true_and _))
    go_wp2_with fail
    refine hc.mono ?_; rintro e w2 ⟨rfl, hb2⟩
    have HB2 := Lib.hid (below_trans HB1.out hb2)
    clear hc hb2 c4 d4
    go_wp2
    go_ret
    exact ⟨by rw [HF.out]; rfl, HB2.out⟩
theorem equ_all (m : Nat) : EquSaid m := by
  induction m with
  | zero => intro t _ hm; have := JV.size_pos t; omega
  | succ m ih => exact equ_step m ih
theorem equ_c (t u : JV) (cs ds : List Value) (w : World) (ok ok' : Nat → Prop) (hr : Rep w ok t cs) (hu : Rep w ok' u ds) :
    Calls Tryz.prog 68 #[.agg cs.toArray, .agg ds.toArray] w fun e w' => e = .returned (.bool (same t u)) ∧ Below w.heap.size w w' :=
  equ_all t.size t u (Nat.le_refl _) cs ds w ok ok' hr hu
end Go.Proofs.YtnmojmmgkipjcaaGreatDoor
