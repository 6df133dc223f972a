/- The walk of the document's Equal. Conditions: none. -/
import Derived.Test.YtnmojmmgkipjcaaGreatDoorPartsw
import Derived.BigQuiet
import Derived.Lib.QuietBelow
namespace Go.Proofs.YtnmojmmgkipjcaaGreatDoor
open Go.RowKit
/-- A contract that ends in Below, met in a world of the class. -/
theorem regB {P : Program} {f : FuncId} {args : Array Value} {w : World} {d : Nat} {os : Array Obj} {v : Value}
    (h : Calls P f args (Sort.grow (redrawn w d) os) fun e w' => e = .returned v ∧ Below (Sort.grow (redrawn w d) os).heap.size (Sort.grow (redrawn w d) os) w') :
    Calls P f args (Sort.grow (redrawn w d) os) fun e w'' => e = .returned v ∧ ∃ p : Regrown, w'' = Sort.grow (redrawn w p.d) p.os := Calls.regrown_of h
theorem regS {P : Program} {f : FuncId} {args : Array Value} {w : World} {d : Nat} {os : Array Obj} {v : Value}
    (h : Calls P f args (Sort.grow (redrawn w d) os) fun e w' => e = .returned v ∧ w' = Sort.grow (redrawn w d) os) :
    Calls P f args (Sort.grow (redrawn w d) os) fun e w'' => e = .returned v ∧ ∃ p : Regrown, w'' = Sort.grow (redrawn w p.d) p.os :=
  regB (h.mono fun _ _ ⟨he, hw⟩ => ⟨he, by rw [hw]; exact Below.refl _ _⟩)
theorem cells5 (w : World) (c0 c1 c2 c3 c4 : Value) (T : TypeId) : (w.alloc (.cells #[c0, c1, c2, c3, c4] T)).cell? ⟨w.heap.size, 0, none⟩ = some c0 ∧ (w.alloc (.cells #[c0, c1, c2, c3, c4] T)).cell? ⟨w.heap.size, 1, none⟩ = some c1 ∧
    (w.alloc (.cells #[c0, c1, c2, c3, c4] T)).cell? ⟨w.heap.size, 2, none⟩ = some c2 ∧ (w.alloc (.cells #[c0, c1, c2, c3, c4] T)).cell? ⟨w.heap.size, 3, none⟩ = some c3 ∧ (w.alloc (.cells #[c0, c1, c2, c3, c4] T)).cell? ⟨w.heap.size, 4, none⟩ = some c4 := by
  refine ⟨by simp [go_sem], by simp [go_sem], by simp [go_sem], by simp [go_sem], by simp [go_sem]⟩
/-- names, one by one -/
def namesEq : List ByteArray → List ByteArray → Bool
  | [], [] => true
  | x :: a, y :: b => (x.toList == y.toList) && namesEq a b
  | _, _ => false
theorem namesEq_map : ∀ a b : List ByteArray, namesEq a b = (a.map (·.data.toList) == b.map (·.data.toList))
  | [], [] => rfl
  | x :: a, y :: b => by rw [namesEq, namesEq_map a b, ByteArray.toList_eq, ByteArray.toList_eq]; rfl
  | [], _ :: _ => rfl
  | _ :: _, [] => rfl
theorem same_mk (k n k' n' : Int) (s s' : ByteArray) (ns ns' : List ByteArray) (is is' : List JV) : same (.mk k n s ns is) (.mk k' n' s' ns' is') = (k == k' && n == n' && (s.toList == s'.toList) && namesEq ns ns' && sameL is is') := by
  rw [same, namesEq_map, ByteArray.toList_eq, ByteArray.toList_eq]
theorem namesEq_len {a b : List ByteArray} (h : a.length ≠ b.length) : namesEq a b = false := by
  rw [namesEq_map, beq_eq_false_iff_ne]
  intro e
  exact h (by simpa using congrArg List.length e)
theorem sameL_len : ∀ {a b : List JV}, a.length ≠ b.length → sameL a b = false
  | [], [], h => absurd rfl h
  | x :: a, y :: b, h => by rw [sameL, sameL_len (a := a) (b := b) (by simpa using h), Bool.and_false]
  | [], _ :: _, _ => by rw [sameL]; all_goals (intros; contradiction)
  | _ :: _, [], _ => by rw [sameL]; all_goals (intros; contradiction)
def EqualSaid (m : Nat) : Prop := ∀ (t u : JV), t.size ≤ m → ∀ (cs ds : List Value) (w : World) (ok ok' : Nat → Prop), Rep w ok t cs → Rep w ok' u ds →
    Calls Tryz.prog 15 #[.agg cs.toArray, .agg ds.toArray] w fun e w' => e = .returned (.bool (same t u)) ∧ Below w.heap.size w w'
set_option maxHeartbeats 4000000 in
theorem equal_step (m : Nat) (ih : EqualSaid m) : EqualSaid (m + 1) := by
  intro t u hm cs ds w ok ok' hr hu
  cases t with
  | mk k n s ns is =>
  cases u with
  | mk k' n' s' ns' is' =>
  rw [rep_mk] at hr hu
  obtain ⟨_, _, _, an, cn, ai, ci, rfl, hcn, hci, hst, hit⟩ := hr
  obtain ⟨_, _, _, an', cn', ai', ci', rfl, hcn', hci', hst', hit'⟩ := hu
  unfold maxLen at hcn hci hcn' hci'
  have IH := Lib.hid ih
  clear ih
  have HS := Lib.hid (same_mk k n k' n' s s' ns ns' is is')
  obtain ⟨a0, a1, a2, a3, a4⟩ := cells5 w (.int .i64 k) (.int .i64 n) (.string s) (.slice an ns.length cn) (.slice ai is.length ci) 25
  have hb0 : Below w.heap.size w (w.alloc (.cells #[.int .i64 k, .int .i64 n, .string s, .slice an ns.length cn, .slice ai is.length ci] 25)) := (Below.refl _ _).alloc (Nat.le_refl _) _
  obtain ⟨b0, b1, b2, b3, b4⟩ := cells5 (w.alloc (.cells #[.int .i64 k, .int .i64 n, .string s, .slice an ns.length cn, .slice ai is.length ci] 25)) (.int .i64 k') (.int .i64 n') (.string s') (.slice an' ns'.length cn') (.slice ai' is'.length ci') 25
  have hb1 : Below ((w.alloc (.cells #[.int .i64 k, .int .i64 n, .string s, .slice an ns.length cn, .slice ai is.length ci] 25))).heap.size (w.alloc (.cells #[.int .i64 k, .int .i64 n, .string s, .slice an ns.length cn, .slice ai is.length ci] 25)) ((w.alloc (.cells #[.int .i64 k, .int .i64 n, .string s, .slice an ns.length cn, .slice ai is.length ci] 25)).alloc (.cells #[.int .i64 k', .int .i64 n', .string s', .slice an' ns'.length cn', .slice ai' is'.length ci'] 25)) := (Below.refl _ _).alloc (Nat.le_refl _) _
  have hB := below_trans hb0 hb1
  have A0 := cell_below hb1 a0
  have A1 := cell_below hb1 a1
  have A2 := cell_below hb1 a2
  have A3 := cell_below hb1 a3
  have A4 := cell_below hb1 a4
  clear a0 a1 a2 a3 a4
  simp only [World.size_alloc] at b0 b1 b2 b3 b4
  by_cases hk : k = k'
  case neg =>
    have HF := Lib.hid (HS.out.trans (show _ = false by rw [Bool.eq_false_iff]; intro hh; simp only [Bool.and_eq_true] at hh; exact hk (by simpa using hh.1.1.1.1)))
    have e0 : ((k != k') = true) := by simp [hk]
    clear hk
    go_enter Tryz.func15, Tryz.ntmps15
    go_wp2
    go_ret
    exact ⟨by rw [HF.out]; rfl, hB⟩
  by_cases hn : n = n'
  case neg =>
    have HF := Lib.hid (HS.out.trans (show _ = false by rw [Bool.eq_false_iff]; intro hh; simp only [Bool.and_eq_true] at hh; exact hn (by simpa using hh.1.1.1.2)))
    have e0 : ((k != k') = false) := by simp [hk]
    have e1 : ((n != n') = true) := by simp [hn]
    clear hk
    clear hn
    go_enter Tryz.func15, Tryz.ntmps15
    go_wp2
    go_ret
    exact ⟨by rw [HF.out]; rfl, hB⟩
  by_cases hs : (s.toList == s'.toList) = true
  case neg =>
    have hs' : (s.toList == s'.toList) = false := by simpa using hs
    have HF := Lib.hid (HS.out.trans (show _ = false by rw [Bool.eq_false_iff]; intro hh; simp only [Bool.and_eq_true] at hh; exact hs (by simpa using hh.1.1.2)))
    have e0 : ((k != k') = false) := by simp [hk]
    have e1 : ((n != n') = false) := by simp [hn]
    clear hk
    clear hn
    clear hs
    go_enter Tryz.func15, Tryz.ntmps15
    go_wp2
    go_ret
    exact ⟨by rw [HF.out]; rfl, hB⟩
  by_cases hnl : ns.length = ns'.length
  case neg =>
    have HF := Lib.hid (HS.out.trans (show _ = false by rw [Bool.eq_false_iff]; intro hh; simp only [Bool.and_eq_true] at hh; rw [namesEq_len hnl] at hh; exact absurd hh.1.2 (by decide)))
    have e0 : ((k != k') = false) := by simp [hk]
    have e1 : ((n != n') = false) := by simp [hn]
    have e3 : ((((ns.length : Int)) != (ns'.length : Int)) = true) := by simp; omega
    clear hk
    clear hn
    clear hnl
    go_enter Tryz.func15, Tryz.ntmps15
    go_wp2
    go_ret
    exact ⟨by rw [HF.out]; rfl, hB⟩
  by_cases hil : is.length = is'.length
  case neg =>
    have HF := Lib.hid (HS.out.trans (show _ = false by rw [Bool.eq_false_iff]; intro hh; simp only [Bool.and_eq_true] at hh; rw [sameL_len hil] at hh; exact absurd hh.2 (by decide)))
    have e0 : ((k != k') = false) := by simp [hk]
    have e1 : ((n != n') = false) := by simp [hn]
    have e3 : ((((ns.length : Int)) != (ns'.length : Int)) = false) := by simp [hnl]
    have e4 : ((((is.length : Int)) != (is'.length : Int)) = true) := by simp; omega
    clear hk
    clear hn
    clear hnl
    clear hil
    go_enter Tryz.func15, Tryz.ntmps15
    go_wp2
    go_ret
    exact ⟨by rw [HF.out]; rfl, hB⟩
  have e0 : ((k != k') = false) := by simp [hk]
  have e1 : ((n != n') = false) := by simp [hn]
  have e3 : ((((ns.length : Int)) != (ns'.length : Int)) = false) := by simp [hnl]
  have e4 : ((((is.length : Int)) != (is'.length : Int)) = false) := by simp [hil]
  have HN := Lib.hid hnl
  have HI := Lib.hid hil
  have HS2 := Lib.hid (HS.out.trans (show _ = (namesEq ns ns' && sameL is is') by rw [hs, hk, hn]; simp))
  clear hk hn hnl hil
  go_enter Tryz.func15, Tryz.ntmps15
  go_wp2
  go_loopw [5] (fun i wr => ∃ j : Nat, j ≤ ns.length ∧ i = .int .i64 j ∧ Hid (namesEq ns ns' = namesEq (ns.drop j) (ns'.drop j)) ∧ Below (((w.alloc (.cells #[.int .i64 k, .int .i64 n, .string s, .slice an ns.length cn, .slice ai is.length ci] 25)).alloc (.cells #[.int .i64 k', .int .i64 n', .string s', .slice an' ns'.length cn', .slice ai' is'.length ci'] 25))).heap.size ((w.alloc (.cells #[.int .i64 k, .int .i64 n, .string s, .slice an ns.length cn, .slice ai is.length ci] 25)).alloc (.cells #[.int .i64 k', .int .i64 n', .string s', .slice an' ns'.length cn', .slice ai' is'.length ci'] 25)) wr) (fun i _ => ns.length - (intOf i).toNat)
  case atStart => exact ⟨0, by omega, rfl, rfl, Below.refl _ _⟩
  case round =>
    obtain ⟨j, hj, rfl, HQ, hbl⟩ := hrel
    have c3 := cell_below hbl A3
    have d3 := cell_below hbl b3
    by_cases hlt : j < ns.length
    · have hlt' : j < ns'.length := by have := HN.out; omega
      have st1 := (hst.below hB).below hbl
      have st2 := (hst'.below hB).below hbl
      rcases st1 with rfl | ⟨b, off, rfl, _, hl⟩
      · simp at hlt
      rcases st2 with rfl | ⟨b', off', rfl, _, hl'⟩
      · simp at hlt'
      have n1 := hl j (.string ns[j]) (by simp [hlt])
      have n2 := hl' j (.string ns'[j]) (by simp [hlt'])
      have hstep : namesEq (ns.drop j) (ns'.drop j) = ((ns[j].toList == ns'[j].toList) && namesEq (ns.drop (j + 1)) (ns'.drop (j + 1))) := by
        rw [List.drop_eq_getElem_cons hlt, List.drop_eq_getElem_cons hlt', namesEq]
      have HSt := Lib.hid (HQ.out.trans hstep)
      have HLT := Lib.hid hlt
      clear hstep HQ hl hl'
      generalize ns[j] = x at *
      generalize ns'[j] = y at *
      rcases Bool.eq_false_or_eq_true (x.toList == y.toList) with hxy | hxy
      · have HQ2 := Lib.hid (HSt.out.trans (show _ = namesEq (ns.drop (j + 1)) (ns'.drop (j + 1)) by rw [hxy, Bool.true_and]))
        clear HSt
        go_wp2
        go_quiet (fail)
        go_wp2
        go_roundw
        case rel => exact ⟨j + 1, HLT.out, by go_num, HQ2, below_drewN hbl _⟩
        case measure => have := HLT.out; simp [intOf]; omega
      · have HF := Lib.hid (HS2.out.trans (show _ = false by rw [HSt.out, hxy]; rfl))
        clear HSt
        go_wp2
        go_quiet (fail)
        go_wp2
        go_ret
        exact ⟨by rw [HF.out]; rfl, below_trans hB (below_drewN hbl _)⟩
    · obtain rfl : j = ns.length := by omega
      have HQ2 : Hid (namesEq ns ns' = true) := Lib.hid (by rw [HQ.out, List.drop_of_length_le (Nat.le_refl _), List.drop_of_length_le (by have := HN.out; omega)]; rfl)
      have HS3 := Lib.hid (HS2.out.trans (show _ = sameL is is' by rw [HQ2.out, Bool.true_and]))
      clear HQ
      have A4' := cell_below hbl A4
      have b4' := cell_below hbl b4
      go_wp2
      go_loopw [6] (fun i wr => ∃ j : Nat, j ≤ is.length ∧ i = .int .i64 j ∧ Hid (sameL is is' = sameL (is.drop j) (is'.drop j)) ∧ Below (((w.alloc (.cells #[.int .i64 k, .int .i64 n, .string s, .slice an ns.length cn, .slice ai is.length ci] 25)).alloc (.cells #[.int .i64 k', .int .i64 n', .string s', .slice an' ns'.length cn', .slice ai' is'.length ci'] 25))).heap.size ((w.alloc (.cells #[.int .i64 k, .int .i64 n, .string s, .slice an ns.length cn, .slice ai is.length ci] 25)).alloc (.cells #[.int .i64 k', .int .i64 n', .string s', .slice an' ns'.length cn', .slice ai' is'.length ci'] 25)) wr) (fun i _ => is.length - (intOf i).toNat)
      case atStart => exact ⟨0, by omega, rfl, rfl, by first | exact hbl | exact below_drewN hbl _⟩
      case round =>
        clear hbl c3 d3 A4' b4'
        obtain ⟨j, hj, rfl, HQ, hbl⟩ := hrel
        have c4 := cell_below hbl A4
        have d4 := cell_below hbl b4
        by_cases hlt : j < is.length
        · have hlt' : j < is'.length := by have := HI.out; omega
          have st1 := (hit.below hB).below hbl
          have st2 := (hit'.below hB).below hbl
          rcases st1 with rfl | ⟨b, off, rfl, _, hall⟩
          · simp at hlt
          rcases st2 with rfl | ⟨b', off', rfl, _, hall'⟩
          · simp at hlt'
          obtain ⟨cs, hrj, hlj⟩ := hall.at j hlt
          obtain ⟨ds, hrj', hlj'⟩ := hall'.at j hlt'
          have hszj : is[j].size ≤ m := by have h1 := JV.size_le (List.getElem_mem hlt); rw [JV.size] at hm; omega
          have hstep : sameL (is.drop j) (is'.drop j) = (same is[j] is'[j] && sameL (is.drop (j + 1)) (is'.drop (j + 1))) := by
            rw [List.drop_eq_getElem_cons hlt, List.drop_eq_getElem_cons hlt', sameL]
          have HSt := Lib.hid (HQ.out.trans hstep)
          have HLT := Lib.hid hlt
          clear hstep HQ hall hall'
          have hcall := fun (d : Nat) (os : Array Obj) => regB (IH.out is[j] is'[j] hszj cs ds (Sort.grow (redrawn wr d) os) ok ok' (hrj.below (below_regrown wr d os)) (hrj'.below (below_regrown wr d os)))
          generalize is[j] = x at *
          generalize is'[j] = y at *
          cases x with
          | mk xk xn xs xns xis =>
          cases y with
          | mk yk yn ys yns yis =>
          rw [rep_mk] at hrj hrj'
          obtain ⟨_, _, _, xan, xcn, xai, xci, rfl, _⟩ := hrj
          obtain ⟨_, _, _, yan, ycn, yai, yci, rfl, _⟩ := hrj'
          obtain ⟨l0, l1, l2, l3, l4⟩ := lie5 hlj
          obtain ⟨m0, m1, m2, m3, m4⟩ := lie5 hlj'
          generalize same (.mk xk xn xs xns xis) (.mk yk yn ys yns yis) = bb at *
          clear hlj hlj'
          go_wp2_with fail
          have R4 := cell_regrown c4
          have S4 := cell_regrown d4
          have L0 := cell_regrown l0
          have L1 := cell_regrown l1
          have L2 := cell_regrown l2
          have L3 := cell_regrown l3
          have L4 := cell_regrown l4
          have M0 := cell_regrown m0
          have M1 := cell_regrown m1
          have M2 := cell_regrown m2
          have M3 := cell_regrown m3
          have M4 := cell_regrown m4
          refine wp_region_quiet_below (by kernel_rfl) (by kernel_rfl) ?_
          repeat (go_big_quiet_step ((go_at_call 15; exact hcall _ _)))
          refine wpQuiet_nil ?_
          intro _ hw'
          obtain ⟨⟨dq, osq⟩, hw''⟩ := hw'
          subst hw''
          clear R4 S4 L0 L1 L2 L3 L4 M0 M1 M2 M3 M4 l0 l1 l2 l3 l4 m0 m1 m2 m3 m4 hcall c4 d4
          have hbl2 := hbl.trans ((below_regrown wr dq osq).mono hbl.size)
          clear hbl
          cases bb with
          | true =>
            have HQ2 := Lib.hid (HSt.out.trans (Bool.true_and _))
            go_wp2
            go_roundw
            case rel => exact ⟨j + 1, HLT.out, by go_num, HQ2, hbl2⟩
            case measure => have := HLT.out; simp [intOf]; omega
          | false =>
            have HF := Lib.hid (HS3.out.trans (HSt.out.trans (Bool.false_and _)))
            go_wp2
            go_ret
            exact ⟨by rw [HF.out]; rfl, below_trans hB hbl2⟩
        · obtain rfl : j = is.length := by omega
          have HQ3 := Lib.hid (HS3.out.trans (show _ = true by rw [HQ.out, List.drop_of_length_le (Nat.le_refl _), List.drop_of_length_le (by have := HI.out; omega)]; rfl))
          clear HQ
          go_wp2
          go_ret
          exact ⟨by rw [HQ3.out]; rfl, below_trans hB hbl⟩
theorem equal_all (m : Nat) : EqualSaid m := by
  induction m with
  | zero => intro t _ hm; have := JV.size_pos t; omega
  | succ m ih => exact equal_step m ih
theorem equal_c (t u : JV) (cs ds : List Value) (w : World) (ok ok' : Nat → Prop) (hr : Rep w ok t cs) (hu : Rep w ok' u ds) :
    Calls Tryz.prog 15 #[.agg cs.toArray, .agg ds.toArray] w fun e w' => e = .returned (.bool (same t u)) ∧ Below w.heap.size w w' :=
  equal_all t.size t u (Nat.le_refl _) cs ds w ok ok' hr hu
end Go.Proofs.YtnmojmmgkipjcaaGreatDoor
