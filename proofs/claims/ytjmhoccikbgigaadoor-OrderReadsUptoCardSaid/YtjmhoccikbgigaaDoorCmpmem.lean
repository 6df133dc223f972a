/- The walks of the order of values, program. Conditions: none. -/
import Derived.Test.YtjmhoccikbgigaaDoorEqualw
import Derived.Test.YtjmhoccikbgigaaDoorOwn2
import Derived.Test.YtjmhoccikbgigaaDoorCmpl
import Derived.Test.YtjmhoccikbgigaaDoorOrdtexts
import Derived.Deep.CutRange
import Derived.Deep.DeepCutAuto
namespace Go.Proofs.YtjmhoccikbgigaaDoor
open Go.RowKit
def CmpSaid (m : Nat) : Prop := ∀ (t u : JV), t.size ≤ m → ∀ (cs ds : List Value) (w : World) (ok ok' : Nat → Prop), Rep w ok t cs → Rep w ok' u ds →
    Calls Tryd.prog 15 #[.agg cs.toArray, .agg ds.toArray] w fun e w' => e = .returned (.int .i64 (ord t u)) ∧ Below w.heap.size w w'
set_option maxHeartbeats 2000000 in
theorem cmpFunc_c (m : Nat) (ih : CmpSaid m) (a b : List JV) (ha : ∀ t ∈ a, t.size ≤ m) (A B : Option Addr) (ca cb : Nat) (hca : a.length ≤ ca ∧ ca ≤ maxLen) (hcb : b.length ≤ cb ∧ cb ≤ maxLen) (w : World) (ok ok' : Nat → Prop) (hA : ItemsAt w ok A a) (hB : ItemsAt w ok' B b) :
    Calls Tryd.prog 38 #[.slice A a.length ca, .slice B b.length cb, .func (.func 15) #[] #[]] w fun e w' => e = .returned (.int .i64 (ordL a b)) ∧ Below w.heap.size w w' := by
  unfold maxLen at hca hcb
  have IH := Lib.hid ih
  have HS := Lib.hid ha
  clear ih ha
  go_enter Tryd.func38, Tryd.ntmps38
  go_wp2
  go_loopw [13] (fun i wr => ∃ j : Nat, j ≤ a.length ∧ j ≤ b.length ∧ i = .int .i64 j ∧ Hid (ordL a b = ordL (a.drop j) (b.drop j)) ∧ Below w.heap.size w wr) (fun i _ => a.length - (intOf i).toNat)
  case atStart => exact ⟨0, by omega, by omega, rfl, rfl, Below.refl _ _⟩
  case round =>
    obtain ⟨j, hj, hj', rfl, HQ, hbl⟩ := hrel
    by_cases hlt : j < a.length
    · rcases hA.below hbl with rfl | ⟨bA, oA, rfl, _, hall⟩
      · simp at hlt
      obtain ⟨cs, hr, hl⟩ := hall.at j hlt
      by_cases hlt' : j < b.length
      · rcases hB.below hbl with rfl | ⟨bB, oB, rfl, _, hall'⟩
        · simp at hlt'
        obtain ⟨ds, hr', hl'⟩ := hall'.at j hlt'
        have hsz := HS.out a[j] (List.getElem_mem hlt)
        have HSt := Lib.hid (HQ.out.trans (ordL_step hlt hlt'))
        have HLT := Lib.hid (And.intro hlt hlt')
        clear HQ hall hall'
        obtain ⟨xan, xcn, xai, xci, rfl⟩ := hr.form
        obtain ⟨yan, ycn, yai, yci, rfl⟩ := hr'.form
        obtain ⟨l0, l1, l2, l3, l4⟩ := lie5 hl
        obtain ⟨m0, m1, m2, m3, m4⟩ := lie5 hl'
        generalize a[j] = x at *
        generalize b[j] = y at *
        have hcall := fun (w' : World) (hb : Below wr.heap.size wr w') => IH.out x y hsz _ _ w' ok ok' (hr.below hb) (hr'.below hb)
        generalize ord x y = o at HSt hcall
        have hb1 : Below wr.heap.size wr (wr.alloc (.cells #[.int .i64 x.kind, .int .i64 x.int, .string x.text, .slice xan x.names.length xcn, .slice xai x.items.length xci] 28)) := (Below.refl _ _).alloc (Nat.le_refl _) _
        have hb2 : Below ((wr.alloc (.cells #[.int .i64 x.kind, .int .i64 x.int, .string x.text, .slice xan x.names.length xcn, .slice xai x.items.length xci] 28))).heap.size (wr.alloc (.cells #[.int .i64 x.kind, .int .i64 x.int, .string x.text, .slice xan x.names.length xcn, .slice xai x.items.length xci] 28)) ((wr.alloc (.cells #[.int .i64 x.kind, .int .i64 x.int, .string x.text, .slice xan x.names.length xcn, .slice xai x.items.length xci] 28)).alloc (.cells #[.int .i64 y.kind, .int .i64 y.int, .string y.text, .slice yan y.names.length ycn, .slice yai y.items.length yci] 28)) := (Below.refl _ _).alloc (Nat.le_refl _) _
        have M0 := cell_below hb1 m0
        have M1 := cell_below hb1 m1
        have M2 := cell_below hb1 m2
        have M3 := cell_below hb1 m3
        have M4 := cell_below hb1 m4
        have hcall2 := hcall ((wr.alloc (.cells #[.int .i64 x.kind, .int .i64 x.int, .string x.text, .slice xan x.names.length xcn, .slice xai x.items.length xci] 28)).alloc (.cells #[.int .i64 y.kind, .int .i64 y.int, .string y.text, .slice yan y.names.length ycn, .slice yai y.items.length yci] 28)) (below_trans hb1 hb2)
        clear m0 m1 m2 m3 m4 hl hl' hr hr' hcall
        go_wp2_with fail
        refine hcall2.mono ?_; rintro e w1 ⟨rfl, hb3⟩
        have hbl2 := hbl.trans ((below_trans (below_trans hb1 hb2) hb3).mono hbl.size)
        clear hcall2 M0 M1 M2 M3 M4 l0 l1 l2 l3 l4 hb1 hb2 hb3 hbl
        by_cases ho : o = 0
        · have hob : (o != 0) = false := by simp [ho]
          have HQ2 := Lib.hid (HSt.out.trans (if_neg (by simp [ho])))
          clear ho HSt
          go_wp2
          go_roundw
          case rel => exact ⟨j + 1, HLT.out.1, HLT.out.2, by go_num, HQ2, hbl2⟩
          case measure => have := HLT.out.1; simp [intOf]; omega
        · have hob : (o != 0) = true := by simp [ho]
          have HF := Lib.hid (HSt.out.trans (if_pos ho))
          clear ho HSt
          go_wp2
          go_ret
          exact ⟨by rw [HF.out]; rfl, hbl2⟩
      · have HV := Lib.hid (HQ.out.trans (ordL_end (by omega) hj hj'))
        have HV2 := Lib.hid (HV.out.trans (sgn_gt (by omega)))
        obtain rfl : j = b.length := by omega
        clear HQ HV hall
        obtain ⟨xan, xcn, xai, xci, rfl⟩ := hr.form
        obtain ⟨l0, l1, l2, l3, l4⟩ := lie5 hl
        generalize a[b.length] = x at *
        clear hr hl
        go_wp2
        go_ret
        exact ⟨by rw [HV2.out]; rfl, hbl.trans (((Below.refl _ _).alloc (Nat.le_refl _) _).mono hbl.size)⟩
    · have HV := Lib.hid (HQ.out.trans (ordL_end (by omega) hj hj'))
      clear HQ
      obtain rfl : j = a.length := by omega
      rcases Nat.lt_or_ge a.length b.length with e | e
      · have HV2 := Lib.hid (HV.out.trans (sgn_lt (by omega)))
        clear HV
        go_wp2
        go_ret
        exact ⟨by rw [HV2.out]; rfl, hbl⟩
      · have HV2 := Lib.hid (HV.out.trans (show sgn (a.length : Int) b.length = 0 by rw [show (b.length : Int) = a.length by omega]; exact sgn_eq _))
        clear HV
        go_wp2
        go_ret
        exact ⟨by rw [HV2.out]; rfl, hbl⟩
set_option maxHeartbeats 4000000 in
theorem members_c (m : Nat) (ih : CmpSaid m) (k n : Int) (s : ByteArray) (ns : List ByteArray) (is : List JV) (k' n' : Int) (s' : ByteArray) (ns' : List ByteArray) (is' : List JV) (hsz : ∀ t ∈ is, t.size ≤ m) (cs ds : List Value) (w : World) (ok ok' : Nat → Prop)
    (hr : Rep w ok (.mk k n s ns is) cs) (hu : Rep w ok' (.mk k' n' s' ns' is') ds) :
    Calls Tryd.prog 39 #[.agg cs.toArray, .agg ds.toArray] w fun e w' => e = .returned (.int .i64 (ordM ns is ns' is')) ∧ Below w.heap.size w w' := by
  rw [rep_mk] at hr hu
  obtain ⟨_, _, _, an, cn, ai, ci, rfl, hcn, hci, hst, hit⟩ := hr
  obtain ⟨_, _, _, an', cn', ai', ci', rfl, hcn', hci', hst', hit'⟩ := hu
  unfold maxLen at hcn hci hcn' hci'
  have IH := Lib.hid ih
  clear ih
  have HSZ := Lib.hid hsz
  clear hsz
  obtain ⟨a0, a1, a2, a3, a4⟩ := cells5 w (.int .i64 k) (.int .i64 n) (.string s) (.slice an ns.length cn) (.slice ai is.length ci) 28
  have hb0 : Below w.heap.size w (w.alloc (.cells #[.int .i64 k, .int .i64 n, .string s, .slice an ns.length cn, .slice ai is.length ci] 28)) := (Below.refl _ _).alloc (Nat.le_refl _) _
  obtain ⟨b0, b1, b2, b3, b4⟩ := cells5 (w.alloc (.cells #[.int .i64 k, .int .i64 n, .string s, .slice an ns.length cn, .slice ai is.length ci] 28)) (.int .i64 k') (.int .i64 n') (.string s') (.slice an' ns'.length cn') (.slice ai' is'.length ci') 28
  have hb1 : Below ((w.alloc (.cells #[.int .i64 k, .int .i64 n, .string s, .slice an ns.length cn, .slice ai is.length ci] 28))).heap.size (w.alloc (.cells #[.int .i64 k, .int .i64 n, .string s, .slice an ns.length cn, .slice ai is.length ci] 28)) ((w.alloc (.cells #[.int .i64 k, .int .i64 n, .string s, .slice an ns.length cn, .slice ai is.length ci] 28)).alloc (.cells #[.int .i64 k', .int .i64 n', .string s', .slice an' ns'.length cn', .slice ai' is'.length ci'] 28)) := (Below.refl _ _).alloc (Nat.le_refl _) _
  have hB := below_trans hb0 hb1
  have A0 := cell_below hb1 a0
  have A1 := cell_below hb1 a1
  have A2 := cell_below hb1 a2
  have A3 := cell_below hb1 a3
  have A4 := cell_below hb1 a4
  clear a0 a1 a2 a3 a4
  simp only [World.size_alloc] at b0 b1 b2 b3 b4
  go_enter Tryd.func39, Tryd.ntmps39
  go_wp2
  go_cut [5, 6] from 10 to 23 (fun v5 v6 wx => v5 = .int .i64 (min ns.length is.length : Nat) ∧ v6 = .int .i64 (min ns'.length is'.length : Nat) ∧ ∃ d, wx = (((w.alloc (.cells #[.int .i64 k, .int .i64 n, .string s, .slice an ns.length cn, .slice ai is.length ci] 28)).alloc (.cells #[.int .i64 k', .int .i64 n', .string s', .slice an' ns'.length cn', .slice ai' is'.length ci'] 28))).drewN d)
  case first =>
    go_quiet (fail)
    all_goals go_wp2
    all_goals go_meet
    all_goals exact ⟨congrArg (Value.int .i64) (by omega), congrArg (Value.int .i64) (by omega), _, rfl⟩
  case rest =>
    obtain ⟨rfl, rfl, d, rfl⟩ := hcut
    have hp : min ns.length is.length ≤ ns.length ∧ min ns.length is.length ≤ is.length := by omega
    have hq : min ns'.length is'.length ≤ ns'.length ∧ min ns'.length is'.length ≤ is'.length := by omega
    have HEND := Lib.hid (fun (j : Nat) (h : j = min ns.length is.length ∨ j = min ns'.length is'.length) (h1 : j ≤ min ns.length is.length) (h2 : j ≤ min ns'.length is'.length) => ordM_end (ns := ns) (a := is) (ns' := ns') (b := is') h h1 h2)
    generalize min ns.length is.length = p at *
    generalize min ns'.length is'.length = q at *
    go_upto_region 2 with (fail)
    go_cut [26, 27] from 24 to 27 (fun v6 v7 wx => v6 = .int .i64 (min p q : Nat) ∧ v7 = .int .i64 0 ∧ wx = (((w.alloc (.cells #[.int .i64 k, .int .i64 n, .string s, .slice an ns.length cn, .slice ai is.length ci] 28)).alloc (.cells #[.int .i64 k', .int .i64 n', .string s', .slice an' ns'.length cn', .slice ai' is'.length ci'] 28))).drewN d)
    case first =>
      go_wp2
      all_goals go_meet
      all_goals exact ⟨congrArg (Value.int .i64) (by omega), rfl, rfl⟩
    case rest =>
      obtain ⟨rfl, rfl, rfl⟩ := hcut
      have hr1 : min p q ≤ p ∧ min p q ≤ q := by omega
      have HMN := Lib.hid (show min p q = p ∨ min p q = q by omega)
      generalize min p q = r at *
      go_wp2
      go_loopw [27] (fun i wr => ∃ j : Nat, j ≤ r ∧ i = .int .i64 j ∧ Hid (ordM ns is ns' is' = ordM (ns.drop j) (is.drop j) (ns'.drop j) (is'.drop j)) ∧ Below (((w.alloc (.cells #[.int .i64 k, .int .i64 n, .string s, .slice an ns.length cn, .slice ai is.length ci] 28)).alloc (.cells #[.int .i64 k', .int .i64 n', .string s', .slice an' ns'.length cn', .slice ai' is'.length ci'] 28))).heap.size (((w.alloc (.cells #[.int .i64 k, .int .i64 n, .string s, .slice an ns.length cn, .slice ai is.length ci] 28)).alloc (.cells #[.int .i64 k', .int .i64 n', .string s', .slice an' ns'.length cn', .slice ai' is'.length ci'] 28))) wr) (fun i _ => r - (intOf i).toNat)
      case atStart => exact ⟨0, by omega, rfl, rfl, below_drewN (Below.refl _ _) _⟩
      case round =>
        obtain ⟨j, hj, rfl, HQ, hbl⟩ := hrel
        have c3 := cell_below hbl A3
        have c4 := cell_below hbl A4
        have d3 := cell_below hbl b3
        have d4 := cell_below hbl b4
        by_cases hlt : j < r
        · have hlt1 : j < ns.length := by omega
          have hlt2 : j < is.length := by omega
          have hlt3 : j < ns'.length := by omega
          have hlt4 : j < is'.length := by omega
          rcases (hst.below hB).below hbl with rfl | ⟨b, off, rfl, _, hl⟩
          · simp at hlt1
          rcases (hst'.below hB).below hbl with rfl | ⟨b', off', rfl, _, hl'⟩
          · simp at hlt3
          rcases (hit.below hB).below hbl with rfl | ⟨e, eff, rfl, _, hall⟩
          · simp at hlt2
          rcases (hit'.below hB).below hbl with rfl | ⟨e', eff', rfl, _, hall'⟩
          · simp at hlt4
          have n1 := hl j (.string ns[j]) (by simp [hlt1])
          have n2 := hl' j (.string ns'[j]) (by simp [hlt3])
          obtain ⟨cs, hrj, hlj⟩ := hall.at j hlt2
          obtain ⟨ds, hrj', hlj'⟩ := hall'.at j hlt4
          have hszj := HSZ.out is[j] (List.getElem_mem hlt2)
          have HSt := Lib.hid (HQ.out.trans (ordM_step hlt1 hlt2 hlt3 hlt4))
          have HLT := Lib.hid hlt
          clear HQ hl hl' hall hall'
          have hcall := fun (wr : World) (hrj : Rep wr ok is[j] cs) (hrj' : Rep wr ok' is'[j] ds) (d : Nat) (os : Array Obj) => regB (IH.out is[j] is'[j] hszj cs ds (Sort.grow (redrawn wr d) os) ok ok' (hrj.below (below_regrown wr d os)) (hrj'.below (below_regrown wr d os)))
          obtain ⟨xan, xcn, xai, xci, rfl⟩ := hrj.form
          obtain ⟨yan, ycn, yai, yci, rfl⟩ := hrj'.form
          obtain ⟨l0, l1, l2, l3, l4⟩ := lie5 hlj
          obtain ⟨m0, m1, m2, m3, m4⟩ := lie5 hlj'
          clear hlj hlj'
          generalize is[j] = x at *
          generalize is'[j] = y at *
          generalize ns[j] = nx at *
          generalize ns'[j] = ny at *
          generalize ord x y = o at *
          have hcmp := fun (d : Nat) => quietS (cmpStr_c nx ny (wr.drewN d))
          generalize txt nx.data.toList ny.data.toList = tt at *
          by_cases ht : tt = 0
          case neg =>
            have htb : (tt != 0) = true := by simp [ht]
            have HF := Lib.hid (HSt.out.trans (if_pos ht))
            clear ht HSt hcall hrj hrj'
            go_wp2
            go_quiet ((go_at_call 37; exact hcmp _))
            go_wp2
            go_ret
            exact ⟨by rw [HF.out]; rfl, below_trans hB (below_drewN hbl _)⟩
          case pos =>
            have htb : (tt != 0) = false := by simp [ht]
            have HSt2 := Lib.hid (HSt.out.trans (if_neg (by simp [ht])))
            clear ht HSt
            go_wp2
            go_quiet ((go_at_call 37; exact hcmp _))
            go_wp2_with fail
            have hblq := below_drewN hbl nq
            have hcall2 := hcall (wr.drewN nq) (hrj.below (below_drewN' wr nq)) (hrj'.below (below_drewN' wr nq))
            have R4 := cell_regrown (w := wr.drewN nq) c4
            have S4 := cell_regrown (w := wr.drewN nq) d4
            have L0 := cell_regrown (w := wr.drewN nq) l0
            have L1 := cell_regrown (w := wr.drewN nq) l1
            have L2 := cell_regrown (w := wr.drewN nq) l2
            have L3 := cell_regrown (w := wr.drewN nq) l3
            have L4 := cell_regrown (w := wr.drewN nq) l4
            have M0 := cell_regrown (w := wr.drewN nq) m0
            have M1 := cell_regrown (w := wr.drewN nq) m1
            have M2 := cell_regrown (w := wr.drewN nq) m2
            have M3 := cell_regrown (w := wr.drewN nq) m3
            have M4 := cell_regrown (w := wr.drewN nq) m4
            clear hcall hrj hrj' hcmp n1 n2 c3 d3 c4 d4 l0 l1 l2 l3 l4 m0 m1 m2 m3 m4 hbl
            generalize wr.drewN nq = W at *
            refine wp_region_quiet_below (by kernel_rfl) (by kernel_rfl) ?_
            repeat (go_big_quiet_step ((go_at_call 15; exact hcall2 _ _)))
            refine wpQuiet_nil ?_
            intro _ hw'
            obtain ⟨⟨dq, osq⟩, hw''⟩ := hw'
            subst hw''
            clear R4 S4 L0 L1 L2 L3 L4 M0 M1 M2 M3 M4 hcall2
            have hbl2 := hblq.trans ((below_regrown W dq osq).mono hblq.size)
            clear hblq
            by_cases ho : o = 0
            · have hob : (o != 0) = false := by simp [ho]
              have HQ2 := Lib.hid (HSt2.out.trans (if_neg (by simp [ho])))
              clear ho HSt2
              go_wp2
              go_roundw
              case rel => exact ⟨j + 1, HLT.out, by go_num, HQ2, hbl2⟩
              case measure => have := HLT.out; simp [intOf]; omega
            · have hob : (o != 0) = true := by simp [ho]
              have HF := Lib.hid (HSt2.out.trans (if_pos ho))
              clear ho HSt2
              go_wp2
              go_ret
              exact ⟨by rw [HF.out]; rfl, below_trans hB hbl2⟩
        · have hje : j = r := by omega
          have HV := Lib.hid (HQ.out.trans (HEND.out j (by have := HMN.out; omega) (by omega) (by omega)))
          clear HQ
          subst hje
          go_wp2_with fail
          refine (cmpInt_c _ _ _).mono ?_; rintro e w1 ⟨rfl, rfl⟩
          go_wp2
          go_ret
          exact ⟨by rw [HV.out]; rfl, below_trans hB hbl⟩
end Go.Proofs.YtjmhoccikbgigaaDoor
