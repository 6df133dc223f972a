/- The walks of the document's reader of schemas: schema and rule. Conditions: what the tree holds is at most 2 to the 40. -/
import Derived.Test.YtnmojmmgkipjcaaGreatDoorPlaina
import Derived.Deep.RegionWith
namespace Go.Proofs.YtnmojmmgkipjcaaGreatDoor
open Go.RowKit
theorem dfails_c (C m e : Nat) (w : World) (h : ChkAt w C m 0) : Calls Tryz.prog 27 #[.pointer (some ⟨C, 0, none⟩), .int .i64 (e : Int)] w fun r w' => r = .returned (.tuple #[]) ∧ w' = w.setCell ⟨C, 1, none⟩ (.int .i64 (e : Int)) := by
  obtain ⟨⟨c0, c1⟩, ⟨f0, f1⟩, hlt⟩ := h.cells
  clear h
  go_enter Tryz.func27, Tryz.ntmps27
  go_wp2
  go_end0
  exact ⟨rfl, rfl⟩
theorem Rep.upd {w w' : World} {ok : Nat → Prop} {t : JV} {cs : List Value} {C : Nat} (h : Rep w ok t cs) (hC : ¬ ok C) (hu : Upd w w' (some C) (some C)) : Rep w' ok t cs :=
  Rep.kept (fun b hlt ho => ⟨ho, hu.block hlt (fun e => hC (by injection e with e; rw [e]; exact ho))⟩) t cs h
theorem ItemsAt.upd {w w' : World} {ok : Nat → Prop} {a : Option Addr} {l : List JV} {C : Nat} (h : ItemsAt w ok a l) (hC : ¬ ok C) (hu : Upd w w' (some C) (some C)) : ItemsAt w' ok a l :=
  h.kept (fun b hlt ho => ⟨ho, hu.block hlt (fun e => hC (by injection e with e; rw [e]; exact ho))⟩)
theorem StrsAt.upd {w w' : World} {ok : Nat → Prop} {a : Option Addr} {l : List ByteArray} {C : Nat} (h : StrsAt w ok a l) (hC : ¬ ok C) (hu : Upd w w' (some C) (some C)) : StrsAt w' ok a l :=
  h.kept (fun b hlt ho => ⟨ho, hu.block hlt (fun e => hC (by injection e with e; rw [e]; exact ho))⟩)
theorem StrsAt.at {w : World} {ok : Nat → Prop} {a : Option Addr} {l : List ByteArray} (h : StrsAt w ok a l) (j : Nat) (hj : j < l.length) : ∃ b off, a = some ⟨b, off, none⟩ ∧ w.cell? ⟨b, off + j, none⟩ = some (.string l[j]) := by
  rcases h with rfl | ⟨b, off, rfl, _, hl⟩
  · simp at hj
  · exact ⟨b, off, rfl, hl j _ (by simp [hj])⟩
def DSchemaSaid (m : Nat) : Prop := ∀ (t : JV), t.size ≤ m → okT t → t.bulk ≤ 1099511627776 → ∀ (d n : Nat), d ≤ 9 → n ≤ 128 → ∀ (cs : List Value) (w : World) (ok : Nat → Prop) (C : Nat), ¬ ok C → Rep w ok t cs → ChkAt w C n 0 →
  Calls Tryz.prog 22 #[.pointer (some ⟨C, 0, none⟩), .agg cs.toArray, .int .i64 (d : Int)] w (DPost w C (readS t d n))
def DRuleSaid (m : Nat) : Prop := ∀ (t : JV), t.size ≤ m → okT t → t.bulk ≤ 1099511627776 → ∀ (nm : ByteArray) (d n : Nat), d ≤ 8 → n ≤ 128 → ∀ (cs : List Value) (w : World) (ok : Nat → Prop) (C : Nat), ¬ ok C → Rep w ok t cs → ChkAt w C n 0 →
  Calls Tryz.prog 28 #[.pointer (some ⟨C, 0, none⟩), .string nm, .agg cs.toArray, .int .i64 (d : Int)] w (DPost w C (readRule t nm d n))
theorem dpost_bad {w W w' : World} {C n e : Nat} {r : RS} (hb : Below w.heap.size w W) (hc : ChkAt W C n 0) (hr : r = .bad e) (he : e = 210 ∨ e = 211) (hn : n ≤ 128) (hw : w' = W.setCell ⟨C, 1, none⟩ (.int .i64 (e : Int))) : DPost w C r (.returned (.tuple #[])) w' := by
  subst hw
  exact ⟨rfl, n, e, Lib.hid (hc.setE e), Lib.hid (.of_bad hr he), Lib.hid ((Upd.of_below hb _).trans (Upd.of_setCell _ ⟨C, 1, none⟩ _)), hn⟩
theorem dpost_ok {w W : World} {C n : Nat} {r : RS} (hb : Below w.heap.size w W) (hc : ChkAt W C n 0) (hr : r = .ok n) (hn : n ≤ 128) : DPost w C r (.returned (.tuple #[])) W :=
  ⟨rfl, n, 0, Lib.hid hc, Lib.hid (.of_ok hr hn), Lib.hid (Upd.of_below hb _), hn⟩
theorem dpost_upd {w W W' : World} {C p E : Nat} {r : RS} (hb : Below w.heap.size w W) (hu : Upd W W' (some C) (some C)) (hc : ChkAt W' C p E) (hr : CntAt r p E) (hp : p ≤ 128) : DPost w C r (.returned (.tuple #[])) W' :=
  ⟨rfl, p, E, Lib.hid hc, Lib.hid hr, Lib.hid ((Upd.of_below hb _).trans hu), hp⟩
def DRuleFor (m : Nat) (nm : ByteArray) : Prop := ∀ (t : JV), t.size ≤ m → okT t → t.bulk ≤ 1099511627776 → ∀ (d n : Nat), d ≤ 8 → n ≤ 128 → ∀ (cs : List Value) (w : World) (ok : Nat → Prop) (C : Nat), ¬ ok C → Rep w ok t cs → ChkAt w C n 0 →
  Calls Tryz.prog 28 #[.pointer (some ⟨C, 0, none⟩), .string nm, .agg cs.toArray, .int .i64 (d : Int)] w (DPost w C (readRule t nm d n))
set_option maxRecDepth 20000 in
set_option maxHeartbeats 8000000 in
theorem dschema_step (m : Nat) (ih : DRuleSaid m) : DSchemaSaid (m + 1) := by
  intro t hm hok hbk d n hd hn cs w ok C hC hr hc
  obtain ⟨k, i, s, ns, is⟩ := t
  have hr0 := hr
  rw [rep_mk] at hr
  obtain ⟨hkk, hii, _, an, cn, ai, ci, rfl, hcn, hci, hst, hit⟩ := hr
  unfold maxLen at hcn hci
  rw [okT] at hok
  have hisl := JV.len_le is
  have hbb : is.length ≤ 1099511627776 ∧ ∀ x ∈ is, x.bulk ≤ 1099511627776 := by
    rw [JV.bulk] at hbk
    refine ⟨?_, fun x hx => by have := JV.bulk_le hx; omega⟩
    have h1 : is.length ≤ JV.bulks is := by
      clear hit hisl hci hcn hbk hr0 hok hm
      induction is with
      | nil => simp
      | cons y r ih => cases y; simp only [JV.bulks, JV.bulk, List.length_cons]; omega
    omega
  have hsz : ∀ x ∈ is, x.size ≤ m := fun x hx => by have h1 := JV.size_le hx; rw [JV.size] at hm; omega
  have hb0 : Below w.heap.size w (w.alloc (.cells #[.int .i64 k, .int .i64 i, .string s, .slice an ns.length cn, .slice ai is.length ci] 25)) := (Below.refl _ _).alloc (Nat.le_refl _) _
  obtain ⟨a0, a1, a2, a3, a4⟩ := cells5' w (.int .i64 k) (.int .i64 i) (.string s) (.slice an ns.length cn) (.slice ai is.length ci) 25
  have HC0 := Lib.hid (hc.below hb0)
  have HST := Lib.hid (hst.below hb0)
  have HIT := Lib.hid (hit.below hb0)
  have HB0 := Lib.hid hb0
  have HIH := Lib.hid ih
  have HOK := Lib.hid hok
  have HBB := Lib.hid hbb
  have HSZ := Lib.hid hsz
  have HNC := Lib.hid hC
  have hCl := hc.cells.2.2
  have hCl0 : C < (w.alloc (.cells #[.int .i64 k, .int .i64 i, .string s, .slice an ns.length cn, .slice ai is.length ci] 25)).heap.size := by simp; omega
  have hCn : w.heap.size ≠ C := by omega
  obtain ⟨⟨c0, c1⟩, ⟨f0, f1⟩, _⟩ := HC0.out.cells
  have hbnn : is.length ≤ 9223372036854775807 := by omega
  clear hr0 hc hst hit hb0 ih hok hbb hsz hC hkk hii hm hbk
  by_cases h6 : k = 6
  case neg =>
    have HT := Lib.hid (show readS (.mk k i s ns is) d n = .bad 210 by rw [readS, if_neg h6])
    have hk2 : (k != 6) = true := by simp [h6]
    clear h6 a1 a2 a3 a4
    go_enter Tryz.func22, Tryz.ntmps22
    go_wp2_with (go_at_call 27; refine (dfails_c C n 210 _ HC0.out).mono ?_; rintro e w1 ⟨rfl, hw1⟩; have HW1 := Lib.hid hw1; clear hw1)
    go_end0
    exact dpost_bad HB0.out HC0.out HT.out (by omega) (by omega) HW1.out
  subst h6
  by_cases h8 : 8 < d
  · have HT := Lib.hid (show readS (.mk 6 i s ns is) d n = .bad 211 by rw [readS, if_pos rfl, if_pos h8])
    have hd8 : (8 : Int) < (d : Int) := by omega
    clear h8 a1 a2 a3 a4
    go_enter Tryz.func22, Tryz.ntmps22
    go_wp2_with (go_at_call 27; refine (dfails_c C n 211 _ HC0.out).mono ?_; rintro e w1 ⟨rfl, hw1⟩; have HW1 := Lib.hid hw1; clear hw1)
    go_end0
    exact dpost_bad HB0.out HC0.out HT.out (by omega) (by omega) HW1.out
  have HT := Lib.hid (show readS (.mk 6 i s ns is) d n = readRules is ns d n by rw [readS, if_pos rfl, if_neg h8])
  have hd8 : ¬ (8 : Int) < (d : Int) := by omega
  have hd9 : d ≤ 8 := by omega
  have HLN := Lib.hid (HOK.out.1 rfl)
  go_enter Tryz.func22, Tryz.ntmps22
  go_wp2
  have HX := Lib.hid (heap_alloc_new w (.cells #[.int .i64 6, .int .i64 i, .string s, .slice an ns.length cn, .slice ai is.length ci] 25))
  generalize hW0 : w.alloc (.cells #[.int .i64 6, .int .i64 i, .string s, .slice an ns.length cn, .slice ai is.length ci] 25) = W0 at *
  have HB := Lib.hid HB0.out
  have hXl : w.heap.size < W0.heap.size := by rw [← hW0]; simp
  clear hW0 c0 c1 f0 f1 a0 a1 a2 a3 a4
  go_loopw [6] (fun i wr => ∃ (j p E : Nat), j ≤ is.length ∧ i = .int .i64 j ∧ Hid (ChkAt wr C p E) ∧ Hid (Upd W0 wr (some C) (some C)) ∧ p ≤ 128 ∧ Hid ((E = 0 ∧ readRules is ns d n = readRules (is.drop j) (ns.drop j) d p) ∨ (readRules is ns d n = .bad E ∧ (E = 210 ∨ E = 211)))) (fun i _ => is.length - (intOf i).toNat)
  case atStart => exact ⟨0, n, 0, by omega, rfl, HC0, Lib.hid (Upd.refl _ _), hn, Lib.hid (.inl ⟨rfl, rfl⟩)⟩
  case round =>
    obtain ⟨j, p, E, hj, rfl, HCA, HU, hp, HQ⟩ := hrel
    obtain ⟨⟨q0, q1⟩, ⟨g0, g1⟩, hCr⟩ := HCA.out.cells
    have hx := (HU.out.block hXl (by intro e; injection e with e; omega)).trans HX.out
    obtain ⟨⟨a0, a1, a2, a3, a4⟩, _⟩ := cellsOf5 hx
    have HUS := HU.out.grown.size
    clear hx
    by_cases hlt : j < is.length
    · by_cases hE : E = 0
      · subst hE
        have HQ1 := Lib.hid (show readRules is ns d n = readRules (is.drop j) (ns.drop j) d p from by
          rcases HQ.out with h | h
          · exact h.2
          · rcases h.2 with h | h <;> cases h)
        have hln : j < ns.length := by have := HLN.out; omega
        have HQ2 := Lib.hid (show readRules is ns d n = if p = 128 then .bad 211 else match readRule is[j] ns[j] d (p + 1) with | .bad e => .bad e | .ok m => readRules (is.drop (j + 1)) (ns.drop (j + 1)) d m by
          rw [HQ1.out, List.drop_eq_getElem_cons hlt, List.drop_eq_getElem_cons hln, readRules]
          rfl)
        clear HQ HQ1
        by_cases hp8 : p = 128
        · have HT2 := Lib.hid (show readS (.mk 6 i s ns is) d n = .bad 211 by rw [HT.out, HQ2.out, if_pos hp8])
          have hpp : (128 : Int) ≤ (p : Int) := by omega
          clear HQ2 hp8
          go_wp2_with (go_at_call 27; refine (dfails_c C p 211 _ HCA.out).mono ?_; rintro e w1 ⟨rfl, hw1⟩; have HW1 := Lib.hid hw1; clear hw1)
          go_end0
          rw [HW1.out]
          exact dpost_upd HB.out (HU.out.trans (Upd.of_setCell _ ⟨C, 1, none⟩ _)) (HCA.out.setE 211) (.of_bad HT2.out (by omega)) hp
        · have HQ3 := Lib.hid (HQ2.out.trans (if_neg hp8))
          have hpp : ¬ (128 : Int) ≤ (p : Int) := by omega
          have hp1 : p + 1 ≤ 128 := by omega
          obtain ⟨b, off, rfl, hnc⟩ := (HST.out.upd HNC.out HU.out).at j hln
          obtain ⟨b2, off2, an2, cn2, ai2, ci2, rfl, hrj, hlj⟩ := (HIT.out.upd HNC.out HU.out).at j hlt
          obtain ⟨l0, l1, l2, l3, l4⟩ := lie5 hlj
          have hb1 : b ≠ C := fun e => by
            rcases HST.out with h | ⟨b', o', h, ho, _⟩
            · rw [h] at hln; simp at hln
            · injection h with h; injection h with h; exact HNC.out (by rw [← e, h]; exact ho)
          have hb2 : b2 ≠ C := fun e => by
            rcases HIT.out with h | ⟨b', o', h, ho, _⟩
            · rw [h] at hlt; simp at hlt
            · injection h with h; injection h with h; exact HNC.out (by rw [← e, h]; exact ho)
          have HCA1 := Lib.hid (HCA.out.setN (p + 1))
          have HU1 := Lib.hid (HU.out.trans (Upd.of_setCell wr ⟨C, 0, none⟩ (.int .i64 ((p + 1 : Nat) : Int))))
          have HCL := Lib.hid (fun (W : World) (hbW : Below (wr.setCell ⟨C, 0, none⟩ (.int .i64 ((p + 1 : Nat) : Int))).heap.size (wr.setCell ⟨C, 0, none⟩ (.int .i64 ((p + 1 : Nat) : Int))) W) => (HIH.out is[j] (HSZ.out _ (List.getElem_mem hlt)) (okTs_at HOK.out.2 j hlt) (HBB.out.2 _ (List.getElem_mem hlt)) ns[j] d (p + 1) hd9 hp1 _ W ok C HNC.out ((hrj.upd HNC.out (Upd.of_setCell _ _ _)).below hbW) (HCA1.out.below hbW)).mono (R' := fun e w2 => e = .returned (.tuple #[]) ∧ ∃ m E, Hid (ChkAt w2 C m E) ∧ Hid (CntAt (readRule is[j] ns[j] d (p + 1)) m E) ∧ Hid (Upd (wr.setCell ⟨C, 0, none⟩ (.int .i64 ((p + 1 : Nat) : Int))) w2 (some C) (some C)) ∧ m ≤ 128) (fun e w2 ⟨h1, m2, E2, h2, h3, h4, h5⟩ => ⟨h1, m2, E2, h2, h3, Lib.hid ((Upd.of_below hbW _).trans h4.out), h5⟩))
          rw [show ((p + 1 : Nat) : Int) = (p : Int) + 1 by omega] at HCL HCA1 HU1
          clear hrj hlj hp8 hpp HQ2
          generalize readRule is[j] ns[j] d (p + 1) = rr at *
          generalize ns[j] = nm at *
          generalize is[j] = x at *
          have hpp : ¬ (128 : Int) ≤ (p : Int) := by omega
          go_wp2
          go_region_with (go_at_call 28; refine (HCL.out _ (by repeat (first | with_reducible exact Below.refl _ _ | with_reducible refine below_drewN ?_ _ | with_reducible refine Below.drew ?_ | with_reducible refine Below.alloc ?_ (by first | (simp; done) | (simp; omega)) _ | with_reducible refine Below.setCell ?_ (by first | (simp; done) | (simp; omega)) _))).mono ?_; rintro ee w2 ⟨rfl, p2, E2, HC2, HN2, HU2, hp2⟩)
          all_goals (
            have HQ4 := Lib.hid (show (E2 = 0 ∧ readRules is ns d n = readRules (is.drop (j + 1)) (ns.drop (j + 1)) d p2) ∨ (readRules is ns d n = .bad E2 ∧ (E2 = 210 ∨ E2 = 211)) from by
              rcases HN2.out with ⟨e, h1, h2, h3⟩ | ⟨h1, h2, h3⟩
              · right
                rw [HQ3.out, h1]
                exact ⟨by rw [h2], h3⟩
              · left
                rw [HQ3.out, h1]
                exact ⟨h2, rfl⟩)
            have HU3 := Lib.hid (HU1.out.trans HU2.out)
            go_wp2
            go_roundw
            case rel => exact ⟨j + 1, p2, E2, by omega, by go_num, HC2, HU3, hp2, HQ4⟩
            case measure => simp [intOf]; omega)
      · have hE2 : ((E : Int) == 0) = false := by rw [beq_eq_false_iff_ne]; omega
        have HT2 := Lib.hid (show CntAt (readS (.mk 6 i s ns is) d n) p E from by
          rw [HT.out]
          rcases HQ.out with h | h
          · exact absurd h.1 hE
          · exact .of_bad h.1 h.2)
        clear HQ hE
        go_wp2
        go_end0
        exact dpost_upd HB.out HU.out HCA.out HT2.out hp
    · obtain rfl : j = is.length := by omega
      have HT2 := Lib.hid (show CntAt (readS (.mk 6 i s ns is) d n) p E from by
        rw [HT.out]
        rcases HQ.out with h | h
        · rw [h.1, h.2, List.drop_length, readRules]
          exact .of_ok rfl hp
        · exact .of_bad h.1 h.2)
      clear HQ
      go_wp2
      go_end0
      exact dpost_upd HB.out HU.out HCA.out HT2.out hp
end Go.Proofs.YtnmojmmgkipjcaaGreatDoor
