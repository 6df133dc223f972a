/- The walk of the law OrderBytes. Conditions: the tables of package utf8 lie as their texts lay them; what a tree holds is at most 2 to the 40. -/
import Derived.Test.YtjmhoccikbgigaaDoorCompareslaw
import Derived.Test.YtjmhoccikbgigaaDoorBytesw
import Derived.Test.YtjmhoccikbgigaaDoorBuf
import Derived.Laws.OwnMore
namespace Go.Proofs.YtjmhoccikbgigaaDoor
open Go.RowKit
theorem bytes_form {w : World} {v : Value} {l : List UInt8} (h : Byts w v l) :
    ∃ a cap, v = .slice a l.length cap ∧ l.length ≤ cap ∧ cap ≤ maxLen ∧ (l = [] ∨ ∃ g, a = some ⟨g, 0, none⟩) := by
  obtain ⟨a, cap, rfl, h1, h2, h3⟩ := Row.form h
  refine ⟨a, cap, rfl, h1, h2, ?_⟩
  rcases h3 with ⟨rfl, h3, _⟩ | ⟨g, rfl, _⟩
  · exact .inl (List.eq_nil_of_length_eq_zero h3)
  · exact .inr ⟨g, rfl⟩
theorem byTy : ByteTy Tryd.prog 34 5 := ⟨by kernel_rfl, by kernel_rfl, by kernel_rfl⟩
/-- string(b) -/
theorem byts_string {w : World} {v : Value} {l : List UInt8} (h : Byts w v l) : (convert 34 9 v).run Tryd.prog w = .ok (.string ⟨l.toArray⟩) w :=
  run_buf_string byTy (base := 0) (E := 5) h 9 Tryd.underlying9
/-- b[j] = c -/
theorem byts_store {w : World} {g j cap : Nat} {l : List UInt8} (h : Byts w (.slice (some ⟨g, 0, none⟩) l.length cap) l) (c : UInt8) :
    Byts (w.setCell ⟨g, j, none⟩ (.int .u8 (c.toNat : Int))) (.slice (some ⟨g, 0, none⟩) l.length cap) (l.set j c) ∧ Upd w (w.setCell ⟨g, j, none⟩ (.int .u8 (c.toNat : Int))) (some g) (some g) := by
  obtain ⟨h1, h2⟩ := World.ownsRow.stored h j (.int .u8 (c.toNat : Int))
  refine ⟨?_, h2, .inl rfl⟩
  unfold Byts Row
  rw [List.length_set, ← List.map_set] at *
  exact h1
theorem byts_other {w w' : World} {v v' : Value} {l : List UInt8} {r' : Option Nat} (h : Byts w v l) (hu : Upd w w' v'.ownBlock r') (hne : v.ownBlock = none ∨ v.ownBlock ≠ v'.ownBlock) : Byts w' v l := Row.kept h hu hne
/-- a row of nothing that came in -/
def Fresh (B : Nat) (v : Value) : Prop := ∀ g, v.ownBlock = some g → B ≤ g
theorem fresh_ne {w : World} {v v' : Value} {l : List UInt8} (h : Byts w v l) (hf : Fresh w.heap.size v') : v'.ownBlock = none ∨ v'.ownBlock ≠ v.ownBlock := by
  cases e : v'.ownBlock with
  | none => exact .inl rfl
  | some g =>
    refine .inr fun e2 => ?_
    have h1 := hf g e
    have h2 := Row.lt h e2.symm
    omega
set_option maxRecDepth 20000 in
set_option maxHeartbeats 8000000 in
theorem orderBytes_c (t : JV) (cs : List Value) (w : World) (ok : Nat → Prop) (hr : Rep w ok t cs) (hbt : t.bulk ≤ 1099511627776) (hT : Lib.Utf8Tabs 0 1 w) :
    Calls Tryd.prog 5 #[.agg cs.toArray] w fun e w' => e = .returned (.bool true) ∧ Below w.heap.size w w' := by
  obtain ⟨an, cn, ai, ci, rfl⟩ := hr.form
  obtain ⟨a0, a1, a2, a3, a4⟩ := cells5 w (.int .i64 t.kind) (.int .i64 t.int) (.string t.text) (.slice an t.names.length cn) (.slice ai t.items.length ci) 28
  have hb0 : Below w.heap.size w (w.alloc (.cells #[.int .i64 t.kind, .int .i64 t.int, .string t.text, .slice an t.names.length cn, .slice ai t.items.length ci] 28)) := (Below.refl _ _).alloc (Nat.le_refl _) _
  have HRt_0 := Lib.hid (hr.below hb0)
  have HT_0 := Lib.hid (utf8_below hT hb0)
  have HB_0 := Lib.hid hb0
  clear hr hT hb0
  have a0_0 := a0
  have a1_0 := a1
  have a2_0 := a2
  have a3_0 := a3
  have a4_0 := a4
  clear a0 a1 a2 a3 a4
  have hl1 := large_t t an ai cn ci (w.alloc (.cells #[.int .i64 t.kind, .int .i64 t.int, .string t.text, .slice an t.names.length cn, .slice ai t.items.length ci] 28)) ok HRt_0.out hbt
  go_enter Tryd.func5, Tryd.ntmps5
  go_wp2_with fail
  refine hl1.mono ?_; rintro e w1 ⟨rfl, hb1⟩
  have a0_1 := cell_below hb1 a0_0
  have a1_1 := cell_below hb1 a1_0
  have a2_1 := cell_below hb1 a2_0
  have a3_1 := cell_below hb1 a3_0
  have a4_1 := cell_below hb1 a4_0
  have HRt_1 := Lib.hid (HRt_0.out.below hb1)
  have HT_1 := Lib.hid (utf8_below HT_0.out hb1)
  have HB_1 := Lib.hid (HB_0.out.trans (hb1.mono HB_0.out.size))
  clear a0_0 a1_0 a2_0 a3_0 a4_0 HRt_0 HT_0 HB_0 hl1 hb1
  cases hlt : largeB t with
  | true =>
    clear hlt
    go_wp2
    go_ret
    exact ⟨rfl, HB_1.out⟩
  | false =>
    clear hlt
    have hc1 := copy_t t an ai cn ci w1 ok HRt_1.out hbt
    go_wp2_with fail
    refine hc1.mono ?_; rintro e w2 ⟨an2, cn2, ai2, ci2, rfl, hr3, hb3⟩
    have HB_1' := Lib.hid HB_1.out
    have hb4 : Below w2.heap.size w2 (w2.alloc (.cells #[.int .i64 t.kind, .int .i64 t.int, .string t.text, .slice an2 t.names.length cn2, .slice ai2 t.items.length ci2] 28)) := (Below.refl _ _).alloc (Nat.le_refl _) _
    have hb34 := below_trans hb3 hb4
    obtain ⟨e0, e1, e2, e3, e4⟩ := cells5 w2 (.int .i64 t.kind) (.int .i64 t.int) (.string t.text) (.slice an2 t.names.length cn2) (.slice ai2 t.items.length ci2) 28
    have a0_2 := cell_below hb34 a0_1
    have a1_2 := cell_below hb34 a1_1
    have a2_2 := cell_below hb34 a2_1
    have a3_2 := cell_below hb34 a3_1
    have a4_2 := cell_below hb34 a4_1
    have HRt_2 := Lib.hid (HRt_1.out.below hb34)
    have HT_2 := Lib.hid (utf8_below HT_1.out hb34)
    have HB_2 := Lib.hid (HB_1.out.trans (hb34.mono HB_1.out.size))
    clear a0_1 a1_1 a2_1 a3_1 a4_1 HRt_1 HT_1 HB_1 hc1
    have HBs := Lib.hid (show Below w.heap.size w w2 from HB_1'.out.trans (hb3.mono HB_1'.out.size))
    have HRc_2 := Lib.hid (hr3.below hb4)
    clear hr3 hb3 hb4 hb34
    have e0_2 := e0
    have e1_2 := e1
    have e2_2 := e2
    have e3_2 := e3
    have e4_2 := e4
    clear e0 e1 e2 e3 e4
    have hcb := bytes_c t hbt _ (w2.alloc (.cells #[.int .i64 t.kind, .int .i64 t.int, .string t.text, .slice an2 t.names.length cn2, .slice ai2 t.items.length ci2] 28)) _ HRc_2.out HT_2.out
    go_wp2_with fail
    refine hcb.mono ?_; rintro e w4 ⟨v1, rfl, hv, hb, hf⟩
    have hsz : w2.heap.size < w4.heap.size := by have := hb.size; simp only [World.size_alloc] at this; omega
    have a0_3 := cell_below hb a0_2
    have a1_3 := cell_below hb a1_2
    have a2_3 := cell_below hb a2_2
    have a3_3 := cell_below hb a3_2
    have a4_3 := cell_below hb a4_2
    have e0_3 := cell_below hb e0_2
    have e1_3 := cell_below hb e1_2
    have e2_3 := cell_below hb e2_2
    have e3_3 := cell_below hb e3_2
    have e4_3 := cell_below hb e4_2
    have HRt_3 := Lib.hid (HRt_2.out.below hb)
    have HRc_3 := Lib.hid (HRc_2.out.below hb)
    have HT_3 := Lib.hid (utf8_below HT_2.out hb)
    have HB_3 := Lib.hid (HB_2.out.trans (hb.mono HB_2.out.size))
    clear a0_2 a1_2 a2_2 a3_2 a4_2 e0_2 e1_2 e2_2 e3_2 e4_2 HRt_2 HRc_2 HT_2 HB_2
    have HV1_3 := Lib.hid hv
    have HV1w4 := Lib.hid hv
    have HF1 := Lib.hid (show Fresh (World.heap (w2.alloc (.cells #[.int .i64 t.kind, .int .i64 t.int, .string t.text, .slice an2 t.names.length cn2, .slice ai2 t.items.length ci2] 28))).size v1 from hf)
    clear hcb hv hb hf
    have hcb := bytes_c t hbt _ w4 _ HRc_3.out HT_3.out
    go_wp2_with fail
    refine hcb.mono ?_; rintro e w5 ⟨v2, rfl, hv, hb, hf⟩
    have a0_4 := cell_below hb a0_3
    have a1_4 := cell_below hb a1_3
    have a2_4 := cell_below hb a2_3
    have a3_4 := cell_below hb a3_3
    have a4_4 := cell_below hb a4_3
    have e0_4 := cell_below hb e0_3
    have e1_4 := cell_below hb e1_3
    have e2_4 := cell_below hb e2_3
    have e3_4 := cell_below hb e3_3
    have e4_4 := cell_below hb e4_3
    have HRt_4 := Lib.hid (HRt_3.out.below hb)
    have HRc_4 := Lib.hid (HRc_3.out.below hb)
    have HV1_4 := Lib.hid (byts_kept HV1_3.out hb)
    have HV1w5 := Lib.hid (byts_kept HV1_3.out hb)
    have HT_4 := Lib.hid (utf8_below HT_3.out hb)
    have HB_4 := Lib.hid (HB_3.out.trans (hb.mono HB_3.out.size))
    clear a0_3 a1_3 a2_3 a3_3 a4_3 e0_3 e1_3 e2_3 e3_3 e4_3 HRt_3 HRc_3 HV1_3 HT_3 HB_3
    have HV2_4 := Lib.hid hv
    have HF2 := Lib.hid (show Fresh (World.heap w4).size v2 from hf)
    clear hcb hv hb hf
    have hcb := refBytes_c t hbt _ w5 _ HRt_4.out
    go_wp2_with fail
    refine hcb.mono ?_; rintro e w6 ⟨v3, rfl, hv, hb, hf⟩
    have a0_5 := cell_below hb a0_4
    have a1_5 := cell_below hb a1_4
    have a2_5 := cell_below hb a2_4
    have a3_5 := cell_below hb a3_4
    have a4_5 := cell_below hb a4_4
    have e0_5 := cell_below hb e0_4
    have e1_5 := cell_below hb e1_4
    have e2_5 := cell_below hb e2_4
    have e3_5 := cell_below hb e3_4
    have e4_5 := cell_below hb e4_4
    have HRt_5 := Lib.hid (HRt_4.out.below hb)
    have HRc_5 := Lib.hid (HRc_4.out.below hb)
    have HV1_5 := Lib.hid (byts_kept HV1_4.out hb)
    have HV2_5 := Lib.hid (byts_kept HV2_4.out hb)
    have HT_5 := Lib.hid (utf8_below HT_4.out hb)
    have HB_5 := Lib.hid (HB_4.out.trans (hb.mono HB_4.out.size))
    clear a0_4 a1_4 a2_4 a3_4 a4_4 e0_4 e1_4 e2_4 e3_4 e4_4 HRt_4 HRc_4 HV1_4 HV2_4 HT_4 HB_4
    have HV3_5 := Lib.hid hv
    have HF3 := Lib.hid (show Fresh (World.heap w5).size v3 from hf)
    clear hcb hv hb hf
    have HN2 := Lib.hid (show v2.ownBlock = none ∨ v2.ownBlock ≠ v1.ownBlock from fresh_ne (w := w4) HV1w4.out HF2.out)
    have HN3 := Lib.hid (show v3.ownBlock = none ∨ v3.ownBlock ≠ v1.ownBlock from fresh_ne (w := w5) HV1w5.out HF3.out)
    clear HV1w4 HV1w5
    have HN1 := Lib.hid (show ∀ g, v1.ownBlock = some g → w.heap.size ≤ g from fun g hg => by have h1 := HF1.out g hg; have h2 := HBs.out.size; simp only [World.size_alloc] at h1; omega)
    have HLL := Lib.hid (encOf_len t)
    have heq := equal_c t t _ _ w6 _ _ HRc_5.out HRt_5.out
    simp only [same_self] at heq
    generalize chk t 0 = c at *
    generalize encOf t = l at *
    obtain ⟨A1, p1, rfl, q1, r1, s1⟩ := bytes_form HV1_5.out
    have x1 := byts_string HV1_5.out
    have x2 := byts_string HV2_5.out
    have x3 := byts_string HV3_5.out
    have HS1 := Lib.hid s1
    clear s1
    go_wp2_with fail
    refine (num_c _ _).mono ?_; rintro e w7 ⟨rfl, rfl⟩
    go_wp2_with fail
    refine heq.mono ?_; rintro e w7 ⟨rfl, hb⟩
    have HV1_6 := Lib.hid (byts_kept HV1_5.out hb)
    have HV2_6 := Lib.hid (byts_kept HV2_5.out hb)
    have HV3_6 := Lib.hid (byts_kept HV3_5.out hb)
    have HB_6 := Lib.hid (HB_5.out.trans (hb.mono HB_5.out.size))
    clear HV1_5 HV2_5 HV3_5 HT_5 a0_5 a1_5 a2_5 a3_5 a4_5 e0_5 e1_5 e2_5 e3_5 e4_5 HRt_5 HRc_5 HB_5 x1 x2 x3
    clear heq hb
    unfold maxLen at r1
    go_wp2
    go_loopw [10] (fun i wr => ∃ (j : Nat) (l' : List UInt8), j ≤ l.length ∧ i = .int .i64 j ∧ l'.length = l.length ∧ Hid (Byts wr (.slice A1 l.length p1) l') ∧ Hid (Upd w7 wr (Value.ownBlock (.slice A1 l.length p1)) (Value.ownBlock (.slice A1 l.length p1)))) (fun i _ => l.length - (intOf i).toNat)
    case atStart => exact ⟨0, l, by omega, rfl, rfl, HV1_6, Upd.refl _ _⟩
    case round =>
      obtain ⟨j, l', hj, rfl, hl', HW, HU⟩ := hrel
      by_cases hlt : j < l.length
      · obtain ⟨G, rfl⟩ : ∃ G, A1 = some ⟨G, 0, none⟩ := by
          rcases HS1.out with h | h
          · rw [h] at hlt; simp at hlt
          · exact h
        have hst := byts_store (w := wr) (j := j) (by have h := HW.out; rw [← hl'] at h; exact h) 238
        have hce : wr.cell? ⟨G, j, none⟩ = some (.int .u8 ((l'[j]'(by omega)).toNat : Int)) := by
          have h := World.ownsRow.cellAt (g := G) (cap := p1) (by have h := HW.out; unfold Byts Row at h; rw [← hl'] at h; exact h) j (by omega)
          rw [h]; simp [show j < l'.length by omega]
        have hfz : wr.frozen? ⟨G, j, none⟩ = false := World.ownsRow.frozenAt (by have h := HW.out; unfold Byts Row at h; rw [← hl'] at h; exact h) j
        have HST := Lib.hid hst
        have HLT := Lib.hid hlt
        have HLE := Lib.hid hl'
        clear hst
        go_wp2
        go_roundw
        case rel => exact ⟨j + 1, l'.set j 238, by have := HLT.out; omega, by go_num, by rw [List.length_set]; exact HLE.out, Lib.hid (by have h := HST.out.1; rw [HLE.out] at h; exact h), Lib.hid (HU.out.trans HST.out.2)⟩
        case measure => have := HLT.out; simp [intOf]; omega
      · obtain rfl : j = l.length := by omega
        clear hlt
        go_wp2
        go_loopw [4, 11] (fun b i ws => ∃ (k : Nat) (l2 : List UInt8), k ≤ 64 ∧ i = .int .i64 k ∧ l2.length = l.length + k ∧ Hid (Byts ws b l2) ∧ Hid (Upd w7 ws (Value.ownBlock (.slice A1 l.length p1)) (Value.ownBlock b))) (fun _ i _ => 64 - (intOf i).toNat)
        case atStart => exact ⟨0, l', by omega, rfl, by omega, HW, HU⟩
        case round =>
          clear HW HU
          obtain ⟨k, l2, hk, rfl, hl2, HW, HU⟩ := hrel
          by_cases hk64 : k < 64
          · have hb1 : Below wr.heap.size wr (wr.alloc (.cells #[.int .u8 221] 5)) := (Below.refl _ _).alloc (Nat.le_refl _) _
            have hv2 := byts_kept HW.out hb1
            have hcell : (wr.alloc (.cells #[.int .u8 221] 5)).cell? ⟨wr.heap.size, 0, none⟩ = some (.int .u8 221) := by simp [go_sem]
            have hlen : l2.length < 70368744177664 := by have := HLL.out; omega
            have HB1 := Lib.hid hb1
            have HK := Lib.hid hk64
            have HE := Lib.hid hl2
            clear hb1 HLL hl2
            go_wp2_with (at_builtin; refine wpList_byte rfl _ _ rfl _ l2 rfl hv2 _ _ 221 rfl hcell rfl hlen ?_; intro v9 w9 hv9 hu9; have HR9 := Lib.hid (And.intro hv9 (HU.out.trans ((Upd.of_below HB1.out _).trans hu9))); clear hv9 hu9 hv2 hcell)
            go_roundw
            case rel => exact ⟨k + 1, l2 ++ [221], by have := HK.out; omega, by go_num, by have := HE.out; simp; omega, Lib.hid HR9.out.1, Lib.hid HR9.out.2⟩
            case measure => have := HK.out; simp [intOf]; omega
          · obtain rfl : k = 64 := by omega
            have y2 := byts_string (byts_other (v' := (.slice A1 l.length p1)) HV2_6.out HU.out HN2.out)
            have y3 := byts_string (byts_other (v' := (.slice A1 l.length p1)) HV3_6.out HU.out HN3.out)
            have hli := live_c wr
            have HBB := Lib.hid (HB_6.out.trans (HU.out.below HB_6.out.size HN1.out))
            clear hk64
            go_wp2_with fail
            refine hli.mono ?_; rintro e w8 ⟨rfl, hb8⟩
            have HB8 := Lib.hid (HBB.out.trans (hb8.mono HBB.out.size))
            clear hli hb8 y2 y3
            go_wp2
            go_ret
            exact ⟨rfl, HB8.out⟩
end Go.Proofs.YtjmhoccikbgigaaDoor
