/- The walk of the document's laid. Conditions: each object has a name for each item; what is there and what comes in has less than 2 to the 44 bytes. -/
import Derived.Test.YtjmhoccikbgigaaDoorLaidw
import Derived.Test.YtjmhoccikbgigaaDoorRefint
namespace Go.Proofs.YtjmhoccikbgigaaDoor
open Go.RowKit
def RefLaidSaid (m : Nat) : Prop := ∀ (t : JV), t.size ≤ m → okT t → ∀ (cs : List Value) (w : World) (v : Value) (l : List UInt8), Rep w (fun b => v.ownBlock ≠ some b) t cs → Byts w v l → l.length + 10 * t.bulk < 17592186044416 →
    Calls Tryd.prog 45 #[v, .agg cs.toArray] w fun e w' => ∃ v', e = .returned v' ∧ Byts w' v' (l ++ enc t) ∧ Upd w w' v.ownBlock v'.ownBlock
set_option maxRecDepth 20000 in
set_option maxHeartbeats 8000000 in
theorem refLaid_step (m : Nat) (ih : RefLaidSaid m) : RefLaidSaid (m + 1) := by
  intro t hm hok cs w v l hr hv hl
  have hel := enc_len t
  cases t with
  | mk k n s ns is =>
  rw [rep_mk] at hr
  obtain ⟨hk, hn, hs, an, cn, ai, ci, rfl, hcn, hci, hst, hit⟩ := hr
  rw [okT] at hok
  have hvlt : v.ownBlock ≠ some w.heap.size := fun e => by have := Row.lt hv e; omega
  rcases (show k = 3 ∨ k ≠ 3 by omega) with rfl | h3
  · have := refLaidInt_c n hn s an ai ns.length cn is.length ci w v l hv (by omega)
    rw [enc, if_neg (by decide), if_neg (by decide), if_neg (by decide), if_pos rfl]
    exact this
  have hb0 : Below w.heap.size w (w.alloc (.cells #[.int .i64 k, .int .i64 n, .string s, .slice an ns.length cn, .slice ai is.length ci] 28)) := (Below.refl _ _).alloc (Nat.le_refl _) _
  have hv0 := byts_kept hv hb0
  have hu0 := Lib.hid (Upd.of_below hb0 v.ownBlock)
  obtain ⟨a0, a1, a2, a3, a4⟩ := cells5 w (.int .i64 k) (.int .i64 n) (.string s) (.slice an ns.length cn) (.slice ai is.length ci) 28
  rcases (show k = 0 ∨ k ≠ 0 by omega) with rfl | h0
  · have HE := Lib.hid (show enc (.mk 0 n s ns is) = [5] by rw [enc]; simp)
    have hb1 : Below ((w.alloc (.cells #[.int .i64 0, .int .i64 n, .string s, .slice an ns.length cn, .slice ai is.length ci] 28))).heap.size (w.alloc (.cells #[.int .i64 0, .int .i64 n, .string s, .slice an ns.length cn, .slice ai is.length ci] 28)) (((w.alloc (.cells #[.int .i64 0, .int .i64 n, .string s, .slice an ns.length cn, .slice ai is.length ci] 28))).alloc (.cells #[.int .u8 5] 5)) := (Below.refl _ _).alloc (Nat.le_refl _) _
    have hv1 := byts_kept hv0 hb1
    have hcell : (((w.alloc (.cells #[.int .i64 0, .int .i64 n, .string s, .slice an ns.length cn, .slice ai is.length ci] 28))).alloc (.cells #[.int .u8 5] 5)).cell? ⟨w.heap.size + 1, 0, none⟩ = some (.int .u8 5) := by simp [go_sem]
    clear hok hst hit hv
    go_enter Tryd.func45, Tryd.ntmps45
    go_wp2_with (at_builtin; refine wpList_byte rfl _ _ rfl v l rfl hv1 _ _ 5 rfl hcell rfl (by omega) ?_; intro v2 w2 hv2 hu2; have HR := Lib.hid (And.intro hv2 ((hu0.out.trans (Upd.of_below hb1 _)).trans hu2)))
    go_ret
    exact ⟨_, rfl, by rw [HE.out]; exact HR.out.1, HR.out.2⟩
  rcases (show k = 1 ∨ k ≠ 1 by omega) with rfl | h1
  · have HE := Lib.hid (show enc (.mk 1 n s ns is) = [80] by rw [enc]; simp)
    have hb1 : Below ((w.alloc (.cells #[.int .i64 1, .int .i64 n, .string s, .slice an ns.length cn, .slice ai is.length ci] 28))).heap.size (w.alloc (.cells #[.int .i64 1, .int .i64 n, .string s, .slice an ns.length cn, .slice ai is.length ci] 28)) (((w.alloc (.cells #[.int .i64 1, .int .i64 n, .string s, .slice an ns.length cn, .slice ai is.length ci] 28))).alloc (.cells #[.int .u8 80] 5)) := (Below.refl _ _).alloc (Nat.le_refl _) _
    have hv1 := byts_kept hv0 hb1
    have hcell : (((w.alloc (.cells #[.int .i64 1, .int .i64 n, .string s, .slice an ns.length cn, .slice ai is.length ci] 28))).alloc (.cells #[.int .u8 80] 5)).cell? ⟨w.heap.size + 1, 0, none⟩ = some (.int .u8 80) := by simp [go_sem]
    clear hok hst hit hv
    go_enter Tryd.func45, Tryd.ntmps45
    go_wp2_with (at_builtin; refine wpList_byte rfl _ _ rfl v l rfl hv1 _ _ 80 rfl hcell rfl (by omega) ?_; intro v2 w2 hv2 hu2; have HR := Lib.hid (And.intro hv2 ((hu0.out.trans (Upd.of_below hb1 _)).trans hu2)))
    go_ret
    exact ⟨_, rfl, by rw [HE.out]; exact HR.out.1, HR.out.2⟩
  rcases (show k = 2 ∨ k ≠ 2 by omega) with rfl | h2
  · have HE := Lib.hid (show enc (.mk 2 n s ns is) = [81] by rw [enc]; simp)
    have hb1 : Below ((w.alloc (.cells #[.int .i64 2, .int .i64 n, .string s, .slice an ns.length cn, .slice ai is.length ci] 28))).heap.size (w.alloc (.cells #[.int .i64 2, .int .i64 n, .string s, .slice an ns.length cn, .slice ai is.length ci] 28)) (((w.alloc (.cells #[.int .i64 2, .int .i64 n, .string s, .slice an ns.length cn, .slice ai is.length ci] 28))).alloc (.cells #[.int .u8 81] 5)) := (Below.refl _ _).alloc (Nat.le_refl _) _
    have hv1 := byts_kept hv0 hb1
    have hcell : (((w.alloc (.cells #[.int .i64 2, .int .i64 n, .string s, .slice an ns.length cn, .slice ai is.length ci] 28))).alloc (.cells #[.int .u8 81] 5)).cell? ⟨w.heap.size + 1, 0, none⟩ = some (.int .u8 81) := by simp [go_sem]
    clear hok hst hit hv
    go_enter Tryd.func45, Tryd.ntmps45
    go_wp2_with (at_builtin; refine wpList_byte rfl _ _ rfl v l rfl hv1 _ _ 81 rfl hcell rfl (by omega) ?_; intro v2 w2 hv2 hu2; have HR := Lib.hid (And.intro hv2 ((hu0.out.trans (Upd.of_below hb1 _)).trans hu2)))
    go_ret
    exact ⟨_, rfl, by rw [HE.out]; exact HR.out.1, HR.out.2⟩
  rcases (show k = 4 ∨ k ≠ 4 by omega) with rfl | h4
  · have HE := Lib.hid (show enc (.mk 4 n s ns is) = 32 :: encT s.data.toList by rw [enc]; simp)
    have hb1 : Below ((w.alloc (.cells #[.int .i64 4, .int .i64 n, .string s, .slice an ns.length cn, .slice ai is.length ci] 28))).heap.size (w.alloc (.cells #[.int .i64 4, .int .i64 n, .string s, .slice an ns.length cn, .slice ai is.length ci] 28)) (((w.alloc (.cells #[.int .i64 4, .int .i64 n, .string s, .slice an ns.length cn, .slice ai is.length ci] 28))).alloc (.cells #[.int .u8 32] 5)) := (Below.refl _ _).alloc (Nat.le_refl _) _
    have hv1 := byts_kept hv0 hb1
    have hcell : (((w.alloc (.cells #[.int .i64 4, .int .i64 n, .string s, .slice an ns.length cn, .slice ai is.length ci] 28))).alloc (.cells #[.int .u8 32] 5)).cell? ⟨w.heap.size + 1, 0, none⟩ = some (.int .u8 32) := by simp [go_sem]
    have hsz : s.size < 17592186044416 := by rw [JV.bulk] at hl; omega
    clear hok hst hit hv
    go_enter Tryd.func45, Tryd.ntmps45
    go_wp2_with fail
    have a2d : ((w.alloc (.cells #[.int .i64 4, .int .i64 n, .string s, .slice an ns.length cn, .slice ai is.length ci] 28))).drew.cell? ⟨w.heap.size, 2, none⟩ = some (.string s) := a2
    have A2 := cell_below (Below.drew hb1) a2
    have hv1d : Byts (((w.alloc (.cells #[.int .i64 4, .int .i64 n, .string s, .slice an ns.length cn, .slice ai is.length ci] 28))).alloc (.cells #[.int .u8 32] 5)).drew v l := hv1
    have hcelld : (((w.alloc (.cells #[.int .i64 4, .int .i64 n, .string s, .slice an ns.length cn, .slice ai is.length ci] 28))).alloc (.cells #[.int .u8 32] 5)).drew.cell? ⟨w.heap.size + 1, 0, none⟩ = some (.int .u8 32) := hcell
    have HU1 := Lib.hid ((hu0.out.trans (Upd.of_below (Below.drew hb1) v.ownBlock)))
    clear hb1 hb0 hv1 hv0
    go_region_law (first
      | (refine step_byte (by rfl) _ _ (by rfl) v l (by rfl) hv1d _ _ 32 (by rfl) hcelld rfl (by omega) ?_; intro v2 w2 hv2 hu2; have r2 := hu2.cell A2 hvlt)
      | (go_simp; go_at_call 63; refine (refText_c v2 (l ++ [32]) s w2 hv2 (by rw [List.length_append]; simp; omega) hsz).mono ?_; rintro e w3 ⟨v3, rfl, hv3, hu3⟩))
    all_goals have HR := Lib.hid (And.intro hv3 ((HU1.out.trans hu2).trans hu3))
    all_goals clear hv3 hu3 hu2 hv2 r2 A2 a2d hv1d hcelld
    all_goals go_wp2
    all_goals go_ret
    all_goals exact ⟨_, rfl, by have h9 := HR.out.1; rw [HE.out]; rw [List.append_assoc] at h9; exact h9, HR.out.2⟩
  rcases (show k = 6 ∨ k ≠ 6 by omega) with rfl | h6
  · have HE := Lib.hid (show enc (.mk 6 n s ns is) = 48 :: (encM ns is ++ [1]) by rw [enc]; simp)
    have hni := hok.1 rfl
    rw [HE.out] at hel
    have hbl : l.length + (encM ns is).length + 2 < 17592186044416 := by simp only [List.length_cons, List.length_append, List.length_nil] at hel; omega
    rw [JV.bulk] at hl
    have HIH := Lib.hid ih
    have hok2 := Lib.hid hok.2
    have HSZ := Lib.hid (show ∀ t ∈ is, t.size ≤ m from fun t ht => by have h1 := JV.size_le ht; rw [JV.size] at hm; omega)
    have HIT := Lib.hid (hit.below hb0)
    have HST := Lib.hid (hst.below hb0)
    unfold maxLen at hci hcn
    have hb1 : Below ((w.alloc (.cells #[.int .i64 6, .int .i64 n, .string s, .slice an ns.length cn, .slice ai is.length ci] 28))).heap.size (w.alloc (.cells #[.int .i64 6, .int .i64 n, .string s, .slice an ns.length cn, .slice ai is.length ci] 28)) (((w.alloc (.cells #[.int .i64 6, .int .i64 n, .string s, .slice an ns.length cn, .slice ai is.length ci] 28))).alloc (.cells #[.int .u8 48] 5)) := (Below.refl _ _).alloc (Nat.le_refl _) _
    have hv1 := byts_kept hv0 hb1
    have hcell : (((w.alloc (.cells #[.int .i64 6, .int .i64 n, .string s, .slice an ns.length cn, .slice ai is.length ci] 28))).alloc (.cells #[.int .u8 48] 5)).cell? ⟨w.heap.size + 1, 0, none⟩ = some (.int .u8 48) := by simp [go_sem]
    have A4 := cell_below hb1 a4
    have HB1 := Lib.hid hb1
    clear hok hst hit hv hb0 hb1 hv0 ih
    go_enter Tryd.func45, Tryd.ntmps45
    go_wp2_with (at_builtin; refine wpList_byte rfl _ _ rfl v l rfl hv1 _ _ 48 rfl hcell rfl (by omega) ?_; intro v2 w2 hv2 hu2; have HU := Lib.hid ((Upd.of_below HB1.out _).trans hu2); have HV := Lib.hid hv2; have r4 := hu2.cell A4 hvlt; clear hv2 hu2 hv1 hcell A4)
    go_loopw [0, 7] (fun b i wr => ∃ j : Nat, j ≤ is.length ∧ i = .int .i64 j ∧ Byts wr b (l ++ 48 :: encM (ns.take j) (is.take j)) ∧ Hid (Upd (w.alloc (.cells #[.int .i64 6, .int .i64 n, .string s, .slice an ns.length cn, .slice ai is.length ci] 28)) wr v.ownBlock b.ownBlock)) (fun _ i _ => is.length - (intOf i).toNat)
    case atStart => exact ⟨0, by omega, rfl, by have := HV.out; simpa [encL, encM] using this, HU⟩
    case round =>
      clear HV HU r4
      obtain ⟨j, hj, rfl, hv, HU⟩ := hrel
      have k4 := HU.out.cell a4 hvlt
      have HIW := Lib.hid (HIT.out.kept (own_upd HU.out))
      by_cases hlt : j < is.length
      · rcases HIW.out with rfl | ⟨bI, oI, rfl, hoI, hall⟩
        · simp at hlt
        have k0 := HU.out.cell a0 hvlt
        have hltN : j < ns.length := by omega
        have k3 := HU.out.cell a3 hvlt
        have hpn := strs_take ns j hltN
        obtain ⟨bN, oN, hN1, hN2, hN3⟩ : ∃ bN oN, an = some ⟨bN, oN, none⟩ ∧ u0.ownBlock ≠ some bN ∧ wr.cell? ⟨bN, oN + j, none⟩ = some (.string ns[j]) := by
          rcases HST.out.kept (own_upd HU.out) with rfl | ⟨b, o, h1, h2, h3⟩
          · exact absurd hltN (by simp)
          · exact ⟨b, o, h1, h2, h3 j _ (by simp [hltN])⟩
        subst hN1
        obtain ⟨cs, hrj, hlj⟩ := hall.at j hlt
        have hoj := okTs_at hok2.out j hlt
        have hszj := HSZ.out is[j] (List.getElem_mem hlt)
        have hbj := JV.bulk_le (List.getElem_mem hlt)
        obtain ⟨xan, xcn, xai, xci, rfl⟩ := hrj.form
        obtain ⟨l0, l1, l2, l3, l4⟩ := lie5 hlj
        have HS := Lib.hid (show encM (ns.take (j + 1)) (is.take (j + 1)) = encM (ns.take j) (is.take j) ++ 2 :: (encT ns[j].data.toList ++ enc is[j]) by rw [List.take_succ_eq_append_getElem hlt, List.take_succ_eq_append_getElem (show j < ns.length by omega), encM_snoc _ _ _ _ (by simp; omega)])
        have hpl : (encM (ns.take j) (is.take j)).length ≤ 10 * strsBulk (ns.take j) + 10 * JV.bulks (is.take j) := encM_len _ _
        have hbt := bulks_take is j hlt
        have HLT := Lib.hid hlt
        clear hall hlj
        generalize is[j] = x at *
        generalize ns[j] = nm at *
        generalize encM (ns.take j) (is.take j) = pt at *
        have hbz : Below wr.heap.size wr (wr.alloc (.cells #[.int .u8 2] 5)) := (Below.refl _ _).alloc (Nat.le_refl _) _
        have hvz := byts_kept hv hbz
        have hcell : (wr.alloc (.cells #[.int .u8 2] 5)).cell? ⟨wr.heap.size, 0, none⟩ = some (.int .u8 2) := by simp [go_sem]
        have hbI : bI < wr.heap.size := cell_lt l0
        have X0 := cell_below hbz l0
        have X1 := cell_below hbz l1
        have X2 := cell_below hbz l2
        have X3 := cell_below hbz l3
        have X4 := cell_below hbz l4
        have K0 := cell_below hbz k0
        have K4 := cell_below hbz k4
        have K3 := cell_below hbz k3
        have N1 := cell_below hbz hN3
        clear k3 hN3
        have HBZ := Lib.hid (Upd.of_below hbz u0.ownBlock)
        have HRJ := Lib.hid hrj
        have hmn : v.ownBlock ≠ some w.heap.size → u0.ownBlock ≠ some w.heap.size := fun h => (own_upd HU.out w.heap.size (by simp only [World.size_alloc]; omega) h).1
        have hun := hmn hvlt
        clear l0 l1 l2 l3 l4 hbz hmn k0 hrj
        go_wp2_with (at_builtin; refine wpList_byte rfl _ _ rfl u0 (l ++ 48 :: pt) rfl hvz _ _ 2 rfl hcell rfl (by simp only [List.length_append, List.length_cons]; omega) ?_; intro v3 w3 hv3 hu3; have Y0 := hu3.cell X0 hoI; have Y1 := hu3.cell X1 hoI; have Y2 := hu3.cell X2 hoI; have Y3 := hu3.cell X3 hoI; have Y4 := hu3.cell X4 hoI; have Z0 := hu3.cell K0 hun; have Z4 := hu3.cell K4 hun; have N2 := hu3.cell N1 hN2; have Z3 := hu3.cell K3 hun; have HU3 := Lib.hid (HBZ.out.trans hu3); have HV3 := Lib.hid hv3; have hv3n := (own_upd hu3 bI (by simp only [World.size_alloc]; omega) hoI).1; have hv3w := (own_upd hu3 w.heap.size (by simp only [World.size_alloc]; have h9 := HU.out.grown.size; simp only [World.size_alloc] at h9; omega) hun).1; clear X0 X1 X2 X3 X4 K0 K4 k4 hcell hvz)
        have htx := refText_c v3 (l ++ 48 :: pt ++ [2]) nm w3 HV3.out (by simp only [List.length_append, List.length_cons, List.length_nil]; omega) (by omega)
        refine htx.mono ?_; rintro e w4 ⟨v4, rfl, hv4, hu4⟩
        have V0 := hu4.cell Y0 hv3n
        have V1 := hu4.cell Y1 hv3n
        have V2 := hu4.cell Y2 hv3n
        have V3 := hu4.cell Y3 hv3n
        have V4 := hu4.cell Y4 hv3n
        have U4 := hu4.cell Z4 hv3w
        have hlen4 := encT_len nm.data.toList
        have hnm : nm.data.toList.length = nm.size := by simp
        have HU4 := Lib.hid (HU3.out.trans hu4)
        have hla := HIH.out x hszj hoj _ w4 v4 (l ++ 48 :: pt ++ [2] ++ encT nm.data.toList) (Rep.kept (own_upd HU4.out) _ _ HRJ.out) hv4 (by simp only [List.length_append, List.length_cons, List.length_nil]; omega)
        clear htx Y0 Y1 Y2 Y3 Y4 Z0 Z3 Z4 N2 hv4 hu4
        go_wp2_with fail
        refine hla.mono ?_; rintro e w5 ⟨v5, rfl, hv5, hu5⟩
        have HR5 := Lib.hid (And.intro hv5 (HU.out.trans (HU4.out.trans hu5)))
        clear hla hv5 hu5 V0 V1 V2 V3 V4 U4
        go_wp2
        go_roundw
        case rel => exact ⟨j + 1, HLT.out, by go_num, by have h9 := HR5.out.1; rw [HS.out]; simpa [List.append_assoc] using h9, Lib.hid HR5.out.2⟩
        case measure => have := HLT.out; simp [intOf]; omega
      · obtain rfl : j = is.length := by omega
        have hte : encM (ns.take is.length) (is.take is.length) = encM ns is := by rw [List.take_length]; exact encM_take ns is hni
        rw [hte] at hv
        clear hte HIW
        have hb1 : Below wr.heap.size wr (wr.alloc (.cells #[.int .u8 1] 5)) := (Below.refl _ _).alloc (Nat.le_refl _) _
        have hv2 := byts_kept hv hb1
        have hcell : (wr.alloc (.cells #[.int .u8 1] 5)).cell? ⟨wr.heap.size, 0, none⟩ = some (.int .u8 1) := by simp [go_sem]
        go_wp2_with (at_builtin; refine wpList_byte rfl _ _ rfl u0 _ rfl hv2 _ _ 1 rfl hcell rfl (by simp only [List.length_append, List.length_cons]; omega) ?_; intro v3 w3 hv3 hu3; have HR3 := Lib.hid (And.intro hv3 (hu0.out.trans (HU.out.trans ((Upd.of_below hb1 _).trans hu3)))))
        go_ret
        exact ⟨_, rfl, by have h9 := HR3.out.1; rw [HE.out]; simpa [List.append_assoc] using h9, HR3.out.2⟩
  · have HE := Lib.hid (show enc (.mk k n s ns is) = 64 :: (encL is ++ [1]) by rw [enc, if_neg h0, if_neg h1, if_neg h2, if_neg h3, if_neg h4, if_neg h6])
    have b0 : (k == 0) = false := by simp [h0]
    have b1 : (k == 1) = false := by simp [h1]
    have b2 : (k == 2) = false := by simp [h2]
    have b3 : (k == 3) = false := by simp [h3]
    have b4 : (k == 4) = false := by simp [h4]
    have b6 : (k == 6) = false := by simp [h6]
    rw [HE.out] at hel
    have hbl : l.length + (encL is).length + 2 < 17592186044416 := by simp only [List.length_cons, List.length_append, List.length_nil] at hel; omega
    rw [JV.bulk] at hl
    have HIH := Lib.hid ih
    have hok2 := Lib.hid hok.2
    have HSZ := Lib.hid (show ∀ t ∈ is, t.size ≤ m from fun t ht => by have h1 := JV.size_le ht; rw [JV.size] at hm; omega)
    have HIT := Lib.hid (hit.below hb0)
    have HST := Lib.hid (hst.below hb0)
    unfold maxLen at hci hcn
    have hb1 : Below ((w.alloc (.cells #[.int .i64 k, .int .i64 n, .string s, .slice an ns.length cn, .slice ai is.length ci] 28))).heap.size (w.alloc (.cells #[.int .i64 k, .int .i64 n, .string s, .slice an ns.length cn, .slice ai is.length ci] 28)) (((w.alloc (.cells #[.int .i64 k, .int .i64 n, .string s, .slice an ns.length cn, .slice ai is.length ci] 28))).alloc (.cells #[.int .u8 64] 5)) := (Below.refl _ _).alloc (Nat.le_refl _) _
    have hv1 := byts_kept hv0 hb1
    have hcell : (((w.alloc (.cells #[.int .i64 k, .int .i64 n, .string s, .slice an ns.length cn, .slice ai is.length ci] 28))).alloc (.cells #[.int .u8 64] 5)).cell? ⟨w.heap.size + 1, 0, none⟩ = some (.int .u8 64) := by simp [go_sem]
    have A4 := cell_below hb1 a4
    have HB1 := Lib.hid hb1
    clear hok hst hit hv hb0 hb1 hv0 ih
    go_enter Tryd.func45, Tryd.ntmps45
    go_wp2_with (at_builtin; refine wpList_byte rfl _ _ rfl v l rfl hv1 _ _ 64 rfl hcell rfl (by omega) ?_; intro v2 w2 hv2 hu2; have HU := Lib.hid ((Upd.of_below HB1.out _).trans hu2); have HV := Lib.hid hv2; have r4 := hu2.cell A4 hvlt; clear hv2 hu2 hv1 hcell A4)
    go_loopw [0, 7] (fun b i wr => ∃ j : Nat, j ≤ is.length ∧ i = .int .i64 j ∧ Byts wr b (l ++ 64 :: encL (is.take j)) ∧ Hid (Upd (w.alloc (.cells #[.int .i64 k, .int .i64 n, .string s, .slice an ns.length cn, .slice ai is.length ci] 28)) wr v.ownBlock b.ownBlock)) (fun _ i _ => is.length - (intOf i).toNat)
    case atStart => exact ⟨0, by omega, rfl, by have := HV.out; simpa [encL, encM] using this, HU⟩
    case round =>
      clear HV HU r4
      obtain ⟨j, hj, rfl, hv, HU⟩ := hrel
      have k4 := HU.out.cell a4 hvlt
      have HIW := Lib.hid (HIT.out.kept (own_upd HU.out))
      by_cases hlt : j < is.length
      · rcases HIW.out with rfl | ⟨bI, oI, rfl, hoI, hall⟩
        · simp at hlt
        have k0 := HU.out.cell a0 hvlt
        obtain ⟨cs, hrj, hlj⟩ := hall.at j hlt
        have hoj := okTs_at hok2.out j hlt
        have hszj := HSZ.out is[j] (List.getElem_mem hlt)
        have hbj := JV.bulk_le (List.getElem_mem hlt)
        obtain ⟨xan, xcn, xai, xci, rfl⟩ := hrj.form
        obtain ⟨l0, l1, l2, l3, l4⟩ := lie5 hlj
        have HS := Lib.hid (show encL (is.take (j + 1)) = encL (is.take j) ++ 2 :: enc is[j] by rw [List.take_succ_eq_append_getElem hlt, encL_snoc])
        have hpl : (encL (is.take j)).length ≤ 10 * JV.bulks (is.take j) := encL_len _
        have hbt := bulks_take is j hlt
        have HLT := Lib.hid hlt
        clear hall hlj
        generalize is[j] = x at *
        generalize encL (is.take j) = pt at *
        have hbz : Below wr.heap.size wr (wr.alloc (.cells #[.int .u8 2] 5)) := (Below.refl _ _).alloc (Nat.le_refl _) _
        have hvz := byts_kept hv hbz
        have hcell : (wr.alloc (.cells #[.int .u8 2] 5)).cell? ⟨wr.heap.size, 0, none⟩ = some (.int .u8 2) := by simp [go_sem]
        have hbI : bI < wr.heap.size := cell_lt l0
        have X0 := cell_below hbz l0
        have X1 := cell_below hbz l1
        have X2 := cell_below hbz l2
        have X3 := cell_below hbz l3
        have X4 := cell_below hbz l4
        have K0 := cell_below hbz k0
        have K4 := cell_below hbz k4
        have HBZ := Lib.hid (Upd.of_below hbz u0.ownBlock)
        have HRJ := Lib.hid hrj
        have hmn : v.ownBlock ≠ some w.heap.size → u0.ownBlock ≠ some w.heap.size := fun h => (own_upd HU.out w.heap.size (by simp only [World.size_alloc]; omega) h).1
        have hun := hmn hvlt
        clear l0 l1 l2 l3 l4 hbz hmn k0 hrj
        go_wp2_with (at_builtin; refine wpList_byte rfl _ _ rfl u0 (l ++ 64 :: pt) rfl hvz _ _ 2 rfl hcell rfl (by simp only [List.length_append, List.length_cons]; omega) ?_; intro v3 w3 hv3 hu3; have Y0 := hu3.cell X0 hoI; have Y1 := hu3.cell X1 hoI; have Y2 := hu3.cell X2 hoI; have Y3 := hu3.cell X3 hoI; have Y4 := hu3.cell X4 hoI; have Z0 := hu3.cell K0 hun; have Z4 := hu3.cell K4 hun; have HU3 := Lib.hid (HBZ.out.trans hu3); have HV3 := Lib.hid hv3; have hv3n := (own_upd hu3 bI (by simp only [World.size_alloc]; omega) hoI).1; have hv3w := (own_upd hu3 w.heap.size (by simp only [World.size_alloc]; have h9 := HU.out.grown.size; simp only [World.size_alloc] at h9; omega) hun).1; clear X0 X1 X2 X3 X4 K0 K4 k4 hcell hvz)
        have hla := HIH.out x hszj hoj _ w3 v3 (l ++ 64 :: pt ++ [2]) (Rep.kept (own_upd HU3.out) _ _ HRJ.out) HV3.out (by simp only [List.length_append, List.length_cons, List.length_nil]; omega)
        refine hla.mono ?_; rintro e w5 ⟨v5, rfl, hv5, hu5⟩
        have HR5 := Lib.hid (And.intro hv5 (HU.out.trans (HU3.out.trans hu5)))
        clear hla hv5 hu5 Y0 Y1 Y2 Y3 Y4 Z0 Z4
        go_wp2
        go_roundw
        case rel => exact ⟨j + 1, HLT.out, by go_num, by have h9 := HR5.out.1; rw [HS.out]; simpa [List.append_assoc] using h9, Lib.hid HR5.out.2⟩
        case measure => have := HLT.out; simp [intOf]; omega
      · obtain rfl : j = is.length := by omega
        have hte : encL (is.take is.length) = encL is := by rw [List.take_length]
        rw [hte] at hv
        clear hte HIW
        have hb1 : Below wr.heap.size wr (wr.alloc (.cells #[.int .u8 1] 5)) := (Below.refl _ _).alloc (Nat.le_refl _) _
        have hv2 := byts_kept hv hb1
        have hcell : (wr.alloc (.cells #[.int .u8 1] 5)).cell? ⟨wr.heap.size, 0, none⟩ = some (.int .u8 1) := by simp [go_sem]
        go_wp2_with (at_builtin; refine wpList_byte rfl _ _ rfl u0 _ rfl hv2 _ _ 1 rfl hcell rfl (by simp only [List.length_append, List.length_cons]; omega) ?_; intro v3 w3 hv3 hu3; have HR3 := Lib.hid (And.intro hv3 (hu0.out.trans (HU.out.trans ((Upd.of_below hb1 _).trans hu3)))))
        go_ret
        exact ⟨_, rfl, by have h9 := HR3.out.1; rw [HE.out]; simpa [List.append_assoc] using h9, HR3.out.2⟩
theorem refLaid_all (m : Nat) : RefLaidSaid m := by
  induction m with
  | zero => intro t hm; have := JV.size_pos t; omega
  | succ m ih => exact refLaid_step m ih
theorem refLaid_c (t : JV) (hok : okT t) (cs : List Value) (w : World) (v : Value) (l : List UInt8) (hr : Rep w (fun b => v.ownBlock ≠ some b) t cs) (hv : Byts w v l) (hl : l.length + 10 * t.bulk < 17592186044416) :
    Calls Tryd.prog 45 #[v, .agg cs.toArray] w fun e w' => ∃ v', e = .returned v' ∧ Byts w' v' (l ++ enc t) ∧ Upd w w' v.ownBlock v'.ownBlock :=
  refLaid_all t.size t (Nat.le_refl _) hok cs w v l hr hv hl
end Go.Proofs.YtjmhoccikbgigaaDoor
