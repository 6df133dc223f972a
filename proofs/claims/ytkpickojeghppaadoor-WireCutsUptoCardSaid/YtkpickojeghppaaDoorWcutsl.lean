/- The walk of the law WireCuts. Conditions: what comes in is of bulk at most 1048576. -/
import Derived.Test.YtkpickojeghppaaDoorWtold
namespace Go.Proofs.YtkpickojeghppaaDoor
open Go.RowKit
theorem BSlab.head {w : World} {A : Option Addr} {n cap : Nat} {l : List UInt8} (h : BSlab w (.slice A l.length cap) l) (hn : n ≤ l.length) : BSlab w (.slice A n cap) (l.take n) := by
  have hl : (l.take n).length = n := by rw [List.length_take]; omega
  unfold BSlab at h ⊢
  rw [hl]
  refine ⟨by simp [bytesV]; omega, ?_⟩
  rcases h.2 with ⟨h1, h2⟩ | ⟨g, off, c, he, h1, h2, h3, h4, h5⟩
  · left
    injection h1 with e1 e2 e3
    subst e1; subst e3
    obtain rfl : n = 0 := by omega
    exact ⟨rfl, rfl⟩
  · right
    injection he with e1 e2 e3
    subst e1; subst e3
    refine ⟨g, off, cap, rfl, by omega, h2, h3, ?_, h5⟩
    have := rangeAt_take h4 n
    rwa [bytesV, ← List.map_take] at this
theorem text_bound (L : List UInt8) (hl : L.length ≤ 8388608) : (heldText (sv0.feed L)).length ≤ 300000000 := by
  have h0 : sv0.inp.length = 0 := rfl
  have ho := feed_ok sv0_ok L (by omega)
  have hb := bod_feed (s := sv0) (B := 8388608) (fun x hx => by cases hx) L (by omega)
  have h1 := text_size 8388608 (sv0.feed L).held hb
  have h2 := Nat.mul_le_mul_right (8388608 + 3) ho.held
  unfold heldText
  omega
theorem pre_str (a b : List UInt8) (h : b <+: a) : (((⟨a.toArray⟩ : ByteArray).extract 0 (⟨b.toArray⟩ : ByteArray).size).toList == (⟨b.toArray⟩ : ByteArray).toList) = true := by
  obtain ⟨r, rfl⟩ := h
  rw [beq_iff_eq, ByteArray.toList_eq, ByteArray.toList_eq]
  rw [Lib.extract_data]
  show List.take (b.toArray.size - 0) (List.drop 0 (b ++ r).toArray.toList) = b.toArray.toList
  simp
set_option maxRecDepth 20000 in
set_option maxHeartbeats 8000000 in
theorem wireCuts_c (A : Option Addr) (c : Nat) (l : List ActP) (hcm : l.length ≤ maxLen) (hw : actsW l ≤ 1048576) (At : Option Addr) (ca : Nat) (al : List Int) (halm : al.length ≤ maxLen) (cut : Int) (w : World) (h : ActsIn w A l) (ha : IntsIn w At al) (hT : WTabs w) :
    Calls Tryd.prog 6 #[.slice A l.length c, .slice At al.length ca, .int .i64 cut] w fun r w' => r = .returned (.bool true) ∧ Below w.heap.size w w' := by
  have HL := Lib.hid (fun (W : World) (hb : Below w.heap.size w W) => (live_c W (hT.below hb)).mono (R' := fun e w' => e = .returned (.bool true) ∧ Below w.heap.size w w') (fun e w' ⟨he, h⟩ => ⟨he, hb.trans (h.mono hb.size)⟩))
  have HT := Lib.hid hT
  have HA := Lib.hid h
  have HI := Lib.hid ha
  have HLG := Lib.hid (long_c A c l (by omega) w h)
  have hll := (actsW_le l).2
  clear hT h ha
  unfold maxLen at hcm halm
  cases hlg : longB l with
  | true =>
    rw [hlg] at HLG
    go_enter Tryd.func6, Tryd.ntmps6
    go_wp2_with (go_at_call 20; refine HLG.out.mono ?_; rintro e w' ⟨rfl, nq, rfl⟩)
    go_ret
    exact ⟨rfl, below_drewN' w _⟩
  | false =>
  rw [hlg] at HLG
  by_cases h100 : 100 < al.length
  · go_enter Tryd.func6, Tryd.ntmps6
    go_wp2_with (go_at_call 20; refine HLG.out.mono ?_; rintro e w' ⟨rfl, nq, rfl⟩)
    go_ret
    exact ⟨rfl, below_drewN' w _⟩
  have h100' : al.length ≤ 100 := by omega
  go_enter Tryd.func6, Tryd.ntmps6
  go_wp2_with (go_at_call 20; refine HLG.out.mono ?_; rintro e w' ⟨rfl, nq, rfl⟩)
  go_loopw [7, 8] (fun b i wr => ∃ (k : Nat) (v' : Value), k ≤ l.length ∧ i = .int .i64 k ∧ v' = b ∧ Hid (BSlab wr v' ((l.take k).flatMap ActP.bytes)) ∧ Hid (Below w.heap.size w wr) ∧ Hid (∀ g, v'.ownBlock = some g → w.heap.size ≤ g)) (fun _ i _ => l.length - (intOf i).toNat)
  case atStart => exact ⟨0, _, Nat.zero_le _, rfl, rfl, Lib.hid (bslab_nil _), Lib.hid (below_drewN' w _), Lib.hid (fun g hg => by cases hg)⟩
  case round =>
    obtain ⟨k, v', hk, rfl, rfl, HS, HB, HN⟩ := hrel
    by_cases hlt : k < l.length
    · obtain ⟨G, o, rfl, hr⟩ : ∃ G o, A = some ⟨G, o, none⟩ ∧ ∀ i (h : i < l.length), ∃ Ar cr Am cm, ActV w l[i] Ar cr Am cm ∧ w.rangeAt G (o + i * 4) (actV l[i] Ar cr Am cm) := by
        rcases HA.out with h | h
        · rw [h] at hlt; simp at hlt
        · exact h
      obtain ⟨Ar, cr, Am, cm, hv, hc⟩ := hr k hlt
      have hv := hv.below HB.out
      have hc := rangeAt_below hc HB.out
      have hwt := actsW_get hlt
      have hbz := (l[k]).bytes_size
      have hsz1 : ((l.take k).flatMap ActP.bytes).length ≤ 5 * actsW l := by
        have h1 : (l.flatMap ActP.bytes).length = ((l.take k).flatMap ActP.bytes).length + ((l.drop k).flatMap ActP.bytes).length := by rw [← List.length_append, ← List.flatMap_append, List.take_append_drop]
        have h2 := acts_size l
        omega
      have HTK := Lib.hid (show (l.take (k + 1)).flatMap ActP.bytes = (l.take k).flatMap ActP.bytes ++ (l[k]).bytes by rw [List.take_succ_eq_append_getElem hlt, List.flatMap_append]; simp)
      have HBC := Lib.hid (bytes_c l[k] Ar cr Am cm (by omega) wr hv)
      clear hr
      generalize l[k] = a at *
      have a0 : wr.cell? ⟨G, o + k * 4, none⟩ = some (.int .i64 a.kind) := hc 0 _ rfl
      have a1 : wr.cell? ⟨G, o + k * 4 + 1, none⟩ = some (.slice Ar a.raw.length cr) := hc 1 _ rfl
      have a2 : wr.cell? ⟨G, o + k * 4 + 2, none⟩ = some (.slice Am a.ms.length cm) := hc 2 _ rfl
      have a3 : wr.cell? ⟨G, o + k * 4 + 3, none⟩ = some (.string a.body) := hc 3 _ rfl
      have HBC' := Lib.hid (show Calls Tryd.prog 21 #[.agg #[.int .i64 a.kind, .slice Ar a.raw.length cr, .slice Am a.ms.length cm, .string a.body]] wr _ from HBC.out)
      obtain ⟨cur, hcur⟩ : ∃ cur, (l.take k).flatMap ActP.bytes = cur := ⟨_, rfl⟩
      rw [hcur] at HS HTK hsz1
      clear hc hv HBC hcur
      generalize a.kind = q0 at *
      generalize a.raw.length = q1 at *
      generalize a.ms.length = q2 at *
      generalize a.body = q3 at *
      generalize a.bytes = ab at *
      go_wp2_with (first
        | (go_at_call 21; refine HBC'.out.mono ?_; rintro e w2 ⟨vp, rfl, hs2, hb2, hn2⟩; have HS2 := Lib.hid hs2; have HB2 := Lib.hid (HB.out.trans (hb2.mono HB.out.size)); have HSC := Lib.hid (show BSlab w2 v' cur from Slab.below HS.out hb2); clear hs2 hb2 hn2)
        | (at_builtin; refine wpList_slab bytTy 28 (by rfl) _ _ (by rfl) v' cur.length (bytesV cur) (by rfl) HSC.out vp (by rfl) ab.length (bytesV ab) (src_bslab HS2.out) (by unfold maxLen; omega) (by omega) ?_; intro v3 w3 hs3 hu3; have HS3 := Lib.hid (show BSlab w3 v3 ((l.take (k + 1)).flatMap ActP.bytes) by rw [HTK.out]; unfold BSlab; rw [bytesV_append, List.length_append]; exact hs3); obtain ⟨hb3, hn3⟩ := grown (w := w) HB2.out HN.out hu3; have HB3 := Lib.hid hb3; have HN3 := Lib.hid hn3; clear hs3 hu3 hb3 hn3))
      go_roundw
      case rel => exact ⟨k + 1, v3, by omega, by go_num, rfl, HS3, HB3, HN3⟩
      case measure => simp [intOf]; omega
    · obtain rfl : k = l.length := by omega
      have hLz := acts_size l
      have hst := HS.out
      rw [List.take_length] at hst
      have HS := Lib.hid hst
      clear hst
      generalize l.flatMap ActP.bytes = L at *
      obtain ⟨As, cs, rfl, hcs1, hcs2, _⟩ := HS.out.bytes
      have HTA := Lib.hid (told_c (.slice As L.length cs) L (by omega) none 0 [] (by simp) wr HS.out (.inl rfl) (HT.out.below HB.out))
      have HTA' := Lib.hid (show Calls Tryd.prog 22 #[.slice As L.length cs, .slice none 0 0] wr (ToldPost (sv0.feed L) wr) from HTA.out)
      have hlike := like_obs (cuts_like al L (by omega))
      have htb := text_bound L (by omega)
      have HBG := Lib.hid (fun n => begins L n (by omega))
      have HTX := Lib.hid hlike
      go_wp2_with fail
      refine HTA'.out.mono ?_; rintro e w1 ⟨v1, rfl, hs1, hb1, hn1⟩
      have HB1 := Lib.hid (HB.out.trans (hb1.mono HB.out.size))
      have HSL1 := Lib.hid (show BSlab w1 (.slice As L.length cs) L from Slab.below HS.out hb1)
      have hTB := told_c (.slice As L.length cs) L (by omega) At ca al (by omega) w1 HSL1.out (by
        rcases HI.out with h | ⟨G, o, e, h⟩
        · exact .inl h
        · exact .inr ⟨G, o, e, rangeAt_below h HB1.out⟩) (HT.out.below HB1.out)
      unfold ToldPost at hTB
      rw [show heldText (feeds sv0 (cuts al L)) = heldText (sv0.feed L) by unfold heldText; rw [HTX.out.2.2], HTX.out.1, HTX.out.2.1] at hTB
      have HTB := Lib.hid hTB
      have HS1 := Lib.hid hs1
      clear hTB hs1 hb1 hn1 HTA HTA' hlike HTX HI
      generalize sv0.feed L = s at *
      have hts : (⟨(heldText s).toArray⟩ : ByteArray).size ≤ 300000000 := by show (heldText s).toArray.size ≤ _; rw [List.size_toArray]; exact htb
      obtain ⟨ts, hte⟩ : ∃ ts : ByteArray, ts = ⟨(heldText s).toArray⟩ := ⟨_, rfl⟩
      have HTE := Lib.hid hte
      rw [← hte] at hts HTB
      rw [← hte]
      obtain ⟨A1, c1, rfl, hc11, hc12, _⟩ := HS1.out.bytes
      clear hte htb
      go_wp2_with fail
      refine HTB.out.mono ?_; rintro e w2 ⟨v2, rfl, hs2, hb2, hn2⟩
      have HB2 := Lib.hid (HB1.out.trans (hb2.mono HB1.out.size))
      have HSL2 := Lib.hid (show BSlab w2 (.slice As L.length cs) L from Slab.below HSL1.out hb2)
      have HS12 := Lib.hid (show BSlab w2 (.slice A1 s.out.length c1) s.out from Slab.below HS1.out hb2)
      have HS2 := Lib.hid hs2
      obtain ⟨A2, c2, rfl, _, _, _⟩ := HS2.out.bytes
      have HSM := Lib.hid (show Calls Tryd.prog 17 #[.slice A1 s.out.length c1, .slice A2 s.out.length c2] w2 (fun e w' => e = .returned (.bool true) ∧ w2 = w') from by
        have h := same_c A1 A2 s.out s.out c1 c2 w2 HS12.out.inn HS2.out.inn
        rwa [show (s.out == s.out) = true by simp] at h)
      clear hs2 hb2 hn2 HTB HS1 HSL1
      have hyy : ((s.why : Int) != (s.why : Int)) = false := by simp
      have htt : (ts.toList != ts.toList) = false := by simp
      by_cases hend : s.why = 0 ∧ 0 ≤ cut ∧ cut ≤ L.length
      · obtain ⟨hy, hc0, hcl⟩ := hend
        obtain ⟨n, rfl⟩ := Int.eq_ofNat_of_zero_le hc0
        have hnl : n ≤ L.length := by omega
        have hbeg := HBG.out n hy
        have hTC := told_c (.slice As n cs) (L.take n) (by rw [List.length_take]; omega) none 0 [] (by simp) w2 (BSlab.head HSL2.out hnl) (.inl rfl) (HT.out.below HB2.out)
        have hTC' : Calls Tryd.prog 22 #[.slice As n cs, .slice none 0 0] w2 (ToldPost (sv0.feed (L.take n)) w2) := hTC
        have htb3 := text_bound (L.take n) (by rw [List.length_take]; omega)
        generalize sv0.feed (L.take n) = s3 at *
        obtain ⟨hpt, hpo⟩ := hbeg
        have hcmp := pre_str _ _ hpt
        have hts3 : (⟨(heldText s3).toArray⟩ : ByteArray).size ≤ ts.size := by
          rw [HTE.out]
          show (heldText s3).toArray.size ≤ (heldText s).toArray.size
          rw [List.size_toArray, List.size_toArray]
          exact hpt.length_le
        rw [← HTE.out] at hcmp
        have hol : s3.out.length ≤ s.out.length := hpo.length_le
        have HOT := Lib.hid (show s.out.take s3.out.length = s3.out from (List.prefix_iff_eq_take.1 hpo).symm)
        have HCALL := Lib.hid hTC'
        clear hTC hTC' hpt hpo HBG htb3
        unfold ToldPost at HCALL
        obtain ⟨t3, ht3⟩ : ∃ t : ByteArray, t = ⟨(heldText s3).toArray⟩ := ⟨_, rfl⟩
        rw [← ht3] at hcmp hts3 HCALL
        clear ht3
        have hlimit : s.out.length ≤ 9223372036854775807 := by unfold maxLen at hc12; omega
        rw [hy]
        rw [hy] at hyy
        go_wp2_with (first
          | (go_at_call 17; (with_reducible refine HSM.out.mono ?_); rintro e w' ⟨rfl, rfl⟩)
          | (go_at_call 22; refine HCALL.out.mono ?_; rintro e w3 ⟨v3, rfl, hs3, hb3, hn3⟩; have HB3 := Lib.hid (HB2.out.trans (hb3.mono HB2.out.size)); obtain ⟨A3, c3, rfl, _, _, _⟩ := hs3.bytes; have HS13 := Lib.hid (show BSlab w3 (.slice A1 s.out.length c1) s.out from Slab.below HS12.out hb3); have HSM3 := Lib.hid (show Calls Tryd.prog 17 #[.slice A1 s3.out.length c1, .slice A3 s3.out.length c3] w3 (fun e w' => e = .returned (.bool true) ∧ w3 = w') from (by
              have h := same_c A1 A3 (s.out.take s3.out.length) s3.out c1 c3 w3 (BSlab.head HS13.out hol).inn hs3.inn
              rw [HOT.out] at h
              rwa [show (s3.out == s3.out) = true by simp] at h)); clear hs3 hb3 hn3)
          | (go_at_call 17; (with_reducible refine HSM3.out.mono ?_); rintro e w' ⟨rfl, rfl⟩)
          | (go_at_call 12; refine (HL.out _ HB3.out).mono ?_; rintro e w' ⟨rfl, hb⟩))
        go_ret
        exact ⟨rfl, hb⟩
      · by_cases hy : s.why = 0
        · rw [hy]
          rw [hy] at hyy
          by_cases hc0 : cut < 0
          · have hc02 := hc0
            go_wp2_with (first
              | (go_at_call 17; refine HSM.out.mono ?_; rintro e w' ⟨rfl, rfl⟩)
              | (go_at_call 12; refine (HL.out _ HB2.out).mono ?_; rintro e w' ⟨rfl, hb⟩))
            go_ret
            exact ⟨rfl, hb⟩
          · have hcl : (L.length : Int) < cut := by omega
            have hc00 : 0 ≤ cut := by omega
            go_wp2_with (first
              | (go_at_call 17; refine HSM.out.mono ?_; rintro e w' ⟨rfl, rfl⟩)
              | (go_at_call 12; refine (HL.out _ HB2.out).mono ?_; rintro e w' ⟨rfl, hb⟩))
            go_ret
            exact ⟨rfl, hb⟩
        · have hyb : ((s.why : Int) != 0) = true := by rw [bne_iff_ne]; omega
          go_wp2_with (first
            | (go_at_call 17; refine HSM.out.mono ?_; rintro e w' ⟨rfl, rfl⟩)
            | (go_at_call 12; refine (HL.out _ HB2.out).mono ?_; rintro e w' ⟨rfl, hb⟩))
          go_ret
          exact ⟨rfl, hb⟩
end Go.Proofs.YtkpickojeghppaaDoor
