/- The rule items, any rule, the walk of Fault. Conditions: what the laws name. -/
import Derived.Test.YtnmojmmgkipjcaaGreatDoorSfg
import Derived.Conc.MuLone
namespace Go.Proofs.YtnmojmmgkipjcaaGreatDoor
open Go.RowKit
def itemsF (t v : JV) : FR := if v.kind = 5 then firstItem (fun u => faultS t u) v.items else none
set_option maxRecDepth 20000 in
set_option maxHeartbeats 8000000 in
theorem itemsBroken_c (N m : Nat) (ih : FaultSaid N m) (t : JV) (hm : t.size ≤ m) (hg : Good t) (hbk : t.bulk ≤ 1099511627776) (hts : t.size ≤ 1099511627776) (v : JV) (hv : v.size ≤ N) (hvb : v.bulk ≤ 1099511627776) (q : Value) (vs : List Value) (w : World) (okS okV : Nat → Prop)
    (hs : SchAt w okS t q) (hr : Rep w okV v vs) (hi : ItoC N w) :
    Calls Tryz.prog 108 #[.agg #[q], .agg vs.toArray] w (BRes w (itemsF t v)) := by
  have hr0 := hr
  obtain ⟨kv, iv, sv, nv, qv⟩ := v
  rw [rep_mk] at hr
  obtain ⟨_, _, _, vn, vc, vi, vd, rfl, hvc, hvd, hst, hit⟩ := hr
  unfold maxLen at hvc hvd
  obtain ⟨qp, rfl⟩ : ∃ qp : Nat, q = .pointer (some ⟨qp, 0, none⟩) := by
    obtain ⟨k, i, s, ns, is⟩ := t
    rw [SchAt] at hs
    obtain ⟨p', _, _, _, e, _⟩ := hs
    exact ⟨p', e⟩
  have hb : Below w.heap.size w (((w.alloc (.cells #[.pointer (some ⟨qp, 0, none⟩)] 112)).alloc (.cells #[.int .i64 kv, .int .i64 iv, .string sv, .slice vn nv.length vc, .slice vi qv.length vd] 25)).alloc (.cells #[.slice none 0 0, .string ⟨#[]⟩] 72)) := (by repeat (first | with_reducible exact Below.refl _ _ | with_reducible refine below_drewN ?_ _ | with_reducible refine Below.drew ?_ | with_reducible refine below_set5 ?_ (by first | (simp; done) | (simp; omega)) | with_reducible refine Below.alloc ?_ (by first | (simp; done) | (simp; omega)) _ | with_reducible refine Below.setCell ?_ (by first | (simp; done) | (simp; omega)) _))
  have HB := Lib.hid hb
  have HS := Lib.hid (SchAt.kept (fun b hlt ho => ⟨ho, hb.block b hlt⟩) _ _ hs)
  have HIT := Lib.hid (hit.below hb)
  have HI := Lib.hid (hi.below hb)
  have hP : (((w.alloc (.cells #[.pointer (some ⟨qp, 0, none⟩)] 112)).alloc (.cells #[.int .i64 kv, .int .i64 iv, .string sv, .slice vn nv.length vc, .slice vi qv.length vd] 25)).alloc (.cells #[.slice none 0 0, .string ⟨#[]⟩] 72)).heap[w.heap.size]? = some (.cells #[.pointer (some ⟨qp, 0, none⟩)] 112 (0, 0)) := (heap_alloc_old _ _ (by simp; omega)).trans ((heap_alloc_old _ _ (by simp)).trans (heap_alloc_new w _))
  have hF := heap_alloc_new ((w.alloc (.cells #[.pointer (some ⟨qp, 0, none⟩)] 112)).alloc (.cells #[.int .i64 kv, .int .i64 iv, .string sv, .slice vn nv.length vc, .slice vi qv.length vd] 25)) (.cells #[.slice none 0 0, .string ⟨#[]⟩] 72)
  simp only [World.size_alloc] at hF
  have HP := Lib.hid hP
  have HF := Lib.hid hF
  have hWs : (((w.alloc (.cells #[.pointer (some ⟨qp, 0, none⟩)] 112)).alloc (.cells #[.int .i64 kv, .int .i64 iv, .string sv, .slice vn nv.length vc, .slice vi qv.length vd] 25)).alloc (.cells #[.slice none 0 0, .string ⟨#[]⟩] 72)).heap.size = w.heap.size + 1 + 1 + 1 := by simp
  have HG := Lib.hid hg
  have HH := Lib.hid (And.intro hv hvb)
  have HQN := Lib.hid (show qv.length < N by have h1 := JV.len_le qv; rw [JV.size] at hv; omega)
  have HIH := Lib.hid ih
  have HZ := Lib.hid (And.intro hm (And.intro hbk hts))
  clear hr0 hb hs hi hg ih hv hvb hst hit hP hF hm hbk hts
  by_cases h5 : kv = 5
  case neg =>
    have HT := Lib.hid (show itemsF t (.mk kv iv sv nv qv) = none from if_neg h5)
    have e5 : (kv != 5) = true := by simp [h5]
    clear h5
    go_enter Tryz.func108, Tryz.ntmps108
    go_wp2
    rw [HT.out]
    refine bodyPost_ret (results_ct rfl _ _ (w.heap.size + 1 + 1) 72 _ (0, 0) _ (by rfl) HF.out Tryz.underlying72 rfl (by kernel_rfl)) rfl ?_
    exact ⟨rfl, Lib.hid HB.out⟩
  subst h5
  have HT := Lib.hid (show itemsF t (.mk 5 iv sv nv qv) = firstItem (fun u => faultS t u) qv from if_pos rfl)
  go_enter Tryz.func108, Tryz.ntmps108
  go_wp2
  generalize hW0 : (((w.alloc (.cells #[.pointer (some ⟨qp, 0, none⟩)] 112)).alloc (.cells #[.int .i64 5, .int .i64 iv, .string sv, .slice vn nv.length vc, .slice vi qv.length vd] 25)).alloc (.cells #[.slice none 0 0, .string ⟨#[]⟩] 72)) = W0 at *
  clear hW0
  have HWS := Lib.hid hWs
  have hw0 : w.heap.size < W0.heap.size := by omega
  have hw2 : w.heap.size + 1 + 1 < W0.heap.size := by omega
  clear hWs
  go_loopw [18] (fun x wr => ∃ j : Nat, j ≤ qv.length ∧ x = .int .i64 j ∧ Hid (firstItem (fun u => faultS t u) qv = firstItem (fun u => faultS t u) (qv.drop j)) ∧ Hid (Below W0.heap.size W0 wr)) (fun x _ => qv.length - (intOf x).toNat)
  case atStart => exact ⟨0, Nat.zero_le _, rfl, Lib.hid rfl, Lib.hid (Below.refl _ _)⟩
  case round =>
    obtain ⟨j, hj, rfl, HQ, HBL⟩ := hrel
    have hs1 := HBL.out.size
    have hPr := (HBL.out.block _ hw0).trans HP.out
    have p0 := cell_of_row wr _ 0 _ _ _ hPr
    have hFr := (HBL.out.block _ hw2).trans HF.out
    have f0 := cell_of_row wr _ 0 _ _ _ hFr
    have f1 := cell_of_row wr _ 1 _ _ _ hFr
    have f2 := frozen_of_row wr _ 0 _ _ hFr
    have f3 := frozen_of_row wr _ 1 _ _ hFr
    simp only [List.getElem?_toArray, List.getElem?_cons_zero, List.getElem?_cons_succ] at p0 f0 f1
    have HFR := Lib.hid hFr
    have hwa : w.heap.size < wr.heap.size := by omega
    have hwb : w.heap.size + 1 + 1 < wr.heap.size := by omega
    clear hPr hFr
    by_cases hlt : j < qv.length
    · obtain ⟨b2, off2, an2, cn2, ai2, ci2, rfl, hrj, hlj⟩ := (HIT.out.below HBL.out).at j hlt
      obtain ⟨l0, l1, l2, l3, l4⟩ := lie5 hlj
      have hb2l := cell_lt l0
      simp only at hb2l
      have HQ2 := Lib.hid (show firstItem (fun u => faultS t u) qv = (match faultS t qv[j] with | some (p, wd) => some (none :: p, wd) | none => firstItem (fun u => faultS t u) (qv.drop (j + 1))) by rw [HQ.out, List.drop_eq_getElem_cons hlt, firstItem]; rfl)
      have HMEM := Lib.hid (show qv[j] ∈ (JV.mk 5 iv sv nv qv).items from List.getElem_mem hlt)
      have hby : Below wr.heap.size wr (wr.alloc (.cells #[.int .i64 qv[j].kind, .int .i64 qv[j].int, .string qv[j].text, .slice an2 qv[j].names.length cn2, .slice ai2 qv[j].items.length ci2] 25)) := (Below.refl _ _).alloc (Nat.le_refl _) _
      have hcall := HIH.out t HZ.out.1 HG.out HZ.out.2.1 qv[j] (JV.sizeN HMEM.out HH.out.1) (JV.bulkN HMEM.out HH.out.2) _ _ (wr.alloc (.cells #[.int .i64 qv[j].kind, .int .i64 qv[j].int, .string qv[j].text, .slice an2 qv[j].names.length cn2, .slice ai2 qv[j].items.length ci2] 25)) _ _ (SchAt.kept (fun b hlt ho => ⟨ho, (HBL.out.trans (hby.mono hs1)).block b hlt⟩) _ _ HS.out) (hrj.below hby) ((HI.out.below HBL.out).below hby)
      have HBY := Lib.hid hby
      have HLN := Lib.hid (faultS_len t qv[j])
      clear hrj hlj HQ HMEM hby
      generalize qv[j] = u at *
      cases hf : faultS t u with
      | none =>
        rw [hf] at hcall HQ2
        have HC := Lib.hid hcall
        have HQ3 := Lib.hid (show firstItem (fun u => faultS t u) qv = firstItem (fun u => faultS t u) (qv.drop (j + 1)) from HQ2.out)
        clear HQ2 hf HLN hcall
        go_wp2_with fail
        refine HC.out.mono ?_; rintro e wv ⟨rfl, HB4⟩
        have HBE := Lib.hid ((HBL.out.trans (HBY.out.mono hs1)).trans (HB4.out.mono (Nat.le_trans hs1 HBY.out.size)))
        clear p0 f0 f1 f2 f3 l0 l1 l2 l3 l4
        go_wp2
        go_roundw
        case rel => exact ⟨j + 1, by omega, by go_num, HQ3, HBE⟩
        case measure => simp [intOf]; omega
      | some pw =>
        obtain ⟨p', wd'⟩ := pw
        rw [hf] at hcall HQ2
        have HC := Lib.hid hcall
        have HQ4 := Lib.hid (show itemsF t (.mk 5 iv sv nv qv) = some (none :: p', wd') from HT.out.trans HQ2.out)
        have hpl := HLN.out p' wd' hf
        have hpl2 : p'.length ≤ 1099511627776 := by have := HZ.out.2.2; omega
        have HJN := Lib.hid (show j < N by have := HQN.out; omega)
        clear HQ2 hf HLN hpl hcall
        go_wp2_with fail
        refine HC.out.mono ?_; rintro e wv ⟨pa, pc, ss, rfl, HL4, HB4⟩
        have HBV0 := Lib.hid ((HBL.out.trans (HBY.out.mono hs1)).trans (HB4.out.mono (Nat.le_trans hs1 HBY.out.size)))
        have HIV := Lib.hid ((HI.out.below HBV0.out) wv (Below.refl _ _) j HJN.out)
        clear p0 f0 f1 f2 f3 l0 l1 l2 l3 l4
        go_wp2_with fail
        refine HIV.out.mono ?_; rintro e wx ⟨nm, rfl, hbx⟩
        have HBX := Lib.hid hbx
        have hs4 := HBV0.out.size
        have hs6 := hbx.size
        have hFv := (hbx.block _ (by omega)).trans ((HBV0.out.block (w.heap.size + 1 + 1) hw2).trans HF.out)
        have HFV := Lib.hid hFv
        have HBV := Lib.hid (HB.out.trans ((HBV0.out.trans (hbx.mono hs4)).mono HB.out.size))
        have f0 := cell_of_row wx _ 0 _ _ _ hFv
        have f1 := cell_of_row wx _ 1 _ _ _ hFv
        have f2 := frozen_of_row wx _ 0 _ _ hFv
        have f3 := frozen_of_row wx _ 1 _ _ hFv
        simp only [List.getElem?_toArray, List.getElem?_cons_zero, List.getElem?_cons_succ] at f0 f1
        have HSS := Lib.hid (show ss.length = p'.length from HL4.out.2.2.1.1)
        have HST2 := Lib.hid ((HL4.out.2.2.2.below hbx).below ((Below.refl wx.heap.size wx).alloc (Nat.le_refl _) (.cells #[.string nm] 9)))
        have hFl : w.heap.size + 1 + 1 < wx.heap.size := by omega
        clear hFv hbx
        go_wp2_with (at_builtin; refine wpList_app_any strTy rfl _ _ rfl (.slice (some ⟨wx.heap.size, 0, none⟩) 1 1) 1 [.string nm] rfl (row_one nm) pa ss.length pc (ss.map Value.string) rfl (by simp) (fun hn => by rcases HST2.out with h | ⟨_, _, h, _⟩; (rw [h]; rfl); (rw [hn] at h; cases h)) HST2.out.news (one_strs ss) (by have := HSS.out; unfold maxLen; omega) (by have := HSS.out; omega) ?_; intro v' w3 hrow hu; obtain ⟨ga, gc, rfl, -⟩ := hrow.form; have HE := Lib.hid (broke_cons (T := 72) (u := none) (wd := wd') (by omega) hFl HFV.out HBV.out hrow hu HL4.out.2.2.1 (fun t e => by cases e)); have g0 := hu.cell (cell_below ((Below.refl wx.heap.size wx).alloc (Nat.le_refl _) (.cells #[.string nm] 9)) f0) (fun e => by have h := Option.some.inj (show some wx.heap.size = some (w.heap.size + 1 + 1) from e); omega); have g1 := hu.cell (cell_below ((Below.refl wx.heap.size wx).alloc (Nat.le_refl _) (.cells #[.string nm] 9)) f1) (fun e => by have h := Option.some.inj (show some wx.heap.size = some (w.heap.size + 1 + 1) from e); omega); obtain ⟨g2⟩ : w3.frozen? ⟨w.heap.size + 1 + 1, 0, none⟩ = false ∧ True := ⟨by rw [hu.frozen (by simp only [World.size_alloc]; omega) (fun e => by have h := Option.some.inj (show some wx.heap.size = some (w.heap.size + 1 + 1) from e); omega)]; exact frozen_of_row _ _ 0 _ _ ((heap_alloc_old _ _ hFl).trans HFV.out), trivial⟩; obtain ⟨g3⟩ : w3.frozen? ⟨w.heap.size + 1 + 1, 1, none⟩ = false ∧ True := ⟨by rw [hu.frozen (by simp only [World.size_alloc]; omega) (fun e => by have h := Option.some.inj (show some wx.heap.size = some (w.heap.size + 1 + 1) from e); omega)]; exact frozen_of_row _ _ 1 _ _ ((heap_alloc_old _ _ hFl).trans HFV.out), trivial⟩; clear hrow hu)
        refine bodyPost_ret (results_ct rfl _ _ (w.heap.size + 1 + 1) 72 _ (0, 0) _ (by rfl) HE.out.1 Tryz.underlying72 rfl (by kernel_rfl)) rfl ?_
        rw [HQ4.out]
        exact HE.out.2
    · obtain rfl : j = qv.length := by omega
      have HQ3 := Lib.hid (show itemsF t (.mk 5 iv sv nv qv) = none by rw [HT.out, HQ.out, List.drop_length, firstItem])
      go_wp2
      rw [HQ3.out]
      refine bodyPost_ret (results_ct rfl _ _ (w.heap.size + 1 + 1) 72 _ (0, 0) _ (by rfl) (set2 HFR.out) Tryz.underlying72 rfl (by kernel_rfl)) rfl ?_
      exact ⟨rfl, Lib.hid (below_set2 (HB.out.trans (HBL.out.mono HB.out.size)) (by omega))⟩
end Go.Proofs.YtnmojmmgkipjcaaGreatDoor
namespace Go.Proofs.YtnmojmmgkipjcaaGreatDoor
open Go.RowKit
/-- the call of a rule, whichever it is -/
def BrokC (w : World) (rv : Value) (vs : List Value) (r : FR) : Prop :=
  (∃ u, rv = .iface 103 u ∧ Calls Tryz.prog 106 #[u, .agg vs.toArray] w (BRes w r)) ∨
  (∃ u, rv = .iface 108 u ∧ Calls Tryz.prog 107 #[u, .agg vs.toArray] w (BRes w r)) ∨
  (∃ u, rv = .iface 112 u ∧ Calls Tryz.prog 108 #[u, .agg vs.toArray] w (BRes w r)) ∨
  (∃ u, rv = .iface 115 u ∧ Calls Tryz.prog 123 #[u, .agg vs.toArray] w (BRes w r)) ∨
  (∃ u, rv = .iface 119 u ∧ Calls Tryz.prog 124 #[u, .agg vs.toArray] w (BRes w r))
theorem brok_keeps {w : World} {vs : List Value} {r : FR} {f : Nat} {caps : Array Value} {b : Bool} (hr : r = boolF b) (h : Calls Tryz.prog 106 #[.func (.func f) #[] caps, .agg vs.toArray] w (BoolPost w b)) : BrokC w (keepsV f caps) vs r :=
  .inl ⟨_, rfl, by rw [hr]; exact h.mono fun _ _ h => bool_res h⟩
theorem leaf_c (x kn v : JV) (nm : ByteArray) (hn : nm ∈ makerWords) (hsub : ¬ subW nm) (hlo : leafOk nm x = true) (hbk : x.bulk ≤ 1099511627776) (hvb : v.bulk ≤ 1099511627776) (rv : Value) (vs : List Value) (w : World) (okS okV : Nat → Prop) (h : LeafAt w okS nm x kn rv) (hr : Rep w okV v vs) :
    BrokC w rv vs (boolF (leafKept nm x kn v)) := by
  have hkp : ∀ {W : World}, Below w.heap.size w W → ∀ b, b < w.heap.size → okS b → okS b ∧ W.heap[b]? = w.heap[b]? := fun hb b hlt ho => ⟨ho, hb.block b hlt⟩
  have htx : v.text.size < 4611686018427387904 := by
    obtain ⟨k, i, s, ns, is⟩ := v
    rw [JV.bulk] at hvb
    simp only [JV.text]
    omega
  unfold makerWords at hn
  simp only [List.mem_cons, List.not_mem_nil, or_false] at hn
  simp only [subW, not_or] at hsub
  rcases hn with rfl | rfl | rfl | rfl | rfl | rfl | rfl | rfl | rfl | rfl | rfl | rfl | rfl | rfl | rfl | rfl
  · unfold LeafAt at h
    rw [if_pos rfl] at h
    obtain ⟨X, a, c, rfl, h1, h2⟩ := h
    exact brok_keeps rfl (keepsBroken_c _ _ (fun args W => Go.MuLone.run_callFunc_enter (fn := Tryz.f63) (by kernel_rfl) (by kernel_rfl) rfl args W) _ v vs w okV hr (fun W hb => keptType_c x kn v hbk vs W okS okV X a c (h1.kept (hkp hb)) (h2.kept (hkp hb)) (hr.below hb)))
  · unfold LeafAt at h
    rw [if_neg (by decide), if_pos rfl] at h
    obtain ⟨X, rfl, h1⟩ := h
    exact brok_keeps rfl (keepsBroken_c _ _ (fun args W => Go.MuLone.run_callFunc_enter (fn := Tryz.f65) (by kernel_rfl) (by kernel_rfl) rfl args W) _ v vs w okV hr (fun W hb => keptEnum_c x kn v vs W okS okV X (h1.kept (hkp hb)) (hr.below hb)))
  · unfold LeafAt at h
    rw [if_neg (by decide), if_neg (by decide), if_pos rfl] at h
    obtain ⟨X, rfl, h1⟩ := h
    exact brok_keeps rfl (keepsBroken_c _ _ (fun args W => Go.MuLone.run_callFunc_enter (fn := Tryz.f69) (by kernel_rfl) (by kernel_rfl) rfl args W) _ v vs w okV hr (fun W hb => keptRequired_c x kn v vs W okS okV X (h1.kept (hkp hb)) (hr.below hb)))
  · exact absurd rfl hsub.1
  · unfold LeafAt at h
    rw [if_neg (by decide), if_neg (by decide), if_neg (by decide), if_pos rfl] at h
    obtain ⟨X, K, rfl, h1, h2⟩ := h
    exact brok_keeps rfl (keepsBroken_c _ _ (fun args W => Go.MuLone.run_callFunc_enter (fn := Tryz.f73) (by kernel_rfl) (by kernel_rfl) rfl args W) _ v vs w okV hr (fun W hb => keptAdditional_c x kn v vs W okS okV X K (h1.kept (hkp hb)) (h2.kept (hkp hb)) (hr.below hb)))
  · exact absurd rfl hsub.2.2.1
  · unfold LeafAt at h
    rw [if_neg (by decide), if_neg (by decide), if_neg (by decide), if_neg (by decide), if_pos (by decide)] at h
    obtain ⟨X, M, rfl, h1, h2⟩ := h
    exact .inr (.inr (.inr (.inl ⟨_, rfl, (bi_minItems_c x kn v vs w okS okV X M h1 h2 hr htx).mono fun _ _ h => bool_res h⟩)))
  · unfold LeafAt at h
    rw [if_neg (by decide), if_neg (by decide), if_neg (by decide), if_neg (by decide), if_pos (by decide)] at h
    obtain ⟨X, M, rfl, h1, h2⟩ := h
    exact .inr (.inr (.inr (.inl ⟨_, rfl, (bi_maxItems_c x kn v vs w okS okV X M h1 h2 hr htx).mono fun _ _ h => bool_res h⟩)))
  · unfold LeafAt at h
    rw [if_neg (by decide), if_neg (by decide), if_neg (by decide), if_neg (by decide), if_pos (by decide)] at h
    obtain ⟨X, M, rfl, h1, h2⟩ := h
    exact .inr (.inr (.inr (.inl ⟨_, rfl, (bi_minLength_c x kn v vs w okS okV X M h1 h2 hr htx).mono fun _ _ h => bool_res h⟩)))
  · unfold LeafAt at h
    rw [if_neg (by decide), if_neg (by decide), if_neg (by decide), if_neg (by decide), if_pos (by decide)] at h
    obtain ⟨X, M, rfl, h1, h2⟩ := h
    exact .inr (.inr (.inr (.inl ⟨_, rfl, (bi_maxLength_c x kn v vs w okS okV X M h1 h2 hr htx).mono fun _ _ h => bool_res h⟩)))
  · unfold LeafAt at h
    rw [if_neg (by decide), if_neg (by decide), if_neg (by decide), if_neg (by decide), if_neg (by decide)] at h
    obtain ⟨X, O, rfl, h1, h2⟩ := h
    have hx1 : -9223372036854775808 ≤ x.int := by
      obtain ⟨_, cs, _, hrx⟩ := h1
      obtain ⟨k, i, s, ns, is⟩ := x
      rw [rep_mk] at hrx
      exact hrx.2.1.1
    exact .inr (.inr (.inr (.inr ⟨_, rfl, (br_minimum_c x kn v vs w okS okV X O hx1 h1 h2 hr htx).mono fun _ _ h => bool_res h⟩)))
  · unfold LeafAt at h
    rw [if_neg (by decide), if_neg (by decide), if_neg (by decide), if_neg (by decide), if_neg (by decide)] at h
    obtain ⟨X, O, rfl, h1, h2⟩ := h
    have hx1 : -9223372036854775808 ≤ x.int := by
      obtain ⟨_, cs, _, hrx⟩ := h1
      obtain ⟨k, i, s, ns, is⟩ := x
      rw [rep_mk] at hrx
      exact hrx.2.1.1
    exact .inr (.inr (.inr (.inr ⟨_, rfl, (br_maximum_c x kn v vs w okS okV X O hx1 h1 h2 hr htx).mono fun _ _ h => bool_res h⟩)))
  · unfold LeafAt at h
    rw [if_neg (by decide), if_neg (by decide), if_neg (by decide), if_neg (by decide), if_neg (by decide)] at h
    obtain ⟨X, O, rfl, h1, h2⟩ := h
    have hx1 : 1 ≤ x.int := by
      unfold leafOk at hlo
      rw [if_neg (by decide), if_neg (by decide), if_neg (by decide), if_neg (by decide), if_neg (by decide), if_neg (by decide), if_pos rfl] at hlo
      simp only [Bool.and_eq_true, decide_eq_true_eq] at hlo
      exact hlo.2
    exact .inr (.inr (.inr (.inr ⟨_, rfl, (br_divisible_c x kn v vs w okS okV X O hx1 h1 h2 hr htx).mono fun _ _ h => bool_res h⟩)))
  · exact absurd rfl hsub.2.1.1
  · exact absurd rfl hsub.2.1.2
  · exact absurd rfl hsub.2.2.2
mutual
theorem size_bulk : ∀ t : JV, t.size ≤ t.bulk
  | .mk _ _ s ns is => by
    have := sizes_bulk is
    rw [JV.size, JV.bulk]
    omega
theorem sizes_bulk : ∀ l : List JV, JV.sizes l ≤ JV.bulks l
  | [] => by rw [JV.sizes]; exact Nat.zero_le _
  | x :: r => by
    have h1 := size_bulk x
    have h2 := sizes_bulk r
    rw [JV.sizes, JV.bulks]
    omega
end
theorem goodR_word {x : JV} {nm : ByteArray} (h : GoodR x nm) : nm ∈ makerWords := by
  obtain ⟨_, d, n, m, h⟩ := h
  by_cases hm : nm ∈ makerWords
  · exact hm
  · rw [rule_unknown x nm d n hm] at h; cases h
theorem rule_c (N m : Nat) (ih : FaultSaid N m) (x kn v : JV) (nm : ByteArray) (hm : x.size ≤ m) (hg : GoodR x nm) (hbk : x.bulk ≤ 1099511627776) (hv : v.size ≤ N) (hvb : v.bulk ≤ 1099511627776) (rv : Value) (vs : List Value) (w : World) (okS okV : Nat → Prop) (h : RuleAt w okS x nm kn rv) (hr : Rep w okV v vs) (hi : ItoC N w) :
    BrokC w rv vs (faultR x nm kn v) := by
  have hkp : ∀ {W : World}, Below w.heap.size w W → ∀ b, b < w.heap.size → okS b → okS b ∧ W.heap[b]? = w.heap[b]? := fun hb b hlt ho => ⟨ho, hb.block b hlt⟩
  have hbs : ∀ t : JV, t.size ≤ t.bulk := size_bulk
  have hw := goodR_word hg
  by_cases hsub : subW nm
  case neg =>
    have hl := goodR_leaf hsub hg
    have hs2 := hsub
    simp only [subW, not_or] at hs2
    have he : faultR x nm kn v = boolF (leafKept nm x kn v) := by
      obtain ⟨k, i, s, ns, is⟩ := x
      rw [faultR, if_neg hs2.1, if_neg hs2.2.1.1, if_neg hs2.2.1.2, if_neg hs2.2.2.1, if_neg hs2.2.2.2]
      rfl
    rw [he]
    refine leaf_c x kn v nm hw hsub hl hbk hvb rv vs w okS okV ?_ hr
    obtain ⟨k, i, s, ns, is⟩ := x
    rw [RuleAt, if_neg hs2.1, if_neg (not_or.2 hs2.2.1), if_neg hs2.2.2.1, if_neg hs2.2.2.2] at h
    exact h
  obtain ⟨k, i, s, ns, is⟩ := x
  have hbb : ∀ x ∈ is, x.bulk ≤ 1099511627776 := fun x hx => by rw [JV.bulk] at hbk; have := JV.bulk_le hx; omega
  have hsz : ∀ x ∈ is, x.size ≤ m := fun x hx => by have h1 := JV.size_le hx; rw [JV.size] at hm; omega
  have hlen := len_bulk hbk
  have hms : JV.sizes is ≤ 1099511627776 := by have := hbs (.mk k i s ns is); rw [JV.size] at this; omega
  rcases hsub with rfl | (rfl | rfl) | (rfl | rfl)
  · have hgl := goodR_list (.inl rfl) hg
    have hnl := goodR_props hg
    rw [RuleAt, if_pos rfl] at h
    obtain ⟨an, cn, ao, co, rfl, _, _, _, _, h1, h2⟩ := h
    refine .inr (.inl ⟨_, rfl, ?_⟩)
    rw [faultR, if_pos rfl]
    exact propsBroken_c N m ih is ns hsz hgl hbb hlen hnl hms v hv hvb an cn ao co vs w okS okV h1 h2 hr hi
  · have hgl := goodR_list (.inr (.inl rfl)) hg
    rw [RuleAt, if_neg (by decide), if_pos (by decide), if_pos rfl] at h
    obtain ⟨X, ao, co, rfl, h1, _, _, h2⟩ := h
    refine brok_keeps (b := decide (0 < keptL is v)) ?_ (keepsBroken_c _ _ (fun args W => Go.MuLone.run_callFunc_enter (fn := Tryz.f80) (by kernel_rfl) (by kernel_rfl) rfl args W) _ v vs w okV hr (fun W hb => keptAny_c N m ih is hsz hgl hbb hlen v hv hvb ao co X vs W okS okV (h1.kept (hkp hb)) (below_keeps (ptrsL_keeps ao is) h2 hb) (hr.below hb) (hi.below hb)))
    rw [faultR, if_neg (by decide), if_pos rfl]
    unfold boolF
    by_cases hz : 0 < keptL is v
    · rw [if_pos hz, if_pos (decide_eq_true hz)]
    · rw [if_neg hz, if_neg (by rw [decide_eq_false hz]; decide)]
  · have hgl := goodR_list (.inr (.inr rfl)) hg
    rw [RuleAt, if_neg (by decide), if_pos (by decide), if_neg (by decide)] at h
    obtain ⟨X, ao, co, rfl, h1, _, _, h2⟩ := h
    refine brok_keeps (b := decide (keptL is v = is.length)) ?_ (keepsBroken_c _ _ (fun args W => Go.MuLone.run_callFunc_enter (fn := Tryz.f82) (by kernel_rfl) (by kernel_rfl) rfl args W) _ v vs w okV hr (fun W hb => keptAll_c N m ih is hsz hgl hbb hlen v hv hvb ao co X vs W okS okV (h1.kept (hkp hb)) (below_keeps (ptrsL_keeps ao is) h2 hb) (hr.below hb) (hi.below hb)))
    rw [faultR, if_neg (by decide), if_neg (by decide), if_pos rfl]
    unfold boolF
    by_cases hz : keptL is v = is.length
    · rw [if_pos hz, if_pos (decide_eq_true hz)]
    · rw [if_neg hz, if_neg (by rw [decide_eq_false hz]; decide)]
  · have hg1 := goodR_one (.inl rfl) hg
    rw [RuleAt, if_neg (by decide), if_neg (by decide), if_pos rfl] at h
    obtain ⟨q, rfl, h1⟩ := h
    refine .inr (.inr (.inl ⟨_, rfl, ?_⟩))
    have he : faultR (.mk k i s ns is) ⟨#[105, 116, 101, 109, 115]⟩ kn v = itemsF (.mk k i s ns is) v := by
      rw [faultR, if_neg (by decide), if_neg (by decide), if_neg (by decide), if_pos rfl]
      unfold itemsF
      simp only [faultS]
    rw [he]
    exact itemsBroken_c N m ih (.mk k i s ns is) hm hg1 hbk (Nat.le_trans (hbs _) hbk) v hv hvb q vs w okS okV (by rw [SchAt]; exact h1) hr hi
  · have hg1 := goodR_one (.inr rfl) hg
    rw [RuleAt, if_neg (by decide), if_neg (by decide), if_neg (by decide), if_pos rfl] at h
    obtain ⟨X, q, rfl, h1, h2⟩ := h
    have hs : SchAt w okS (.mk k i s ns is) q := by rw [SchAt]; exact h2
    refine brok_keeps (b := (faultS (.mk k i s ns is) v).isSome) ?_ (keepsBroken_c _ _ (fun args W => Go.MuLone.run_callFunc_enter (fn := Tryz.f83) (by kernel_rfl) (by kernel_rfl) rfl args W) _ v vs w okV hr (fun W hb => keptNot_c N m ih (.mk k i s ns is) hm hg1 hbk v hv hvb q X vs W okS okV (h1.kept (hkp hb)) (SchAt.kept (hkp hb) _ _ hs) (hr.below hb) (hi.below hb)))
    rw [faultR, if_neg (by decide), if_neg (by decide), if_neg (by decide), if_neg (by decide), if_pos rfl, faultS]
    rfl
theorem RulesAt.at {w : World} {ok : Nat → Prop} {kn : JV} {b : Nat} : ∀ {is : List JV} {ns : List ByteArray} {off : Nat}, RulesAt w ok is ns kn b off → ∀ (j : Nat) (h1 : j < is.length) (h2 : j < ns.length), ∃ rv, Lie w b (off + j * 2) [.string ns[j], rv] ∧ RuleAt w ok is[j] ns[j] kn rv
  | x :: is, n :: ns, off, h, 0, _, _ => by rw [RulesAt] at h; simpa using h.1
  | x :: is, n :: ns, off, h, j + 1, h1, h2 => by
    rw [RulesAt] at h
    obtain ⟨rv, h3, h4⟩ := RulesAt.at h.2 j (by simpa using h1) (by simpa using h2)
    exact ⟨rv, by rw [show off + (j + 1) * 2 = off + 2 + j * 2 by omega]; exact h3, h4⟩
set_option maxRecDepth 20000 in
set_option maxHeartbeats 16000000 in
theorem fault_step (N m : Nat) (ih : FaultSaid N m) : FaultSaid N (m + 1) := by
  intro t hm hg hbk v hv hvb q vs w okS okV hs hr hi
  obtain ⟨k, i, s, ns, is⟩ := t
  obtain ⟨hk6, hnl, hou, d0, n0, m0, hrl⟩ := hg.rules
  have hgr := good_rules hou hrl
  have hlen := len_bulk hbk
  have hbb : ∀ x ∈ is, x.bulk ≤ 1099511627776 := fun x hx => by rw [JV.bulk] at hbk; have := JV.bulk_le hx; omega
  have hsz : ∀ x ∈ is, x.size ≤ m := fun x hx => by have h1 := JV.size_le hx; rw [JV.size] at hm; omega
  have hr0 := hr
  obtain ⟨an, cn, ai, ci, rfl⟩ := hr.form
  have hs0 := hs
  rw [SchAt] at hs
  obtain ⟨p, sa, sc, sn, rfl, _, hsp, hsl, hsm, _⟩ := hs
  unfold maxLen at hsm
  have hb : Below w.heap.size w (w.alloc (.cells #[.int .i64 v.kind, .int .i64 v.int, .string v.text, .slice an v.names.length cn, .slice ai v.items.length ci] 25)) := (Below.refl _ _).alloc (Nat.le_refl _) _
  have hpl := (Array.getElem?_eq_some_iff.1 hsp).1
  have c0 := cell_of_row (w.alloc (.cells #[.int .i64 v.kind, .int .i64 v.int, .string v.text, .slice an v.names.length cn, .slice ai v.items.length ci] 25)) _ 0 _ _ _ ((hb.block p hpl).trans hsp)
  simp only [List.getElem?_toArray, List.getElem?_cons_zero] at c0
  have HB := Lib.hid hb
  have HS := Lib.hid (SchAt.kept (fun b hlt ho => ⟨ho, hb.block b hlt⟩) _ _ hs0)
  have HR := Lib.hid (hr0.below hb)
  have HI := Lib.hid (hi.below hb)
  have HX := Lib.hid (heap_alloc_new w (.cells #[.int .i64 v.kind, .int .i64 v.int, .string v.text, .slice an v.names.length cn, .slice ai v.items.length ci] 25))
  have hX1 : w.heap.size < (w.alloc (.cells #[.int .i64 v.kind, .int .i64 v.int, .string v.text, .slice an v.names.length cn, .slice ai v.items.length ci] 25)).heap.size := by simp
  have HGR := Lib.hid hgr
  have HBB := Lib.hid hbb
  have HSZ := Lib.hid hsz
  have HH := Lib.hid (And.intro hv hvb)
  have HIH := Lib.hid ih
  have HNL := Lib.hid hnl
  have HFS := Lib.hid (show faultS (.mk k i s ns is) v = faultL is ns (knownJ ns is) v by rw [faultS])
  have hPL : (w.alloc (.cells #[.int .i64 v.kind, .int .i64 v.int, .string v.text, .slice an v.names.length cn, .slice ai v.items.length ci] 25)).heap[p]? = some (.cells #[.slice sa is.length sc, .int .i64 (sn : Int)] 66 (0, 0)) := (hb.block p hpl).trans hsp
  have HPL := Lib.hid hPL
  clear hr hr0 hb hs0 hi hg hgr hbb hsz hv hvb ih hnl hou hrl hk6 hm hbk hsp hPL
  go_enter Tryz.func19, Tryz.ntmps19
  go_wp2
  generalize hW0 : w.alloc (.cells #[.int .i64 v.kind, .int .i64 v.int, .string v.text, .slice an v.names.length cn, .slice ai v.items.length ci] 25) = W0 at *
  clear hW0 c0
  go_loopw [18] (fun x wr => ∃ j : Nat, j ≤ is.length ∧ x = .int .i64 j ∧ Hid (faultL is ns (knownJ ns is) v = faultL (is.drop j) (ns.drop j) (knownJ ns is) v) ∧ Hid (Below W0.heap.size W0 wr)) (fun x _ => is.length - (intOf x).toNat)
  case atStart => exact ⟨0, Nat.zero_le _, rfl, Lib.hid rfl, Lib.hid (Below.refl _ _)⟩
  case round =>
    obtain ⟨j, hj, rfl, HQ, HBL⟩ := hrel
    have hs1 := HBL.out.size
    obtain ⟨⟨v0, v1, v2, v3, v4⟩, _⟩ := cellsOf5 ((HBL.out.block _ hX1).trans HX.out)
    have hwr : w.heap.size < wr.heap.size := by omega
    by_cases hlt : j < is.length
    · have hltn : j < ns.length := by have := HNL.out; omega
      have hsch := SchAt.kept (ok' := okS) (fun b hlt ho => ⟨ho, HBL.out.block b hlt⟩) _ _ HS.out
      rw [SchAt] at hsch
      obtain ⟨p', sa', sc', sn', e1, _, h3, _, _, h6⟩ := hsch
      injection e1 with e1; injection e1 with e1; injection e1 with e1
      subst e1
      have hpr := (HBL.out.block p (Array.getElem?_eq_some_iff.1 HPL.out).1).trans HPL.out
      rw [hpr] at h3
      simp only [Option.some.injEq, Obj.cells.injEq, Array.mk.injEq, List.cons.injEq, Value.slice.injEq] at h3
      obtain ⟨⟨rfl, _, rfl⟩, _⟩ := h3.1
      rcases h6 with h6 | ⟨b, rfl, _, hbl, hru⟩
      · omega
      obtain ⟨rv, hlie, hrule⟩ := hru.at j hlt hltn
      rw [Nat.zero_add] at hlie
      have n0 := hlie 0 (.string ns[j]) rfl
      have n1 := hlie 1 rv rfl
      have HQ2 := Lib.hid (show faultS (.mk k i s ns is) v = (match faultR is[j] ns[j] (knownJ ns is) v with | some (p, wd) => some (p, if wd = ⟨#[]⟩ then ns[j] else wd) | none => faultL (is.drop (j + 1)) (ns.drop (j + 1)) (knownJ ns is) v) by
        rw [HFS.out, HQ.out, List.drop_eq_getElem_cons hlt, List.drop_eq_getElem_cons hltn, faultL]
        rfl)
      have hby : Below wr.heap.size wr (wr.alloc (.cells #[.string ns[j], rv] 70)) := (Below.refl _ _).alloc (Nat.le_refl _) _
      have HBY := Lib.hid hby
      have hbrok := rule_c N m HIH.out is[j] (knownJ ns is) v ns[j] (HSZ.out _ (List.getElem_mem hlt)) (HGR.out j hlt hltn) (HBB.out _ (List.getElem_mem hlt)) HH.out.1 HH.out.2 rv _ (wr.alloc (.cells #[.string ns[j], rv] 70)) _ _ (RuleAt.kept (fun b hlt ho => ⟨ho, hby.block b hlt⟩) _ _ _ _ hrule) ((HR.out.below HBL.out).below hby) ((HI.out.below HBL.out).below hby)
      clear hru hlie hrule hby h3 hpr
      generalize ns[j] = nm at *
      simp only [Nat.add_zero] at n0
      cases hfr : faultR is[j] nm (knownJ ns is) v with
      | none =>
        rw [hfr] at hbrok HQ2
        have HQ3 := Lib.hid (show faultL is ns (knownJ ns is) v = faultL (is.drop (j + 1)) (ns.drop (j + 1)) (knownJ ns is) v from HFS.out.symm.trans HQ2.out)
        clear HQ2 HQ hfr
        rcases hbrok with ⟨u, rfl, hc⟩ | ⟨u, rfl, hc⟩ | ⟨u, rfl, hc⟩ | ⟨u, rfl, hc⟩ | ⟨u, rfl, hc⟩
        all_goals (
          have HC := Lib.hid hc
          clear hc
          go_wp2_with fail
          refine HC.out.mono ?_; rintro e w2 ⟨rfl, HB2⟩
          have HBE := Lib.hid ((HBL.out.trans (HBY.out.mono hs1)).trans (HB2.out.mono (Nat.le_trans hs1 HBY.out.size)))
          have hs2 := HBE.out.size
          clear v0 v1 v2 v3 v4 n0 n1
          go_wp2
          go_roundw
          case rel => exact ⟨j + 1, by omega, by go_num, HQ3, Lib.hid (HBE.out.trans (Below.mono ((by repeat (first | with_reducible exact Below.refl _ _ | with_reducible refine below_drewN ?_ _ | with_reducible refine Below.drew ?_ | with_reducible refine below_set5 ?_ (by first | (simp; done) | (simp; omega)) | with_reducible refine Below.alloc ?_ (by first | (simp; done) | (simp; omega)) _ | with_reducible refine Below.setCell ?_ (by first | (simp; done) | (simp; omega)) _)) : Below w2.heap.size w2 _) hs2))⟩
          case measure => simp [intOf]; omega)
      | some pw =>
        obtain ⟨p', wd'⟩ := pw
        rw [hfr] at hbrok HQ2
        by_cases hwd : wd' = ⟨#[]⟩
        · have HQ3 := Lib.hid (show faultS (.mk k i s ns is) v = some (p', nm) by rw [HQ2.out]; show some (p', if wd' = ⟨#[]⟩ then nm else wd') = _; rw [if_pos hwd])
          subst hwd
          clear HQ2 HQ hfr
          rcases hbrok with ⟨u, rfl, hc⟩ | ⟨u, rfl, hc⟩ | ⟨u, rfl, hc⟩ | ⟨u, rfl, hc⟩ | ⟨u, rfl, hc⟩
          all_goals (
            have HC := Lib.hid hc
            clear hc
            go_wp2_with fail
            refine HC.out.mono ?_; rintro e w2 ⟨ba, bc, ss, rfl, HL2, HB2⟩
            have HBE := Lib.hid ((HBL.out.trans (HBY.out.mono hs1)).trans (HB2.out.mono (Nat.le_trans hs1 HBY.out.size)))
            have hs2 := HBE.out.size
            have hs3 := HB2.out.size
            simp only [World.size_alloc] at hs3
            have hs4 : wr.heap.size < w2.heap.size := by omega
            have nn := cell_below HB2.out (cell_of_row _ _ 0 _ _ _ (heap_alloc_new wr (.cells #[.string nm, .iface _ u] 70)))
            clear v0 v1 v2 v3 v4 n0 n1
            go_wp2
            go_quiet (fail)
            go_wp2
            rw [HQ3.out]
            go_ret3
            exact ⟨ba, bc, ss, rfl, Lib.hid ⟨HL2.out.1, HL2.out.2.1, HL2.out.2.2.1, HL2.out.2.2.2.kept (fun b hlt ho => ⟨by simp only [World.size_alloc] at ho; omega, ((by repeat (first | with_reducible exact Below.refl _ _ | with_reducible refine below_drewN ?_ _ | with_reducible refine Below.drew ?_ | with_reducible refine below_set5 ?_ (by first | (simp; done) | (simp; omega)) | with_reducible refine Below.alloc ?_ (by first | (simp; done) | (simp; omega)) _ | with_reducible refine Below.setCell ?_ (by first | (simp; done) | (simp; omega)) _)) : Below w2.heap.size w2 _).block b hlt⟩)⟩, Lib.hid (HB.out.trans ((HBE.out.trans (Below.mono ((by repeat (first | with_reducible exact Below.refl _ _ | with_reducible refine below_drewN ?_ _ | with_reducible refine Below.drew ?_ | with_reducible refine below_set5 ?_ (by first | (simp; done) | (simp; omega)) | with_reducible refine Below.alloc ?_ (by first | (simp; done) | (simp; omega)) _ | with_reducible refine Below.setCell ?_ (by first | (simp; done) | (simp; omega)) _)) : Below w2.heap.size w2 _) hs2)).mono HB.out.size))⟩)
        · have HQ3 := Lib.hid (show faultS (.mk k i s ns is) v = some (p', wd') by rw [HQ2.out]; show some (p', if wd' = ⟨#[]⟩ then nm else wd') = _; rw [if_neg hwd])
          have e1 : (wd'.toList == ([] : List UInt8)) = false := by
            rw [beq_eq_false_iff_ne, ByteArray.toList_eq]
            intro h
            exact hwd (ByteArray.ext (Array.ext' (by simpa using h)))
          have e2 : ¬ wd'.toList = [] := by rw [beq_eq_false_iff_ne] at e1; exact e1
          have e3 : wd'.toList.isEmpty = false := by cases h : wd'.toList with | nil => exact absurd h e2 | cons _ _ => rfl
          clear HQ2 HQ hfr hwd
          rcases hbrok with ⟨u, rfl, hc⟩ | ⟨u, rfl, hc⟩ | ⟨u, rfl, hc⟩ | ⟨u, rfl, hc⟩ | ⟨u, rfl, hc⟩
          all_goals (
            have HC := Lib.hid hc
            clear hc
            go_wp2_with fail
            refine HC.out.mono ?_; rintro e w2 ⟨ba, bc, ss, rfl, HL2, HB2⟩
            have HBE := Lib.hid ((HBL.out.trans (HBY.out.mono hs1)).trans (HB2.out.mono (Nat.le_trans hs1 HBY.out.size)))
            have hs2 := HBE.out.size
            clear v0 v1 v2 v3 v4 n0 n1
            go_wp2
            go_quiet (fail)
            go_wp2
            rw [HQ3.out]
            go_ret3
            exact ⟨ba, bc, ss, rfl, Lib.hid ⟨HL2.out.1, HL2.out.2.1, HL2.out.2.2.1, HL2.out.2.2.2.kept (fun b hlt ho => ⟨by simp only [World.size_alloc] at ho; omega, ((by repeat (first | with_reducible exact Below.refl _ _ | with_reducible refine below_drewN ?_ _ | with_reducible refine Below.drew ?_ | with_reducible refine below_set5 ?_ (by first | (simp; done) | (simp; omega)) | with_reducible refine Below.alloc ?_ (by first | (simp; done) | (simp; omega)) _ | with_reducible refine Below.setCell ?_ (by first | (simp; done) | (simp; omega)) _)) : Below w2.heap.size w2 _).block b hlt⟩)⟩, Lib.hid (HB.out.trans ((HBE.out.trans (Below.mono ((by repeat (first | with_reducible exact Below.refl _ _ | with_reducible refine below_drewN ?_ _ | with_reducible refine Below.drew ?_ | with_reducible refine below_set5 ?_ (by first | (simp; done) | (simp; omega)) | with_reducible refine Below.alloc ?_ (by first | (simp; done) | (simp; omega)) _ | with_reducible refine Below.setCell ?_ (by first | (simp; done) | (simp; omega)) _)) : Below w2.heap.size w2 _) hs2)).mono HB.out.size))⟩)
    · obtain rfl : j = is.length := by omega
      have HQ3 := Lib.hid (show faultS (.mk k i s ns is) v = none by rw [HFS.out, HQ.out, List.drop_length, faultL])
      go_wp2
      rw [HQ3.out]
      go_ret3
      exact ⟨rfl, Lib.hid (HB.out.trans (HBL.out.mono HB.out.size))⟩
end Go.Proofs.YtnmojmmgkipjcaaGreatDoor
