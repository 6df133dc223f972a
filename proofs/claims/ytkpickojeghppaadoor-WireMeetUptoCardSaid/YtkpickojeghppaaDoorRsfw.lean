/- The walk of Feed (the document's server), the loop. Conditions: what came and goes out is shorter than 2 to the 41. -/
import Derived.Test.YtkpickojeghppaaDoorRsfd
namespace Go.Proofs.YtkpickojeghppaaDoor
open Go.RowKit
theorem rs_fed {w w3 : World} {R : Nat} {V : RV} {v2 : Value} {s : Sv} (h : RSK.At w R V s) (hb3 : Below w.heap.size w w3) (l : List UInt8) (hs : BSlab w3 v2 l) (hn : ∀ g, v2.ownBlock = some g → w.heap.size ≤ g) :
    RSK.At (w3.setCell ⟨R, 0, none⟩ v2) R { V with i := v2 } { s with inp := l } ∧ Turn (RSK.F R V s) w (w3.setCell ⟨R, 0, none⟩ v2) ∧ ∀ g, RSK.F R { V with i := v2 } { s with inp := l } g → RSK.F R V s g ∨ w.heap.size ≤ g := by
  have hRl := h.ltR
  have hs2 : BSlab (w3.setCell ⟨R, 0, none⟩ v2) v2 l := Slab.same hs (fun g hg => heap_setCell_other _ _ _ _ (show g ≠ R by have := hn g hg; omega))
  exact EK.repl (K := RSK) (v2 := { V with i := v2 }) (s2 := { s with inp := l }) [] [⟨1, V.o, s.out.length, bytesV s.out, True⟩, ⟨3, V.h, s.held.length, heldV s.held, True⟩]
    ⟨1, V.i, s.inp.length, bytesV s.inp, s.closed = false ∧ s.ending = false⟩ ⟨1, v2, l.length, bytesV l, s.closed = false ∧ s.ending = false⟩ rfl rfl h ((Turn.of_below hb3).set (.inl (.inl rfl)) 0 v2) (heap_setCell_same _ R 0 _ _ v2 ((hb3.block R hRl).trans h.blk))
    (fun _ => hs2) (fun g hg => Slab.lt hs2 hg) (fun g hg => .inr (hn g hg))
set_option maxRecDepth 20000 in
set_option maxHeartbeats 4000000 in
theorem rsStop_c (R : Nat) (V : RV) (s : Sv) (pv : Value) (w : World) (hst : (s.closed || s.ending) = true) (h : RSK.At w R V s) :
    Calls Tryd.prog 25 #[.pointer (some ⟨R, 0, none⟩), pv] w (RSK.Post R V s w s (.tuple #[])) := by
  obtain ⟨⟨_, _, c2, _, _, _, c6, _⟩, _⟩ := rs_cells h
  have H := Lib.hid h
  clear h
  cases hcl : s.closed with
  | true =>
    rw [hcl] at c2
    go_enter Tryd.func25, Tryd.ntmps25
    go_wp2
    go_end0
    exact EK.post_same H.out _
  | false =>
    have hen : s.ending = true := by rw [hcl] at hst; exact hst
    rw [hcl] at c2
    rw [hen] at c6
    go_enter Tryd.func25, Tryd.ntmps25
    go_wp2
    go_end0
    exact EK.post_same H.out _
set_option maxRecDepth 20000 in
set_option maxHeartbeats 8000000 in
theorem rsFeed0_c (R : Nat) (V : RV) (s : Sv) (hok : s.Ok) (pv : Value) (p : List UInt8) (w : World) (hp : BSlab w pv p) (hroom : 24 * s.out.length + 131072 * (s.inp.length + p.length) ≤ 3298534883328) (hc : s.closed = false) (he : s.ending = false) (h : RSK.At w R V s) :
    Calls Tryd.prog 25 #[.pointer (some ⟨R, 0, none⟩), pv] w (RSK.Post R V { s with inp := s.inp ++ p } w (Sv.loop ((s.inp ++ p).length + 1) { s with inp := s.inp ++ p }) (.tuple #[])) := by
  obtain ⟨⟨c0, _, c2, _, _, _, c6, _⟩, hf⟩ := rs_cells h
  have f0 := hf 0
  rw [hc] at c2
  rw [he] at c6
  have hRl := h.ltR
  obtain ⟨vi, vo, vh⟩ := V
  obtain ⟨A, cap, hvi, hc1, hc2, _⟩ := Slab.form (rs_in h hc he)
  simp only at hvi c0
  subst hvi
  obtain ⟨B, capb, rfl, hcb1, hcb2, _⟩ := Slab.form hp
  have HI := Lib.hid (rs_in h hc he)
  have HP := Lib.hid hp
  have H := Lib.hid h
  have HOK := Lib.hid hok
  have HR := Lib.hid hroom
  have hil : s.inp.length ≤ 1099511627776 := by omega
  have hpl : p.length ≤ 1099511627776 := by omega
  obtain ⟨s0, hs0⟩ : ∃ s0 : Sv, { s with inp := s.inp ++ p } = s0 := ⟨_, rfl⟩
  obtain ⟨n0, hn0⟩ : ∃ n0 : Nat, (s.inp ++ p).length + 1 = n0 := ⟨_, rfl⟩
  rw [hs0, hn0]
  have HS0 := Lib.hid (And.intro hs0 hn0)
  clear hf hok hp h hc he hroom hs0 hn0
  go_enter Tryd.func25, Tryd.ntmps25
  go_wp2_with (first
    | (at_builtin; refine wpList_slab bytTy 28 (by rfl) _ _ (by rfl) (.slice (some ⟨w.heap.size, 0, none⟩) 0 0) 0 [] (by rfl) (slab_lit w _ rfl) (.slice A s.inp.length cap) (by rfl) s.inp.length (bytesV s.inp) (src_bslab (Slab.below HI.out ((Below.refl _ _).alloc (Nat.le_refl _) _))) (by unfold maxLen; omega) (by omega) ?_; intro v4 w4 hs4 hu4; rw [Nat.zero_add, List.nil_append] at hs4; obtain ⟨hb4, hn4⟩ := copied (w := w) rfl ((Below.refl _ _).alloc (Nat.le_refl _) _) (by simp) hu4; have HB4 := Lib.hid hb4; have HN4 := Lib.hid hn4; have HS4 := Lib.hid (show BSlab w4 v4 s.inp from hs4); obtain ⟨A4, c4, hv4, hc4, hm4, _⟩ := Slab.form hs4; subst hv4; clear hs4 hu4 hb4 hn4)
    | (at_builtin; refine wpList_slab bytTy 28 (by rfl) _ _ (by rfl) (.slice A4 s.inp.length c4) s.inp.length (bytesV s.inp) (by rfl) HS4.out (.slice B p.length capb) (by rfl) p.length (bytesV p) (src_bslab (Slab.below HP.out HB4.out)) (by unfold maxLen; omega) (by omega) ?_; intro v5 w5 hs5 hu5; have hs5' : BSlab w5 v5 (s.inp ++ p) := (by unfold BSlab; rw [bytesV_append, List.length_append]; exact hs5); obtain ⟨hb5, hn5⟩ := grown (w := w) HB4.out HN4.out hu5; have HB5 := Lib.hid hb5; have HFD := Lib.hid (rs_fed H.out hb5 (s.inp ++ p) hs5' hn5); have d0 := cell_below hb5 c0; have e0 := (rs_cells (StAt.below H.out hb5)).2 0; obtain ⟨A5, cap5, hv5, _⟩ := Slab.form hs5; subst hv5; clear hs5 hu5 hb5 hn5 hs5'))
  have HF0 := Lib.hid (show RfAt (w5.setCell ⟨R, 0, none⟩ (.slice A5 (s.inp.length + p.length) cap5)) R ⟨.slice A5 (s.inp.length + p.length) cap5, vo, vh⟩ w ⟨.slice A s.inp.length cap, vo, vh⟩ s0 n0 s0 n0 by
    obtain ⟨e1, e2⟩ := HS0.out
    subst e1; subst e2
    exact ⟨HFD.out.1, HFD.out.2.1.weak (fun g hg => rs_F _ hg), fun g hg => (HFD.out.2.2 g hg).imp (fun e => rs_F _ e) (fun e => e), Nat.lt_succ_self _, rfl, ⟨HOK.out.bye, HOK.out.held, HOK.out.ids⟩, by have := HR.out; show 24 * s.out.length + 131072 * (s.inp ++ p).length ≤ _; rw [List.length_append]; omega⟩)
  clear c0 c2 c6 f0 d0 e0 HI HP HOK HR HFD HB4 HN4 HS4 HB5
  go_loopw [4, 5] (fun _ _ wr => ∃ (s' : Sv) (n : Nat) (V' : RV), Hid (RfAt wr R V' w ⟨.slice A s.inp.length cap, vo, vh⟩ s0 n0 s' n)) (fun _ _ wr => rleft R wr)
  case atStart => exact ⟨_, _, _, HF0⟩
  case round =>
    obtain ⟨s', n, V', HF⟩ := hrel
    obtain ⟨⟨c0, _, c2, _, _, _, c6, _⟩, _⟩ := rs_cells HF.out.at_
    by_cases hst : (s'.closed || s'.ending) = true
    · have HE := Lib.hid (rloop_closed n s' hst)
      cases hcl : s'.closed with
      | true =>
        rw [hcl] at c2
        go_wp2
        go_end0
        exact HF.out.post HE.out (EK.post_same HF.out.at_ _)
      | false =>
        have hen : s'.ending = true := by rw [hcl] at hst; exact hst
        rw [hcl] at c2
        rw [hen] at c6
        go_wp2
        go_end0
        exact HF.out.post HE.out (EK.post_same HF.out.at_ _)
    · have hcl : s'.closed = false := by cases h : s'.closed with | false => rfl | true => rw [h] at hst; exact absurd rfl hst
      have hen : s'.ending = false := by cases h : s'.ending with | false => rfl | true => rw [h, Bool.or_true] at hst; exact absurd rfl hst
      rw [hcl] at c2
      rw [hen] at c6
      obtain ⟨n, rfl⟩ : ∃ k, n = k + 1 := ⟨n - 1, by have := HF.out.fuel; omega⟩
      have HNX := Lib.hid (rnext_c R V' s' hcl hen (by have := HF.out.room; omega) wr HF.out.at_)
      have HST := Lib.hid (And.intro hst (And.intro hcl hen))
      clear hcl hen hst c0
      cases hu : unpack s'.inp with
      | bad ee =>
        have HE := Lib.hid (rloop_bad n s' ee HST.out.1 hu)
        have hee := (unpack_err _ _ hu)
        have HC := Lib.hid (show s'.cut (unpack s'.inp).len = s' by rw [hu]; rfl)
        rw [HC.out, hu] at HNX
        have HNX' := Lib.hid (show Calls Tryd.prog 57 #[.pointer (some ⟨R, 0, none⟩)] wr (RSK.Post R V' s' wr s' (.tuple #[.agg #[.int .u32 0, .int .u32 0, .int .i64 0, .string ⟨#[]⟩, .bool false], .int .i64 (ee : Int)])) from HNX.out)
        clear HNX hu HC
        by_cases h3 : ee = 3
        · have HE3 := Lib.hid (HE.out.trans (if_pos h3))
          subst h3
          go_wp2_with fail
          refine HNX'.out.mono ?_; rintro e w2 ⟨V2, rfl, h2, ht2, hn2⟩
          have H2 := Lib.hid (And.intro h2 (And.intro ht2 hn2))
          clear h2 ht2 hn2 c2 c6
          go_wp2
          go_end0
          exact HF.out.post HE3.out (EK.seq H2.out.2.1 H2.out.2.2 (EK.post_below H2.out.1 ((Below.refl _ _).alloc (Nat.le_refl _) _) _))
        · have HE3 := Lib.hid (HE.out.trans (if_neg h3))
          have k3 : ((ee : Int) == 3) = false := by rw [beq_eq_false_iff_ne]; omega
          have k0 : ((ee : Int) != 0) = true := by rw [bne_iff_ne]; omega
          go_wp2_with fail
          refine HNX'.out.mono ?_; rintro e w2 ⟨V2, rfl, h2, ht2, hn2⟩
          have H2 := Lib.hid (And.intro h2 (And.intro ht2 hn2))
          have HFL := Lib.hid (rfails_b R V2 s' ee (by omega) (by have := HF.out.room; omega) w2 h2 _ ((Below.refl _ _).alloc (Nat.le_refl _) (.cells #[.int .u32 0, .int .u32 0, .int .i64 0, .string ⟨#[]⟩, .bool false] 27)))
          clear h2 ht2 hn2 c2 c6
          go_wp2_with fail
          refine HFL.out.mono ?_; rintro e w3 hp3
          have HP3 := Lib.hid (EK.seq H2.out.2.1 H2.out.2.2 hp3)
          obtain ⟨V3, rfl, _⟩ := hp3
          go_wp2
          go_end0
          exact HF.out.post HE3.out HP3.out
      | ok m k =>
        have HUP := Lib.hid hu
        obtain ⟨hm, hk24, hkl⟩ := unpack_ok s'.inp (by have := HF.out.room; omega) m k hu
        have HC := Lib.hid (show (unpack s'.inp).len = k by rw [hu]; rfl)
        rw [HC.out, hu] at HNX
        have HTK := Lib.hid (fun (V2 : RV) (w2 : World) (h2 : RSK.At w2 R V2 (s'.cut k)) (W : World) (hbW : Below w2.heap.size w2 W) => (rtake_c R V2 (s'.cut k) ⟨HF.out.ok.bye, HF.out.ok.held, HF.out.ok.ids⟩ HST.out.2.1 HST.out.2.2 m hm (unpack_fits _ _ _ hu) (by have := HF.out.room; show s'.out.length ≤ _; omega) W (StAt.below h2 hbW)).mono (R' := fun e w3 => RSK.Post R V2 (s'.cut k) w2 ((s'.cut k).took m) (.tuple #[]) e w3) (fun e w3 hp => EK.seq (Turn.of_below hbW) (fun g hg => .inl hg) hp))
        have HNE := Lib.hid (fun (V4 : RV) (w4 : World) h4 ht hn => HF.out.next HST.out.2.1 HST.out.2.2 hu (V4 := V4) (w4 := w4) h4 ht hn)
        clear hu hm HC
        obtain ⟨mid, mto, mkind, mbody, msm⟩ := m
        have HNX' := Lib.hid (show Calls Tryd.prog 57 #[.pointer (some ⟨R, 0, none⟩)] wr (RSK.Post R V' s' wr (s'.cut k) (.tuple #[.agg #[.int .u32 (mid : Int), .int .u32 (mto : Int), .int .i64 mkind, .string mbody, .bool msm], .int .i64 0])) from HNX.out)
        have HTK' := Lib.hid (fun (V2 : RV) (w2 : World) (h2 : RSK.At w2 R V2 (s'.cut k)) (W : World) (hbW : Below w2.heap.size w2 W) => show Calls Tryd.prog 59 #[.pointer (some ⟨R, 0, none⟩), .agg #[.int .u32 (mid : Int), .int .u32 (mto : Int), .int .i64 mkind, .string mbody, .bool msm]] W _ from HTK.out V2 w2 h2 W hbW)
        clear HNX HTK
        go_wp2_with fail
        refine HNX'.out.mono ?_; rintro e w2 ⟨V2, rfl, h2, ht2, hn2⟩
        have H2 := Lib.hid (And.intro h2 (And.intro ht2 hn2))
        clear h2 ht2 hn2 c2 c6
        go_wp2_with fail
        refine (HTK'.out V2 w2 H2.out.1 _ ((Below.refl _ _).alloc (Nat.le_refl _) _)).mono ?_; rintro e w3 hp3
        obtain ⟨V3, rfl, h3, ht3, hn3⟩ := EK.seq H2.out.2.1 H2.out.2.2 hp3
        have HFN := Lib.hid (HNE.out V3 w3 h3 ht3 hn3)
        clear hp3 h3 ht3 hn3
        go_wp2
        go_roundw
        case rel => exact ⟨_, n, V3, Lib.hid HFN.out.1⟩
        case measure => exact HFN.out.2
theorem rsFeed_c (R : Nat) (V : RV) (s : Sv) (hok : s.Ok) (pv : Value) (p : List UInt8) (w : World) (hp : BSlab w pv p) (hroom : 24 * s.out.length + 131072 * (s.inp.length + p.length) ≤ 3298534883328) (h : RSK.At w R V s) :
    Calls Tryd.prog 25 #[.pointer (some ⟨R, 0, none⟩), pv] w (RSK.Post R V s w (s.feed p) (.tuple #[])) := by
  unfold Sv.feed
  by_cases hst : (s.closed || s.ending) = true
  · rw [if_pos hst]
    exact rsStop_c R V s pv w hst h
  · have hcl : s.closed = false := by cases h : s.closed with | false => rfl | true => rw [h] at hst; exact absurd rfl hst
    have hen : s.ending = false := by cases h : s.ending with | false => rfl | true => rw [h, Bool.or_true] at hst; exact absurd rfl hst
    rw [if_neg hst]
    exact (rsFeed0_c R V s hok pv p w hp hroom hcl hen h).mono (fun e w' ⟨V2, he, h2, ht, hn⟩ => ⟨V2, he, h2, ht.weak (fun g hg => rs_F _ hg), fun g hg => (hn g hg).imp (fun e => rs_F _ e) (fun e => e)⟩)
end Go.Proofs.YtkpickojeghppaaDoor
