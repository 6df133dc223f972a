/- The walks of the document's reader: fail, next, number, text, several, value, FromBytes. Conditions: there are less than 2 to the 40 bytes. -/
import Derived.Test.YtjmhoccikbgigaaDoorRdall
namespace Go.Proofs.YtjmhoccikbgigaaDoor
open Go.RowKit
set_option maxHeartbeats 1000000 in
theorem dfail_c (R : Nat) (A : Option Addr) (cap : Nat) (bs : List UInt8) (s : St) (e p : Nat) (w : World) (h : RdAt w R A cap bs s) :
    Calls Tryd.prog 49 #[.pointer (some ⟨R, 0, none⟩), .int .i64 e, .int .i64 p] w fun r w' => r = .returned (.tuple #[]) ∧ RdAt w' R A cap bs (s.fail e p) ∧ Upd w w' (some R) (some R) := by
  have h1 := h.c1
  have h2 := h.c2
  have h3 := h.c3
  have f2 := h.f2
  have f3 := h.f3
  have H := Lib.hid h
  clear h
  by_cases he : s.err = 0
  · have HF := Lib.hid (show s.fail e p = ⟨s.pos, e, p⟩ from if_pos he)
    have heb : ((s.err : Int) == 0) = true := by simp [he]
    go_enter Tryd.func49, Tryd.ntmps49
    go_wp2
    go_end0
    exact ⟨rfl, by rw [HF.out]; exact H.out.flt e p, (Upd.of_setCell _ ⟨R, 2, none⟩ _).trans (Upd.of_setCell _ ⟨R, 3, none⟩ _)⟩
  · have HF := Lib.hid (show s.fail e p = s from if_neg he)
    have heb : ((s.err : Int) == 0) = false := by simp [he]
    go_enter Tryd.func49, Tryd.ntmps49
    go_wp2
    go_end0
    exact ⟨rfl, by rw [HF.out]; exact H.out, Upd.refl _ _⟩
set_option maxHeartbeats 2000000 in
theorem dnext_bad (R : Nat) (A : Option Addr) (cap : Nat) (bs : List UInt8) (s : St) (he : s.err ≠ 0) (w : World) (h : RdAt w R A cap bs s) :
    Calls Tryd.prog 70 #[.pointer (some ⟨R, 0, none⟩)] w fun r w' => r = .returned (.tuple #[.int .u8 0, .bool false]) ∧ w' = w := by
  have h2 := h.c2
  have heb : ((s.err : Int) == 0) = false := by simp [he]
  have hen : ((s.err : Int) != 0) = true := by simp only [bne, heb]; rfl
  clear h he
  go_enter Tryd.func70, Tryd.ntmps70
  go_wp2
  go_ret2
  exact ⟨rfl, rfl⟩
set_option maxHeartbeats 2000000 in
theorem dnext_in (R : Nat) (A : Option Addr) (cap : Nat) (bs : List UInt8) (p : Nat) (hp : p < bs.length) (w : World) (h : RdAt w R A cap bs ⟨p, 0, 0⟩) :
    Calls Tryd.prog 70 #[.pointer (some ⟨R, 0, none⟩)] w fun r w' => r = .returned (.tuple #[.int .u8 (bs[p].toNat : Int), .bool true]) ∧ RdAt w' R A cap bs ⟨p + 1, 0, 0⟩ ∧ Upd w w' (some R) (some R) := by
  have h1 : w.cell? ⟨R, 1, none⟩ = some (.int .i64 (p : Int)) := h.c1
  have h2 : w.cell? ⟨R, 2, none⟩ = some (.int .i64 0) := h.c2
  have f1 := h.f1
  obtain ⟨h0, hcap, hl⟩ := h.c0
  unfold maxLen at hcap
  have H := Lib.hid h
  clear h
  rcases hl with rfl | ⟨G, off, rfl, hne, hl⟩
  · simp at hp
  obtain ⟨c, hc⟩ : ∃ c, c = bs[p] := ⟨_, rfl⟩
  rw [← hc]
  have HC := Lib.hid hc
  clear hc
  have hd : ((p : Int) == (bs.length : Int)) = false := by rw [beq_eq_false_iff_ne]; omega
  go_enter Tryd.func70, Tryd.ntmps70
  go_wp2
  go_quiet (fail)
  go_wp2_with fail
  have HW : RdAt ((w.drewN nq).setCell ⟨R, 1, none⟩ (.int .i64 ((p : Int) + 1))) R (some ⟨G, off, none⟩) cap bs ⟨p + 1, 0, 0⟩ := (H.out.same (w' := w.drewN nq) rfl).go (p := p + 1) (by omega)
  have HU := Lib.hid (Upd.of_setCell (w.drewN nq) ⟨R, 1, none⟩ (.int .i64 ((p : Int) + 1)))
  generalize (w.drewN nq).setCell ⟨R, 1, none⟩ (.int .i64 ((p : Int) + 1)) = W at *
  obtain ⟨k0, hcap', hl'⟩ := HW.c0
  have k1 : W.cell? ⟨R, 1, none⟩ = some (.int .i64 ((p : Int) + 1)) := HW.c1
  unfold maxLen at hcap'
  rcases hl' with rfl | ⟨G', off', hAA, hne', hl'⟩
  · simp at hp
  injection hAA with hAA
  injection hAA with e1 e2 _
  subst e1; subst e2
  have kb : W.cell? ⟨G, off + p, none⟩ = some (.int .u8 (c.toNat : Int)) := hl' p _ (by rw [HC.out]; simp [hp])
  have HW2 := Lib.hid HW
  clear HW h0 h1 h2 f1 hl hl' hd
  go_quiet (fail)
  go_wp2
  go_ret2
  exact ⟨rfl, HW2.out.same rfl, ((Upd.of_below (below_drewN' _ _) _).trans HU.out).trans (Upd.of_below (below_drewN' _ _) _)⟩
set_option maxHeartbeats 2000000 in
theorem dnext_out (R : Nat) (A : Option Addr) (cap : Nat) (bs : List UInt8) (p : Nat) (hp : ¬ p < bs.length) (w : World) (h : RdAt w R A cap bs ⟨p, 0, 0⟩) :
    Calls Tryd.prog 70 #[.pointer (some ⟨R, 0, none⟩)] w fun r w' => r = .returned (.tuple #[.int .u8 0, .bool false]) ∧ RdAt w' R A cap bs ⟨p, 3, bs.length⟩ ∧ Upd w w' (some R) (some R) := by
  have h1 : w.cell? ⟨R, 1, none⟩ = some (.int .i64 (p : Int)) := h.c1
  have h2 : w.cell? ⟨R, 2, none⟩ = some (.int .i64 0) := h.c2
  have hpp := h.pos
  simp only at hpp
  obtain ⟨h0, hcap, _⟩ := h.c0
  unfold maxLen at hcap
  have H := Lib.hid h
  clear h
  have hd : ((p : Int) == (bs.length : Int)) = true := by rw [beq_iff_eq]; omega
  go_enter Tryd.func70, Tryd.ntmps70
  go_wp2
  go_quiet (fail)
  go_wp2_with fail
  refine (dfail_c R A cap bs ⟨p, 0, 0⟩ 3 bs.length (w.drewN nq) (H.out.same rfl)).mono ?_; rintro e w1 ⟨rfl, hr1, hu1⟩
  have HR := Lib.hid (And.intro hr1 hu1)
  clear hr1 hu1
  go_wp2
  go_ret2
  exact ⟨rfl, HR.out.1, (Upd.of_below (below_drewN' _ _) _).trans HR.out.2⟩
/-- what a number comes to -/
def NumSaid (bs : List UInt8) (p p0 : Nat) (n : Int) (s : St) : Prop := RdRes bs p0 (match pNum bs.length (bs.drop p) with | .ok n q => Res.ok (JV.mk 3 n ⟨#[]⟩ [] []) q | .bad e pl => .bad e pl) (fun a => JV.mk 3 n ⟨#[]⟩ [] [] = a) s
set_option maxHeartbeats 4000000 in
/-- the document's number -/
theorem dnumber_c (R : Nat) (A : Option Addr) (cap : Nat) (bs : List UInt8) (p p0 : Nat) (h0 : p0 ≤ p) (w : World) (h : RdAt w R A cap bs ⟨p, 0, 0⟩) :
    Calls Tryd.prog 71 #[.pointer (some ⟨R, 0, none⟩)] w fun r w' => ∃ (n : Int) (s' : St), r = .returned (.int .i64 n) ∧ (-9223372036854775808 ≤ n ∧ n ≤ 9223372036854775807) ∧ RdAt w' R A cap bs s' ∧ Upd w w' (some R) (some R) ∧
      NumSaid bs p p0 n s' := by
  have H := Lib.hid h
  have hpp := h.pos
  simp only at hpp
  have HNR := Lib.hid (num_res bs p hpp p0 h0)
  clear h
  go_enter Tryd.func71, Tryd.ntmps71
  go_wp2
  go_loopw [3, 4] (fun n i wr => ∃ j : Nat, j ≤ 8 ∧ i = .int .i64 j ∧ p + j ≤ bs.length ∧ ∃ N : Nat, N < 18446744073709551616 ∧ n = .int .u64 N ∧ Hid (numP bs 8 (0, ⟨p, 0, 0⟩) = numP bs (8 - j) (N, ⟨p + j, 0, 0⟩)) ∧ Hid (RdAt wr R A cap bs ⟨p + j, 0, 0⟩) ∧ Hid (Upd w wr (some R) (some R))) (fun _ i _ => 8 - (intOf i).toNat)
  case atStart => exact ⟨0, by omega, rfl, hpp, 0, by omega, rfl, rfl, H, Lib.hid (Upd.refl _ _)⟩
  case round =>
    obtain ⟨j, hj, rfl, hpj, N, hN, rfl, HQ, HRD, HU⟩ := hrel
    by_cases hlt : j < 8
    · by_cases hin : p + j < bs.length
      · have hnx := dnext_in R A cap bs (p + j) hin wr HRD.out
        have HQ2 := Lib.hid (HQ.out.trans (show _ = numP bs (8 - (j + 1)) (numF N bs[p + j], ⟨p + (j + 1), 0, 0⟩) by rw [show 8 - j = (8 - (j + 1)) + 1 by omega, numP]; simp only [next_in hin]; rfl))
        generalize bs[p + j] = c at *
        have hbt := numF_bits N c
        have hlt2 := numF_lt N c
        generalize numF N c = N2 at *
        go_wp2_with fail
        refine hnx.mono ?_; rintro e w1 ⟨rfl, hr1, hu1⟩
        have HR := Lib.hid (show RdAt w1 R A cap bs ⟨p + (j + 1), 0, 0⟩ from hr1)
        have HU2 := Lib.hid (HU.out.trans hu1)
        clear HQ HU hr1 hu1 HRD hnx
        go_wp2
        go_roundw
        case rel => exact ⟨j + 1, by omega, by go_num, by omega, N2, hlt2, rfl, HQ2, HR, HU2⟩
        case measure => simp [intOf]; omega
      · have hnx := dnext_out R A cap bs (p + j) hin wr HRD.out
        have HRES := Lib.hid (show NumSaid bs p p0 0 ⟨p + j, 3, bs.length⟩ by
          have hs : ¬ 8 ≤ (bs.drop p).length := by rw [List.length_drop]; omega
          unfold NumSaid pNum
          rw [if_neg hs]
          exact ⟨rfl, rfl, by decide, by show p0 ≤ p + j; omega⟩)
        go_wp2_with fail
        refine hnx.mono ?_; rintro e w1 ⟨rfl, hr1, hu1⟩
        have HR := Lib.hid (And.intro hr1 (HU.out.trans hu1))
        clear HQ HU hr1 hu1 HRD hnx
        go_wp2
        go_ret
        exact ⟨0, _, rfl, by omega, HR.out.1, HR.out.2, HRES.out⟩
    · obtain rfl : j = 8 := by omega
      have HQ2 := Lib.hid (show numP bs 8 (0, ⟨p, 0, 0⟩) = (N, ⟨p + 8, 0, 0⟩) from HQ.out)
      have HRES := HNR.out
      rw [HQ2.out] at HRES
      have HRS := Lib.hid (show NumSaid bs p p0 ((N : Int) - 9223372036854775808) ⟨p + 8, 0, 0⟩ from HRES)
      have hw : wrap64 (IntKind.u64.wrap ((N : Int) - 9223372036854775808)) = (N : Int) - 9223372036854775808 := by
        simp [wrap64, IntKind.wrap, IntKind.signed, IntKind.bits]
        omega
      clear HQ HRES
      go_wp2
      go_ret
      exact ⟨(N : Int) - 9223372036854775808, _, by rw [hw]; rfl, by omega, HRD.out, HU.out, HRS.out⟩
end Go.Proofs.YtjmhoccikbgigaaDoor
namespace Go.Proofs.YtjmhoccikbgigaaDoor
open Go.RowKit
set_option maxRecDepth 20000 in
set_option maxHeartbeats 8000000 in
theorem dtext_c (R : Nat) (A : Option Addr) (cap : Nat) (bs : List UInt8) (hbs : bs.length < 35184372088832) (p : Nat) (w : World) (h : RdAt w R A cap bs ⟨p, 0, 0⟩) :
    Calls Tryd.prog 72 #[.pointer (some ⟨R, 0, none⟩)] w fun r w' => ∃ (x : ByteArray) (s' : St), r = .returned (.string x) ∧ x.size ≤ bs.length + 1 ∧ RdAt w' R A cap bs s' ∧ Upd w w' (some R) (some R) ∧
      RdRes bs p (pText bs.length p (bs.drop p) []) (fun l => x = ⟨l.toArray⟩) s' := by
  have H := Lib.hid h
  have h1 := h.c1
  have hp := h.pos
  simp only at hp h1
  clear h
  go_enter Tryd.func72, Tryd.ntmps72
  go_wp2
  go_loopg [4] (bs.length + 2) (fun gk v wr => ∃ (acc : List UInt8) (q : Nat), Hid (Byts wr v acc) ∧ Hid (Fresh w.heap.size v) ∧ Hid (RdAt wr R A cap bs ⟨q, 0, 0⟩) ∧ Hid (Upd w wr (some R) (some R)) ∧ acc.length + p ≤ q ∧ q ≤ bs.length ∧ bs.length - q + 1 < gk ∧
    Hid (pText bs.length p (bs.drop p) [] = pText bs.length p (bs.drop q) acc))
  case atStart => exact ⟨[], p, Lib.hid (byts_nil _), Lib.hid (fun g hg => by cases hg), H, Lib.hid (Upd.refl _ _), by simp, hp, by omega, rfl⟩
  case round =>
    clear h1
    obtain ⟨acc, q, HBY, HNE, HRD, HU, hac, hq, hM, HQ⟩ := hrel
    by_cases hlt : q < bs.length
    · have hnx := dnext_in R A cap bs q hlt wr HRD.out
      have HD := Lib.hid (drop_cons2 hlt)
      generalize bs[q] = c at *
      go_wp2_with fail
      refine hnx.mono ?_; rintro e w1 ⟨rfl, hr1, hu1⟩
      have HR1 := Lib.hid (And.intro hr1 (HU.out.trans hu1))
      have HBY1 := Lib.hid (byts_grow2 H.out.lt HNE.out HBY.out hu1)
      clear hnx hr1 hu1 HBY HRD
      by_cases hc : c = 0
      · subst hc
        by_cases hlt2 : q + 1 < bs.length
        · have hnx2 := dnext_in R A cap bs (q + 1) hlt2 w1 HR1.out.1
          have HD2 := Lib.hid (drop_cons2 hlt2)
          generalize bs[q + 1] = d at *
          have HQ2 := Lib.hid (HQ.out.trans (by rw [HD.out, HD2.out, pText_zero]))
          go_wp2_with fail
          refine hnx2.mono ?_; rintro e w2 ⟨rfl, hr2, hu2⟩
          have HR2 := Lib.hid (And.intro hr2 (HR1.out.2.trans hu2))
          have HBY2 := Lib.hid (byts_grow2 H.out.lt HNE.out HBY1.out hu2)
          have m1 : w2.cell? ⟨R, 1, none⟩ = some (.int .i64 ((q + 1 + 1 : Nat) : Int)) := hr2.c1
          clear hnx2 hr2 hu2 HQ HBY1 HR1
          by_cases h255 : d = 255
          · subst h255
            have HQ3 := Lib.hid (HQ2.out.trans (if_pos rfl))
            have hb1 : Below w2.heap.size w2 (w2.alloc (.cells #[.int .u8 0] 5)) := (Below.refl _ _).alloc (Nat.le_refl _) _
            have hv2 := byts_kept HBY2.out hb1
            have hcell : (w2.alloc (.cells #[.int .u8 0] 5)).cell? ⟨w2.heap.size, 0, none⟩ = some (.int .u8 0) := by simp [go_sem]
            have HB1 := Lib.hid hb1
            clear hb1
            go_wp2_with (at_builtin; refine wpList_byte rfl _ _ rfl _ acc rfl hv2 _ _ 0 rfl hcell rfl (by omega) ?_; intro v3 w3 hv3 hu3; have HR3 := Lib.hid (And.intro hv3 hu3); clear hv3 hu3 hv2 hcell)
            go_roundg (gk - 1)
            case measure => omega
            case rel =>
              obtain ⟨g1, g2, g3⟩ := rd_push H.out (HR2.out.2.trans (Upd.of_below HB1.out _)) (HR2.out.1.below HB1.out) HNE.out HR3.out.2
              exact ⟨acc ++ [0], q + 1 + 1, Lib.hid HR3.out.1, Lib.hid g3, Lib.hid g1, Lib.hid g2, by simp; omega, by omega, by omega, HQ3⟩
          · have HQ3 := Lib.hid (HQ2.out.trans (if_neg h255))
            have hb255 : ((d.toNat : Int) == 255) = false := by
              rw [beq_eq_false_iff_ne]; intro e
              have e2 : d.toNat = 255 := by omega
              exact h255 (UInt8.toNat_inj.1 e2)
            have hn255 : ((d.toNat : Int) != 255) = true := by simp only [bne, hb255]; rfl
            clear HQ2
            by_cases hd1 : d = 1
            · subst hd1
              have HQ4 := Lib.hid (HQ3.out.trans (if_pos rfl))
              have hst := byts_string HBY2.out
              have hcl := refClean_c ⟨acc.toArray⟩ (by simp [ByteArray.size, maxLen]; omega) w2
              simp only at hcl
              clear HQ3 h255 hb255 hn255
              go_wp2_with fail
              refine hcl.mono ?_; rintro e w3 ⟨rfl, hb3⟩
              have hR3 := HR2.out.1.below hb3
              have HU3 := Lib.hid (HR2.out.2.trans (Upd.of_below hb3 _))
              have HBY3 := Lib.hid (byts_kept HBY2.out hb3)
              clear hcl hb3 m1 hst
              have hst := byts_string HBY3.out
              by_cases hvv : Lib.validD acc = true
              · have HQ5 := Lib.hid (HQ4.out.trans (if_pos hvv))
                have HR3 := Lib.hid hR3
                have HDR := Lib.hid (show bs.drop (q + 1 + 1) = bs.drop (bs.length - (bs.drop (q + 1 + 1)).length) by rw [List.length_drop]; congr 1; omega)
                rw [hvv]
                clear hR3 HQ4 hvv
                go_wp2
                go_ret
                refine ⟨⟨acc.toArray⟩, ⟨q + 1 + 1, 0, 0⟩, rfl, by simp [ByteArray.size]; omega, HR3.out, HU3.out, ?_⟩
                rw [HQ5.out]
                refine ⟨rfl, ?_, by rw [List.length_drop]; omega, HDR.out⟩
                rw [List.length_drop]; congr 1; omega
              · have HQ5 := Lib.hid (HQ4.out.trans (if_neg hvv))
                have hvf : Lib.validD acc = false := by simpa using hvv
                rw [hvf]
                have hfl := dfail_c R A cap bs ⟨q + 1 + 1, 0, 0⟩ 13 p w3 hR3
                clear hR3 HQ4 hvv hst
                go_wp2_with fail
                refine hfl.mono ?_; rintro e w4 ⟨rfl, hr4, hu4⟩
                have HR4 := Lib.hid (And.intro hr4 (HU3.out.trans hu4))
                have hst := byts_string (byts_grow2 H.out.lt HNE.out HBY3.out hu4)
                clear hfl hr4 hu4
                go_wp2
                go_ret
                refine ⟨⟨acc.toArray⟩, ⟨q + 1 + 1, 13, p⟩, rfl, by simp [ByteArray.size]; omega, HR4.out.1, HR4.out.2, ?_⟩
                rw [HQ5.out]
                exact ⟨rfl, rfl, by decide, by show p ≤ q + 1 + 1; omega⟩
            · have HQ4 := Lib.hid (HQ3.out.trans (if_neg hd1))
              have hbd1 : ((d.toNat : Int) == 1) = false := by
                rw [beq_eq_false_iff_ne]; intro e
                have e2 : d.toNat = 1 := by omega
                exact hd1 (UInt8.toNat_inj.1 e2)
              have hfl := dfail_c R A cap bs ⟨q + 1 + 1, 0, 0⟩ 30 (q + 1) w2 HR2.out.1
              have hqq : ((q + 1 + 1 : Nat) : Int) - 1 = ((q + 1 : Nat) : Int) := by omega
              have hwq : wrap64 (((q + 1 : Nat) : Int)) = ((q + 1 : Nat) : Int) := by unfold wrap64; omega
              have HPL := Lib.hid (show bs.length - (bs.drop (q + 1 + 1)).length - 1 = q + 1 by rw [List.length_drop]; omega)
              clear HQ3 h255 hd1
              go_wp2_with fail
              refine hfl.mono ?_; rintro e w3 ⟨rfl, hr3, hu3⟩
              have HR3 := Lib.hid (And.intro hr3 (HR2.out.2.trans hu3))
              clear hfl hr3 hu3 m1
              go_wp2
              go_ret
              refine ⟨⟨#[]⟩, ⟨q + 1 + 1, 30, q + 1⟩, rfl, Nat.zero_le _, HR3.out.1, HR3.out.2, ?_⟩
              rw [HQ4.out, HPL.out]
              exact ⟨rfl, rfl, by decide, by show p ≤ q + 1 + 1; omega⟩
        · have hnx2 := dnext_out R A cap bs (q + 1) hlt2 w1 HR1.out.1
          have HE2 := Lib.hid (show bs.drop (q + 1) = [] from List.drop_of_length_le (by omega))
          have HQ2 := Lib.hid (HQ.out.trans (show _ = Res.bad 3 bs.length by rw [HD.out, HE2.out]; rfl))
          go_wp2_with fail
          refine hnx2.mono ?_; rintro e w2 ⟨rfl, hr2, hu2⟩
          have HR2 := Lib.hid (And.intro hr2 (HR1.out.2.trans hu2))
          clear hnx2 hr2 hu2 HQ HBY1 HR1
          go_wp2
          go_ret
          refine ⟨⟨#[]⟩, ⟨q + 1, 3, bs.length⟩, rfl, Nat.zero_le _, HR2.out.1, HR2.out.2, ?_⟩
          rw [HQ2.out]
          exact ⟨rfl, rfl, by decide, by show p ≤ q + 1; omega⟩
      · have HQ2 := Lib.hid (HQ.out.trans (by rw [HD.out, pText_ne _ _ hc]))
        have hcb : ((c.toNat : Int) == 0) = false := by
          rw [beq_eq_false_iff_ne]; intro e
          have e2 : c.toNat = 0 := by omega
          exact hc (UInt8.toNat_inj.1 e2)
        have hcn : ((c.toNat : Int) != 0) = true := by simp only [bne, hcb]; rfl
        have hb1 : Below w1.heap.size w1 (w1.alloc (.cells #[.int .u8 (c.toNat : Int)] 5)) := (Below.refl _ _).alloc (Nat.le_refl _) _
        have hv2 := byts_kept HBY1.out hb1
        have hcell : (w1.alloc (.cells #[.int .u8 (c.toNat : Int)] 5)).cell? ⟨w1.heap.size, 0, none⟩ = some (.int .u8 (c.toNat : Int)) := by simp [go_sem]
        have HB1 := Lib.hid hb1
        clear hb1 HQ hc
        go_wp2_with (at_builtin; refine wpList_byte rfl _ _ rfl _ acc rfl hv2 _ _ c rfl hcell rfl (by omega) ?_; intro v3 w3 hv3 hu3; have HR3 := Lib.hid (And.intro hv3 hu3); clear hv3 hu3 hv2 hcell)
        go_roundg (gk - 1)
        case measure => omega
        case rel =>
          obtain ⟨g1, g2, g3⟩ := rd_push H.out (HR1.out.2.trans (Upd.of_below HB1.out _)) (HR1.out.1.below HB1.out) HNE.out HR3.out.2
          exact ⟨acc ++ [c], q + 1, Lib.hid HR3.out.1, Lib.hid g3, Lib.hid g1, Lib.hid g2, by simp; omega, by omega, by omega, HQ2⟩
    · have hnx := dnext_out R A cap bs q hlt wr HRD.out
      have HE2 := Lib.hid (show bs.drop q = [] from List.drop_of_length_le (by omega))
      have HQ2 := Lib.hid (HQ.out.trans (show _ = Res.bad 3 bs.length by rw [HE2.out]; rfl))
      go_wp2_with fail
      refine hnx.mono ?_; rintro e w1 ⟨rfl, hr1, hu1⟩
      have HR1 := Lib.hid (And.intro hr1 (HU.out.trans hu1))
      clear hnx hr1 hu1 HBY HRD
      go_wp2
      go_ret
      refine ⟨⟨#[]⟩, ⟨q, 3, bs.length⟩, rfl, Nat.zero_le _, HR1.out.1, HR1.out.2, ?_⟩
      rw [HQ2.out]
      exact ⟨rfl, rfl, by decide, by show p ≤ q; omega⟩
end Go.Proofs.YtjmhoccikbgigaaDoor
namespace Go.Proofs.YtjmhoccikbgigaaDoor
open Go.RowKit
/-- Since the world w: a reader R of bs is at s; the value at V has the names ns in nv, the items is in iv. -/
structure Itd (w : World) (R : Nat) (A : Option Addr) (cap : Nat) (bs : List UInt8) (s0 : St) (V : Nat) (kd : Int) (ns : List ByteArray) (is : List JV) (nv iv : Value) (xs : List Value) (s : St) (wr : World) : Prop where
  h0 : RdAt w R A cap bs s0
  rd : RdAt wr R A cap bs s
  upd : Upd w wr (some R) (some R)
  hV : w.heap.size ≤ V
  blk : wr.heap[V]? = some (.cells #[.int .i64 kd, .int .i64 0, .string ⟨#[]⟩, nv, iv] 28 (0, 0))
  nrow : Row wr 9 1 nv ns.length (ns.map Value.string)
  irow : Row wr 28 5 iv is.length xs
  nf : ∀ g, nv.ownBlock = some g → w.heap.size ≤ g ∧ g ≠ V ∧ iv.ownBlock ≠ some g
  fi : ∀ g, iv.ownBlock = some g → w.heap.size ≤ g ∧ g ≠ V
  reps : Reps wr (fun b => w.heap.size ≤ b ∧ b ≠ V ∧ nv.ownBlock ≠ some b ∧ iv.ownBlock ≠ some b) is xs
section
variable {w : World} {R : Nat} {A : Option Addr} {cap : Nat} {bs : List UInt8} {s0 : St} {V : Nat} {kd : Int} {ns : List ByteArray} {is : List JV} {nv iv : Value} {xs : List Value} {s : St} {wr : World}
theorem Itd.vlt (h : Itd w R A cap bs s0 V kd ns is nv iv xs s wr) : V < wr.heap.size := by
  rcases Nat.lt_or_ge V wr.heap.size with hlt | hge
  · exact hlt
  · have := h.blk; rw [Array.getElem?_eq_none hge] at this; cases this
/-- the reader has gone on -/
theorem Itd.move (h : Itd w R A cap bs s0 V kd ns is nv iv xs s wr) {w' : World} {s' : St} (hu : Upd wr w' (some R) (some R)) (hr : RdAt w' R A cap bs s') : Itd w R A cap bs s0 V kd ns is nv iv xs s' w' := by
  have hR := h.h0.lt
  have hk : ∀ b, b < wr.heap.size → w.heap.size ≤ b → w'.heap[b]? = wr.heap[b]? := fun b hb hw => hu.block hb (fun e => by have := Option.some.inj e; omega)
  refine ⟨h.h0, hr, h.upd.trans hu, h.hV, (hk V h.vlt h.hV).trans h.blk, Row.kept h.nrow hu ?_, Row.kept h.irow hu ?_, h.nf, h.fi, h.reps.kept fun b hb ho => ⟨ho, hk b hb ho.1⟩⟩
  · exact .inr fun e => by have := (h.nf R e).1; omega
  · exact .inr fun e => by have := (h.fi R e).1; omega
/-- nothing has turned -/
theorem Itd.below (h : Itd w R A cap bs s0 V kd ns is nv iv xs s wr) {w' : World} (hb : Below wr.heap.size wr w') : Itd w R A cap bs s0 V kd ns is nv iv xs s w' :=
  h.move (Upd.of_below hb _) (h.rd.below hb)
/-- what lies at V, behind a row's growth -/
theorem Itd.at (h : Itd w R A cap bs s0 V kd ns is nv iv xs s wr) {w1 w2 : World} {r r' : Option Nat} (hb : Below wr.heap.size wr w1) (hu : Upd w1 w2 r r') (hr : r ≠ some V) : w2.heap[V]? = some (.cells #[.int .i64 kd, .int .i64 0, .string ⟨#[]⟩, nv, iv] 28 (0, 0)) :=
  (hu.block (Nat.lt_of_lt_of_le h.vlt hb.size) hr).trans ((hb.block V h.vlt).trans h.blk)
/-- a name's cell -/
theorem Itd.nameAt (h : Itd w R A cap bs s0 V kd ns is nv iv xs s wr) {j : Nat} (hj : j < ns.length) : ∃ g c, nv = .slice (some ⟨g, 0, none⟩) ns.length c ∧ (ns.length ≤ c ∧ c ≤ maxLen) ∧ wr.cell? ⟨g, j, none⟩ = some (.string ns[j]) := by
  obtain ⟨a, c, hv, h1, h2, h3⟩ := h.nrow.form
  rcases h3 with ⟨_, h3, _⟩ | ⟨g, ha, _, _, hl⟩
  · omega
  · refine ⟨g, c, by rw [hv, ha], ⟨h1, h2⟩, ?_⟩
    have := hl j (.string ns[j]) (by simp [hj])
    rw [Nat.zero_add] at this
    exact this
theorem Itd.nsl (h : Itd w R A cap bs s0 V kd ns is nv iv xs s wr) : ∃ a c, nv = .slice a ns.length c := by
  obtain ⟨a, c, hv, _⟩ := h.nrow.form
  exact ⟨a, c, hv⟩
/-- a name more -/
theorem Itd.name (h : Itd w R A cap bs s0 V kd ns is nv iv xs s wr) {w1 w2 : World} {nv' : Value} {x : ByteArray} (hb : Below wr.heap.size wr w1) (hrow : Row w2 9 1 nv' (ns.length + 1) (ns.map Value.string ++ [.string x])) (hu : Upd w1 w2 nv.ownBlock nv'.ownBlock) :
    Itd w R A cap bs s0 V kd (ns ++ [x]) is nv' iv xs s (w2.setCell ⟨V, 3, none⟩ nv') := by
  have hR := h.h0.lt
  have hV := h.hV
  have hvl := h.vlt
  have hsz := hb.size
  have hsz2 := hu.grown.size
  have hgs := h.upd.grown.size
  have hnV : nv.ownBlock ≠ some V := fun e => (h.nf V e).2.1 rfl
  have hat := h.at hb hu hnV
  have hn' : ∀ g, nv'.ownBlock = some g → nv.ownBlock = some g ∨ w1.heap.size ≤ g := fun g hg => by
    rcases hu.own with e | ⟨g', e, hg'⟩
    · left; rw [← e]; exact hg
    · right; rw [e] at hg; rw [← Option.some.inj hg]; exact hg'
  have hb2 : Below w.heap.size wr w2 := (hb.mono hgs).trans (hu.below (by omega) (fun g hg => (h.nf g hg).1))
  have hb3 : Below w.heap.size wr (w2.setCell ⟨V, 3, none⟩ nv') := hb2.setCell hV _
  have hU := h.upd.trans_below hb3
  have hk : ∀ b, b < wr.heap.size → b ≠ V → nv.ownBlock ≠ some b → (w2.setCell ⟨V, 3, none⟩ nv').heap[b]? = wr.heap[b]? := fun b hbl hne hno => by
    rw [heap_setCell_other _ _ _ _ hne]; exact (hu.block (by omega) hno).trans (hb.block b hbl)
  refine ⟨h.h0, h.h0.after hU h.rd (hb3.block R hR), hU, h.hV, ?_, ?_, ?_, ?_, h.fi, ?_⟩
  · exact heap_setCell_same w2 V 3 _ _ nv' hat
  · rw [List.length_append, List.map_append]
    refine Row.kept hrow (Upd.of_setCell w2 ⟨V, 3, none⟩ nv') ?_
    cases e : nv'.ownBlock with
    | none => exact .inl rfl
    | some g =>
      right; intro e2
      have hgV : g = V := Option.some.inj e2
      rcases hn' g e with h1 | h1
      · exact (h.nf g h1).2.1 hgV
      · omega
  · have h1 : Row w2 28 5 iv is.length xs := Row.kept (h.irow.below hb) hu (by
      cases e : iv.ownBlock with
      | none => exact .inl rfl
      | some g => right; intro e2; exact (h.nf g e2.symm).2.2 e)
    refine Row.kept h1 (Upd.of_setCell w2 ⟨V, 3, none⟩ nv') ?_
    exact .inr fun e => (h.fi V e).2 rfl
  · intro g hg
    rcases hn' g hg with h1 | h1
    · exact h.nf g h1
    · exact ⟨by omega, by omega, fun e => by have := h.irow.lt e; omega⟩
  · refine h.reps.kept fun b hbl ho => ⟨⟨ho.1, ho.2.1, fun e => ?_, ho.2.2.2⟩, hk b hbl ho.2.1 ho.2.2.1⟩
    rcases hn' b e with h1 | h1
    · exact ho.2.2.1 h1
    · omega
/-- an item more: a tree of memory made since the world w9 -/
theorem Itd.item (h : Itd w R A cap bs s0 V kd ns is nv iv xs s wr) {w9 w1 w2 : World} {iv' : Value} {t : JV} {cs : List Value} {s9 : St} (h9 : Itd w R A cap bs s0 V kd ns is nv iv xs s9 w9) (ht : Rep wr (fun b => w9.heap.size ≤ b) t cs) (hb : Below wr.heap.size wr w1)
    (hrow : Row w2 28 5 iv' (is.length + 1) (xs ++ cs)) (hu : Upd w1 w2 iv.ownBlock iv'.ownBlock) :
    Itd w R A cap bs s0 V kd ns (is ++ [t]) nv iv' (xs ++ cs) s (w2.setCell ⟨V, 4, none⟩ iv') := by
  have hR := h.h0.lt
  have hV := h.hV
  have hvl := h.vlt
  have hv9 := h9.vlt
  have hsz := hb.size
  have hsz2 := hu.grown.size
  have hgs := h.upd.grown.size
  have hg9 := h9.upd.grown.size
  have hiV : iv.ownBlock ≠ some V := fun e => (h.fi V e).2 rfl
  have hat := h.at hb hu hiV
  have hi' : ∀ g, iv'.ownBlock = some g → iv.ownBlock = some g ∨ w1.heap.size ≤ g := fun g hg => by
    rcases hu.own with e | ⟨g', e, hg'⟩
    · left; rw [← e]; exact hg
    · right; rw [e] at hg; rw [← Option.some.inj hg]; exact hg'
  have hb2 : Below w.heap.size wr w2 := (hb.mono hgs).trans (hu.below (by omega) (fun g hg => (h.fi g hg).1))
  have hb3 : Below w.heap.size wr (w2.setCell ⟨V, 4, none⟩ iv') := hb2.setCell hV _
  have hU := h.upd.trans_below hb3
  have hk : ∀ b, b < wr.heap.size → b ≠ V → iv.ownBlock ≠ some b → (w2.setCell ⟨V, 4, none⟩ iv').heap[b]? = wr.heap[b]? := fun b hbl hne hno => by
    rw [heap_setCell_other _ _ _ _ hne]; exact (hu.block (by omega) hno).trans (hb.block b hbl)
  have hkeep : ∀ b, b < wr.heap.size → (w.heap.size ≤ b ∧ b ≠ V ∧ nv.ownBlock ≠ some b ∧ iv.ownBlock ≠ some b) → (w.heap.size ≤ b ∧ b ≠ V ∧ nv.ownBlock ≠ some b ∧ iv'.ownBlock ≠ some b) ∧ (w2.setCell ⟨V, 4, none⟩ iv').heap[b]? = wr.heap[b]? := fun b hbl ho => by
    refine ⟨⟨ho.1, ho.2.1, ho.2.2.1, fun e => ?_⟩, hk b hbl ho.2.1 ho.2.2.2⟩
    rcases hi' b e with h1 | h1
    · exact ho.2.2.2 h1
    · omega
  refine ⟨h.h0, h.h0.after hU h.rd (hb3.block R hR), hU, h.hV, ?_, ?_, ?_, ?_, ?_, ?_⟩
  · exact heap_setCell_same w2 V 4 _ _ iv' hat
  · have h1 : Row w2 9 1 nv ns.length (ns.map Value.string) := Row.kept (h.nrow.below hb) hu (by
      cases e : nv.ownBlock with
      | none => exact .inl rfl
      | some g => right; intro e2; exact (h.nf g e).2.2 e2.symm)
    refine Row.kept h1 (Upd.of_setCell w2 ⟨V, 4, none⟩ iv') ?_
    exact .inr fun e => (h.nf V e).2.1 rfl
  · rw [List.length_append]
    refine Row.kept hrow (Upd.of_setCell w2 ⟨V, 4, none⟩ iv') ?_
    cases e : iv'.ownBlock with
    | none => exact .inl rfl
    | some g =>
      right; intro e2
      have hgV : g = V := Option.some.inj e2
      rcases hi' g e with h1 | h1
      · exact (h.fi g h1).2 hgV
      · omega
  · intro g hg
    have h1 := h.nf g hg
    refine ⟨h1.1, h1.2.1, fun e => ?_⟩
    rcases hi' g e with h2 | h2
    · exact h1.2.2 h2
    · have := h.nrow.lt hg; omega
  · intro g hg
    rcases hi' g hg with h1 | h1
    · exact h.fi g h1
    · exact ⟨by omega, by omega⟩
  · refine Reps.snoc ?_ (h.reps.kept hkeep)
    refine Rep.kept (fun b hbl hbw => hkeep b hbl ?_) t cs ht
    exact ⟨by omega, by omega, fun e => by have := h9.nrow.lt e; omega, fun e => by have := h9.irow.lt e; omega⟩
/-- the value is whole -/
theorem Itd.done (h : Itd w R A cap bs s0 V kd ns is nv iv xs s wr) (hk : -9223372036854775808 ≤ kd ∧ kd ≤ 9223372036854775807) :
    ∃ an cn ai ci, nv = .slice an ns.length cn ∧ iv = .slice ai is.length ci ∧ Rep wr (fun b => w.heap.size ≤ b ∧ b ≠ V) (.mk kd 0 ⟨#[]⟩ ns is) [.int .i64 kd, .int .i64 0, .string ⟨#[]⟩, .slice an ns.length cn, .slice ai is.length ci] := by
  obtain ⟨ai, ci, hv, hci, hit⟩ := h.irow.items (ok := fun b => w.heap.size ≤ b ∧ b ≠ V) (h.reps.kept fun b _ hb => ⟨⟨hb.1, hb.2.1⟩, rfl⟩) (fun g hg => ⟨(h.fi g hg).1, (h.fi g hg).2⟩)
  obtain ⟨an, cn, hn, hcn, hst⟩ := h.nrow.strs (ok := fun b => w.heap.size ≤ b ∧ b ≠ V) (fun g hg => ⟨(h.nf g hg).1, (h.nf g hg).2.1⟩)
  exact ⟨an, cn, ai, ci, hn, hv, rep_mk.2 ⟨hk, by omega, Nat.zero_le _, an, cn, ai, ci, rfl, hcn, hci, hst, hit⟩⟩
end
/-- a fault's way on -/
theorem itsAt_bad {bs : List UInt8} {k : Nat} {o : Bool} {p : Nat} {res : Res JV} {ns : List ByteArray} {is : List JV} {q : Nat} {s : St} (he : s.err ≠ 0) (hn : ns.length + p ≤ s.pos + 1) (hi : is.length + p ≤ s.pos + 1) (hp : p ≤ s.pos) (hres : res = .bad s.err s.place) :
    ItsAt bs k o p res ns ns is s ∧ Mst bs s < Mst bs ⟨q, 0, 0⟩ := by
  rw [Mst_zero, Mst_bad he]
  exact ⟨⟨hn, hi, hp, .inr ⟨he, hres⟩⟩, Nat.succ_pos _⟩
theorem rdRes_pos {α : Type} {bs : List UInt8} {p : Nat} {res : Res α} {good : α → Prop} {s : St} (h : RdRes bs p res good s) : p ≤ s.pos := by
  cases res with
  | ok a q =>
    obtain ⟨_, rfl, h3, _⟩ := h
    show p ≤ bs.length - q.length
    omega
  | bad e pl => exact h.2.2.2
theorem rdRes_err {α : Type} {bs : List UInt8} {p : Nat} {res : Res α} {good : α → Prop} {s : St} (h : RdRes bs p res good s) (he : s.err ≠ 0) : ∃ e pl, res = .bad e pl ∧ s.err = e ∧ s.place = pl := by
  cases res with
  | ok a q => obtain ⟨_, rfl, _⟩ := h; exact absurd rfl he
  | bad e pl => exact ⟨e, pl, rfl, h.1, h.2.1⟩
/-- what an object's items come to behind a text that has a fault -/
theorem text_fault {bs : List UInt8} {k : Nat} {res : Res JV} {ns : List ByteArray} {is : List JV} {q f : Nat} {x : ByteArray} {s2 : St} (he : s2.err ≠ 0)
    (hr : RdRes bs (q + 1) (pText bs.length (q + 1) (bs.drop (q + 1)) []) (fun l => x = ⟨l.toArray⟩) s2)
    (hres : res = match pText bs.length (q + 1) (bs.drop (q + 1)) [] with | .bad e pl => .bad e pl | .ok s r => if hasB ns ⟨s.toArray⟩ = true then .bad 16 (q + 1) else (match pValue bs.length k r with | .bad e pl => .bad e pl | .ok v r' => pItems bs.length (pValue bs.length k) true f r' (ns ++ [⟨s.toArray⟩]) (is ++ [v]))) :
    res = .bad s2.err s2.place := by
  obtain ⟨e, pl, h1, h2, h3⟩ := rdRes_err hr he
  rw [h1] at hres
  rw [hres, h2, h3]
/-- … behind a name that was there -/
theorem text_twice {bs : List UInt8} {k : Nat} {res : Res JV} {ns : List ByteArray} {is : List JV} {q f : Nat} {x : ByteArray} {s2 : St} (he : s2.err = 0) (hB : hasB ns x = true)
    (hr : RdRes bs (q + 1) (pText bs.length (q + 1) (bs.drop (q + 1)) []) (fun l => x = ⟨l.toArray⟩) s2)
    (hres : res = match pText bs.length (q + 1) (bs.drop (q + 1)) [] with | .bad e pl => .bad e pl | .ok s r => if hasB ns ⟨s.toArray⟩ = true then .bad 16 (q + 1) else (match pValue bs.length k r with | .bad e pl => .bad e pl | .ok v r' => pItems bs.length (pValue bs.length k) true f r' (ns ++ [⟨s.toArray⟩]) (is ++ [v]))) :
    res = .bad 16 (q + 1) := by
  cases hv : pText bs.length (q + 1) (bs.drop (q + 1)) [] with
  | bad e pl => rw [hv] at hr; exact absurd (hr.1.symm.trans he) hr.2.2.1
  | ok a r =>
    rw [hv] at hr hres
    obtain ⟨h1, _⟩ := hr
    have hb2 : hasB ns ⟨a.toArray⟩ = true := by rw [← h1]; exact hB
    simp only [if_pos hb2] at hres
    exact hres
end Go.Proofs.YtjmhoccikbgigaaDoor
namespace Go.Proofs.YtjmhoccikbgigaaDoor
open Go.RowKit
def DvalSaid (bs : List UInt8) (k : Nat) : Prop := ∀ (R : Nat) (A : Option Addr) (cap p : Nat) (w : World), RdAt w R A cap bs ⟨p, 0, 0⟩ → ∀ (d : Int), d = 64 - k →
    Calls Tryd.prog 48 #[.pointer (some ⟨R, 0, none⟩), .int .i64 d] w (ValPost R A cap bs p w (pValue bs.length k (bs.drop p)))
set_option maxHeartbeats 1000000 in
/-- value at a fault -/
theorem dvalue_bad (R : Nat) (A : Option Addr) (cap : Nat) (bs : List UInt8) (s : St) (he : s.err ≠ 0) (d : Int) (w : World) (h : RdAt w R A cap bs s) :
    Calls Tryd.prog 48 #[.pointer (some ⟨R, 0, none⟩), .int .i64 d] w fun r w' => r = .returned (.agg #[.int .i64 0, .int .i64 0, .string ⟨#[]⟩, .slice none 0 0, .slice none 0 0]) ∧ RdAt w' R A cap bs s ∧ Upd w w' (some R) (some R) := by
  have hb1 : Below w.heap.size w (w.alloc (.cells #[.int .i64 0, .int .i64 0, .string ⟨#[]⟩, .slice none 0 0, .slice none 0 0] 28)) := (Below.refl _ _).alloc (Nat.le_refl _) _
  have hz := heap_alloc_new w (.cells #[.int .i64 0, .int .i64 0, .string ⟨#[]⟩, .slice none 0 0, .slice none 0 0] 28)
  have hrd := h.below hb1
  have hnx := dnext_bad R A cap bs s he (w.alloc (.cells #[.int .i64 0, .int .i64 0, .string ⟨#[]⟩, .slice none 0 0, .slice none 0 0] 28)) hrd
  have h1 := hrd.c1
  have HB := Lib.hid (And.intro hrd hb1)
  have HZ := Lib.hid hz
  clear h hb1 hrd he hz
  go_enter Tryd.func48, Tryd.ntmps48
  go_wp2_with fail
  refine hnx.mono ?_; rintro e w1 ⟨rfl, rfl⟩
  clear hnx h1
  go_wp2
  (try simp only [Exit.inBlock, Exit.then])
  refine bodyPost_ret (results_cell_row rfl _ _ w.heap.size 28 _ (0, 0) _ (by rfl) HZ.out Tryd.underlying28 rfl (by kernel_rfl)) rfl ?_
  exact ⟨rfl, HB.out.1, Upd.of_below HB.out.2 _⟩
set_option maxRecDepth 20000 in
set_option maxHeartbeats 8000000 in
theorem dItems5_c (bs : List UInt8) (hbs : bs.length < 1099511627776) (k : Nat) (hk : k < 64) (ih : DvalSaid bs k) (R : Nat) (A : Option Addr) (cap p : Nat) (w : World) (h : RdAt w R A cap bs ⟨p, 0, 0⟩) (d : Int) (hd : d = 63 - k) :
    Calls Tryd.prog 73 #[.pointer (some ⟨R, 0, none⟩), .bool false, .int .i64 d] w (ValPost R A cap bs p w (pItems bs.length (pValue bs.length k) false ((bs.drop p).length + 1) (bs.drop p) [] [])) := by
  subst hd
  have hb1 : Below w.heap.size w (w.alloc (.cells #[.int .i64 0, .int .i64 0, .string ⟨#[]⟩, .slice none 0 0, .slice none 0 0] 28)) := (Below.refl _ _).alloc (Nat.le_refl _) _
  have hrd := h.below hb1
  have HH := Lib.hid h
  have HB1 := Lib.hid hb1
  have HIH := Lib.hid ih
  have hz0 := heap_alloc_new w (.cells #[.int .i64 0, .int .i64 0, .string ⟨#[]⟩, .slice none 0 0, .slice none 0 0] 28)
  have hR1 : R < ((w.alloc (.cells #[.int .i64 0, .int .i64 0, .string ⟨#[]⟩, .slice none 0 0, .slice none 0 0] 28))).heap.size := hrd.lt
  have HZ0 := Lib.hid hz0
  have hpp := h.pos
  simp only at hpp
  have hrs : ∃ res, pItems bs.length (pValue bs.length k) false ((bs.drop p).length + 1) (bs.drop p) [] [] = res := ⟨_, rfl⟩
  obtain ⟨res, hres⟩ := hrs
  rw [hres]
  have HRES := Lib.hid hres
  clear hres
  clear h hb1 ih hz0
  generalize hw1 : (w.alloc (.cells #[.int .i64 0, .int .i64 0, .string ⟨#[]⟩, .slice none 0 0, .slice none 0 0] 28)) = w1 at *
  have hs1 : w1.heap.size = w.heap.size + 1 := by rw [← hw1]; simp
  have HS1 := Lib.hid hs1
  have START := Lib.hid (show Itd w1 R A cap bs ⟨p, 0, 0⟩ w1.heap.size 5 [] [] (.slice none 0 0) (.slice none 0 0) [] ⟨p, 0, 0⟩ ((w1.alloc (.cells #[.int .i64 5, .int .i64 0, .string ⟨#[]⟩, .slice none 0 0, .slice none 0 0] 28))) from by
    have hbS : Below w1.heap.size w1 ((w1.alloc (.cells #[.int .i64 5, .int .i64 0, .string ⟨#[]⟩, .slice none 0 0, .slice none 0 0] 28))) := (Below.refl _ _).alloc (Nat.le_refl _) _
    have hzS : ((w1.alloc (.cells #[.int .i64 5, .int .i64 0, .string ⟨#[]⟩, .slice none 0 0, .slice none 0 0] 28))).heap[w1.heap.size]? = some (.cells #[.int .i64 5, .int .i64 0, .string ⟨#[]⟩, .slice none 0 0, .slice none 0 0] 28 (0, 0)) := heap_alloc_new w1 _
    exact ⟨hrd, hrd.below hbS, Upd.of_below hbS _, Nat.le_refl _, hzS, row_nil _ _ _, row_nil _ _ _, fun g hg => (by cases hg), fun g hg => (by cases hg), rfl⟩)
  clear hrd
  subst hw1
  go_enter Tryd.func73, Tryd.ntmps73
  go_wp2
  simp only [World.size_alloc] at START HS1
  go_loopg [8] (bs.length + 3) (fun gk _ wr => ∃ (s : St) (ns : List ByteArray) (is : List JV) (nv iv : Value) (xs : List Value), Hid (Itd (w.alloc (.cells #[.int .i64 0, .int .i64 0, .string ⟨#[]⟩, .slice none 0 0, .slice none 0 0] 28)) R A cap bs ⟨p, 0, 0⟩ (w.heap.size + 1) 5 ns is nv iv xs s wr) ∧ Mst bs s + 1 < gk ∧ Hid (ItsAt bs k false p res ns ns is s))
  case atStart => exact ⟨⟨p, 0, 0⟩, [], [], _, _, [], START, by rw [Mst_zero]; omega, Lib.hid ⟨by simp, by simp, Nat.le_refl _, .inl ⟨rfl, fun _ => rfl, by simp, by simp, _, Nat.lt_succ_self _, HRES.out.symm⟩⟩⟩
  case round =>
    clear START
    obtain ⟨s, ns, is, nv, iv, xs, HI, hM, HA⟩ := hrel
    obtain ⟨ha1, ha2, ha3, hcase⟩ := HA.out
    have hps := HI.out.rd.pos
    have hRw : R ≠ w.heap.size := by have := HH.out.lt; omega
    clear HA
    rcases hcase with ⟨hs, hsn, hn1, hi1, f, hf, hq⟩ | ⟨he, hq⟩
    · obtain ⟨q, rfl⟩ : ∃ q, s = ⟨q, 0, 0⟩ := ⟨s.pos, hs⟩
      simp only at ha1 ha2 ha3 hps hn1 hi1 hf hq
      rw [Mst_zero] at hM
      have HF := Lib.hid hf
      have HQ := Lib.hid hq
      clear hs hf hq hsn
      by_cases hlt : q < bs.length
      · have hnx := dnext_in R A cap bs q hlt wr HI.out.rd
        obtain ⟨f, rfl⟩ : ∃ f', f = f' + 1 := ⟨f - 1, by have := HF.out; omega⟩
        have hf2 : bs.length - q ≤ f := by have := HF.out; rw [List.length_drop] at this; omega
        have HQ1 := Lib.hid (HQ.out.trans (by rw [drop_cons2 hlt, pItems]))
        clear HQ HF
        generalize bs[q] = c at *
        go_wp2_with fail
        refine hnx.mono ?_; rintro e w1 ⟨rfl, hr1, hu1⟩
        have HI1 := Lib.hid (HI.out.move hu1 hr1)
        clear hnx hr1 hu1 HI
        by_cases h2 : c = 2
        · subst h2
          have HQ2 := Lib.hid (HQ1.out.trans ((if_pos rfl).trans (if_neg (by decide))))
          clear HQ1
          have hdr := Lib.hid (Below.drew (Below.refl w1.heap.size w1))
          have HId := Lib.hid (HI1.out.below hdr.out)
          have hcall := fun (d' : Int) (hd' : d' = 64 - k) => HIH.out R A cap (q + 1) w1.drew HId.out.rd d' hd'
          obtain ⟨⟨b0, b1, b2, b3, b4⟩, g0, g1, g2, g3, g4⟩ := cellsOf5 HI1.out.blk
          have hiV : iv.ownBlock ≠ some (w.heap.size + 1) := fun e => (HI1.out.fi _ e).2 rfl
          have hVR : R ≠ w.heap.size + 1 := by have := HH.out.lt; omega
          have hwd : wrap64 (63 - (k : Int) + 1) = 63 - (k : Int) + 1 := by unfold wrap64; omega
          go_wp2_with fail
          go_region_law (first
              | (refine step_app valTy (by rfl) _ _ (by rfl) iv is.length xs (by rfl) (HIv.out.irow.below ((Below.refl _ _).alloc (Nat.le_refl _) _)) (some ⟨wv.heap.size, 0, none⟩) 1 1 [.int .i64 t.kind, .int .i64 t.int, .string t.text, .slice tan t.names.length tcn, .slice tai t.items.length tci] (by rfl) (by rfl) (by simp) (fun a ha => by cases ha; exact World.news_of_block (heap_alloc_new wv _)) (by simp [Value.oneCell']) (by unfold maxLen; omega) (by omega) ?_;
                 intro iv' w3 hrow hu3; have hat := HIv.out.at ((Below.refl _ _).alloc (Nat.le_refl _) _) hu3 hiV; obtain ⟨⟨_, _, _, _, e43⟩, _, _, _, _, f43⟩ := cellsOf5 hat; clear hat;
                 have HI3 := Lib.hid (HIv.out.item HId.out hrepv ((Below.refl _ _).alloc (Nat.le_refl _) _) hrow hu3); obtain ⟨g9, c9, hv9, _⟩ := hrow.form; subst hv9; clear hrow hu3 hrepv)
              | (go_simp; go_at_call 48; refine (hcall _ (by simp [IntKind.wrap, IntKind.signed, IntKind.bits]; omega)).mono ?_; rintro e wv ⟨t, tan, tcn, tai, tci, s4, rfl, hrepv, hr4, hu4, hres⟩; have HIv := Lib.hid (HId.out.move hu4 hr4); have HRES4 := Lib.hid hres; have e41 := (cellsOf5 HIv.out.blk).1.2.2.2.2; have e42 := cell_below ((Below.refl wv.heap.size wv).alloc (Nat.le_refl _) (.cells #[.int .i64 t.kind, .int .i64 t.int, .string t.text, .slice tan t.names.length tcn, .slice tai t.items.length tci] 28)) e41; clear hr4 hu4 hres))
          all_goals clear e41 e42 e43 f43 b0 b1 b2 b3 b4 g0 g1 g2 g3 g4 hcall
          all_goals go_wp2
          all_goals go_roundg (gk - 1)
          all_goals first | omega | (obtain ⟨r1, r2⟩ := itsAt_val (o := false) (sn := ns) (q := q) (fun h => by cases h) (by omega) (by omega) (by omega) (by omega) hf2 HRES4.out HQ2.out; rw [Mst_zero] at r2; exact ⟨s4, ns, is ++ [t], nv, _, _, HI3, by omega, Lib.hid r1⟩)
        · by_cases h1 : c = 1
          · subst h1
            have HQ2 := Lib.hid (HQ1.out.trans ((if_neg h2).trans (if_pos rfl)))
            clear HQ1 h2
            have hz := (HI1.out.upd.block (k := w.heap.size) (by simp) (fun e => hRw (Option.some.inj e))).trans HZ0.out
            obtain ⟨⟨z0, z1, z2, z3, z4⟩, y0, y1, y2, y3, y4⟩ := cellsOf5 hz
            obtain ⟨⟨c0, c1, c2, c3, c4⟩, _⟩ := cellsOf5 HI1.out.blk
            obtain ⟨an, cn, ai, ci, rfl, rfl, hrep⟩ := HI1.out.done (by omega)
            have HREP := Lib.hid hrep
            have HZ := Lib.hid hz
            clear hz hrep
            go_wp2
            (try simp only [Exit.inBlock, Exit.then])
            refine bodyPost_ret (results_cell_row rfl _ _ w.heap.size 28 _ (0, 0) _ (by rfl) (set5 HZ.out) Tryd.underlying28 rfl (by kernel_rfl)) rfl ?_
            have hU := ((Upd.of_below HB1.out (some R)).trans HI1.out.upd).trans_below (below_set5 (c0 := .int .i64 5) (c1 := .int .i64 0) (c2 := .string ⟨#[]⟩) (c3 := .slice an ns.length cn) (c4 := .slice ai is.length ci) (Below.refl w.heap.size w1) (Nat.le_refl _))
            exact ⟨.mk 5 0 ⟨#[]⟩ ns is, an, cn, ai, ci, ⟨q + 1, 0, 0⟩, rfl, Rep.kept (fun b hlt hb => ⟨by have := hb.1; simp only [World.size_alloc] at this; omega, other_set5 (by have := hb.1; simp only [World.size_alloc] at this; omega)⟩) _ _ HREP.out, HH.out.after hU HI1.out.rd (other_set5 hRw), hU, by rw [HQ2.out]; exact ⟨rfl, by rw [drop_at (by omega)], by rw [List.length_drop]; omega, by rw [drop_at (by omega)]⟩⟩
          · have HQ2 := Lib.hid (HQ1.out.trans ((if_neg h2).trans (if_neg h1)))
            have HPL := Lib.hid (show bs.length - (bs.drop (q + 1)).length - 1 = q by rw [List.length_drop]; omega)
            have hb1 : ((c.toNat : Int) == 1) = false := byte_ne (d := 1) h1
            have hb2 : ((c.toNat : Int) == 2) = false := byte_ne (d := 2) h2
            have hb3 : ((c.toNat : Int) != 2) = true := by simp only [bne, hb2]; rfl
            have m1 : w1.cell? ⟨R, 1, none⟩ = some (.int .i64 ((q : Int) + 1)) := HI1.out.rd.c1
            have hwp : wrap64 (q : Int) = (q : Int) := by unfold wrap64; omega
            have hfl := dfail_c R A cap bs ⟨q + 1, 0, 0⟩ 30 q w1 HI1.out.rd
            clear HQ1 h1 h2
            go_wp2_with fail
            refine hfl.mono ?_; rintro e w2 ⟨rfl, hr2, hu2⟩
            have HI2 := Lib.hid (HI1.out.move hu2 hr2)
            clear hfl hr2 hu2 m1
            have hz := (HI2.out.upd.block (k := w.heap.size) (by simp) (fun e => hRw (Option.some.inj e))).trans HZ0.out
            obtain ⟨⟨z0, z1, z2, z3, z4⟩, y0, y1, y2, y3, y4⟩ := cellsOf5 hz
            obtain ⟨⟨c0, c1, c2, c3, c4⟩, _⟩ := cellsOf5 HI2.out.blk
            obtain ⟨an, cn, ai, ci, rfl, rfl, hrep⟩ := HI2.out.done (by omega)
            have HREP := Lib.hid hrep
            have HZ := Lib.hid hz
            clear hz hrep
            go_wp2
            (try simp only [Exit.inBlock, Exit.then])
            refine bodyPost_ret (results_cell_row rfl _ _ w.heap.size 28 _ (0, 0) _ (by rfl) (set5 HZ.out) Tryd.underlying28 rfl (by kernel_rfl)) rfl ?_
            have hU := ((Upd.of_below HB1.out (some R)).trans HI2.out.upd).trans_below (below_set5 (c0 := .int .i64 5) (c1 := .int .i64 0) (c2 := .string ⟨#[]⟩) (c3 := .slice an ns.length cn) (c4 := .slice ai is.length ci) (Below.refl w.heap.size w2) (Nat.le_refl _))
            exact ⟨.mk 5 0 ⟨#[]⟩ ns is, an, cn, ai, ci, ⟨q + 1, 30, q⟩, rfl, Rep.kept (fun b hlt hb => ⟨by have := hb.1; simp only [World.size_alloc] at this; omega, other_set5 (by have := hb.1; simp only [World.size_alloc] at this; omega)⟩) _ _ HREP.out, HH.out.after hU HI2.out.rd (other_set5 hRw), hU, by rw [HQ2.out, HPL.out]; exact ⟨rfl, rfl, by decide, Nat.le_succ_of_le ha3⟩⟩
      · have hnx := dnext_out R A cap bs q hlt wr HI.out.rd
        obtain ⟨f, rfl⟩ : ∃ f', f = f' + 1 := ⟨f - 1, by have := HF.out; omega⟩
        have HQ2 := Lib.hid (HQ.out.trans (by rw [List.drop_of_length_le (by omega), pItems]))
        clear HQ HF
        go_wp2_with fail
        refine hnx.mono ?_; rintro e w1 ⟨rfl, hr1, hu1⟩
        have HI1 := Lib.hid (HI.out.move hu1 hr1)
        clear hnx hr1 hu1 HI
        have hz := (HI1.out.upd.block (k := w.heap.size) (by simp) (fun e => hRw (Option.some.inj e))).trans HZ0.out
        obtain ⟨⟨z0, z1, z2, z3, z4⟩, y0, y1, y2, y3, y4⟩ := cellsOf5 hz
        obtain ⟨⟨c0, c1, c2, c3, c4⟩, _⟩ := cellsOf5 HI1.out.blk
        obtain ⟨an, cn, ai, ci, rfl, rfl, hrep⟩ := HI1.out.done (by omega)
        have HREP := Lib.hid hrep
        have HZ := Lib.hid hz
        clear hz hrep
        go_wp2
        (try simp only [Exit.inBlock, Exit.then])
        refine bodyPost_ret (results_cell_row rfl _ _ w.heap.size 28 _ (0, 0) _ (by rfl) (set5 HZ.out) Tryd.underlying28 rfl (by kernel_rfl)) rfl ?_
        have hU := ((Upd.of_below HB1.out (some R)).trans HI1.out.upd).trans_below (below_set5 (c0 := .int .i64 5) (c1 := .int .i64 0) (c2 := .string ⟨#[]⟩) (c3 := .slice an ns.length cn) (c4 := .slice ai is.length ci) (Below.refl w.heap.size w1) (Nat.le_refl _))
        exact ⟨.mk 5 0 ⟨#[]⟩ ns is, an, cn, ai, ci, ⟨q, 3, bs.length⟩, rfl, Rep.kept (fun b hlt hb => ⟨by have := hb.1; simp only [World.size_alloc] at this; omega, other_set5 (by have := hb.1; simp only [World.size_alloc] at this; omega)⟩) _ _ HREP.out, HH.out.after hU HI1.out.rd (other_set5 hRw), hU, by rw [HQ2.out]; exact ⟨rfl, rfl, by decide, by show p ≤ q; omega⟩⟩
    · have hnx := dnext_bad R A cap bs s he wr HI.out.rd
      have HE := Lib.hid (And.intro he hq)
      clear he hq
      go_wp2_with fail
      refine hnx.mono ?_; rintro e w1 ⟨rfl, rfl⟩
      clear hnx
      have hz := (HI.out.upd.block (k := w.heap.size) (by simp) (fun e => hRw (Option.some.inj e))).trans HZ0.out
      obtain ⟨⟨z0, z1, z2, z3, z4⟩, y0, y1, y2, y3, y4⟩ := cellsOf5 hz
      obtain ⟨⟨c0, c1, c2, c3, c4⟩, _⟩ := cellsOf5 HI.out.blk
      obtain ⟨an, cn, ai, ci, rfl, rfl, hrep⟩ := HI.out.done (by omega)
      have HREP := Lib.hid hrep
      have HZ := Lib.hid hz
      clear hz hrep
      go_wp2
      (try simp only [Exit.inBlock, Exit.then])
      refine bodyPost_ret (results_cell_row rfl _ _ w.heap.size 28 _ (0, 0) _ (by rfl) (set5 HZ.out) Tryd.underlying28 rfl (by kernel_rfl)) rfl ?_
      have hU := ((Upd.of_below HB1.out (some R)).trans HI.out.upd).trans_below (below_set5 (c0 := .int .i64 5) (c1 := .int .i64 0) (c2 := .string ⟨#[]⟩) (c3 := .slice an ns.length cn) (c4 := .slice ai is.length ci) (Below.refl w.heap.size w1) (Nat.le_refl _))
      exact ⟨.mk 5 0 ⟨#[]⟩ ns is, an, cn, ai, ci, s, rfl, Rep.kept (fun b hlt hb => ⟨by have := hb.1; simp only [World.size_alloc] at this; omega, other_set5 (by have := hb.1; simp only [World.size_alloc] at this; omega)⟩) _ _ HREP.out, HH.out.after hU HI.out.rd (other_set5 hRw), hU, by rw [HE.out.2]; exact ⟨rfl, rfl, HE.out.1, ha3⟩⟩
end Go.Proofs.YtjmhoccikbgigaaDoor
namespace Go.Proofs.YtjmhoccikbgigaaDoor
open Go.RowKit
set_option maxRecDepth 20000 in
set_option maxHeartbeats 8000000 in
theorem dItems6_c (bs : List UInt8) (hbs : bs.length < 1099511627776) (k : Nat) (hk : k < 64) (ih : DvalSaid bs k) (R : Nat) (A : Option Addr) (cap p : Nat) (w : World) (h : RdAt w R A cap bs ⟨p, 0, 0⟩) (d : Int) (hd : d = 63 - k) :
    Calls Tryd.prog 73 #[.pointer (some ⟨R, 0, none⟩), .bool true, .int .i64 d] w (ValPost R A cap bs p w (pItems bs.length (pValue bs.length k) true ((bs.drop p).length + 1) (bs.drop p) [] [])) := by
  subst hd
  have hb1 : Below w.heap.size w (w.alloc (.cells #[.int .i64 0, .int .i64 0, .string ⟨#[]⟩, .slice none 0 0, .slice none 0 0] 28)) := (Below.refl _ _).alloc (Nat.le_refl _) _
  have hrd := h.below hb1
  have HH := Lib.hid h
  have HB1 := Lib.hid hb1
  have HIH := Lib.hid ih
  have hz0 := heap_alloc_new w (.cells #[.int .i64 0, .int .i64 0, .string ⟨#[]⟩, .slice none 0 0, .slice none 0 0] 28)
  have hR1 : R < ((w.alloc (.cells #[.int .i64 0, .int .i64 0, .string ⟨#[]⟩, .slice none 0 0, .slice none 0 0] 28))).heap.size := hrd.lt
  have HZ0 := Lib.hid hz0
  have hpp := h.pos
  simp only at hpp
  have hrs : ∃ res, pItems bs.length (pValue bs.length k) true ((bs.drop p).length + 1) (bs.drop p) [] [] = res := ⟨_, rfl⟩
  obtain ⟨res, hres⟩ := hrs
  rw [hres]
  have HRES := Lib.hid hres
  clear hres
  clear h hb1 ih hz0
  generalize hw1 : (w.alloc (.cells #[.int .i64 0, .int .i64 0, .string ⟨#[]⟩, .slice none 0 0, .slice none 0 0] 28)) = w1 at *
  have hs1 : w1.heap.size = w.heap.size + 1 := by rw [← hw1]; simp
  have HS1 := Lib.hid hs1
  have START := Lib.hid (show Itd w1 R A cap bs ⟨p, 0, 0⟩ w1.heap.size 6 [] [] (.slice none 0 0) (.slice none 0 0) [] ⟨p, 0, 0⟩ ((w1.alloc (.cells #[.int .i64 6, .int .i64 0, .string ⟨#[]⟩, .slice none 0 0, .slice none 0 0] 28))) from by
    have hbS : Below w1.heap.size w1 ((w1.alloc (.cells #[.int .i64 6, .int .i64 0, .string ⟨#[]⟩, .slice none 0 0, .slice none 0 0] 28))) := (Below.refl _ _).alloc (Nat.le_refl _) _
    have hzS : ((w1.alloc (.cells #[.int .i64 6, .int .i64 0, .string ⟨#[]⟩, .slice none 0 0, .slice none 0 0] 28))).heap[w1.heap.size]? = some (.cells #[.int .i64 6, .int .i64 0, .string ⟨#[]⟩, .slice none 0 0, .slice none 0 0] 28 (0, 0)) := heap_alloc_new w1 _
    exact ⟨hrd, hrd.below hbS, Upd.of_below hbS _, Nat.le_refl _, hzS, row_nil _ _ _, row_nil _ _ _, fun g hg => (by cases hg), fun g hg => (by cases hg), rfl⟩)
  clear hrd
  subst hw1
  go_enter Tryd.func73, Tryd.ntmps73
  go_wp2
  simp only [World.size_alloc] at START HS1
  go_loopg [8] (bs.length + 3) (fun gk _ wr => ∃ (s : St) (ns : List ByteArray) (is : List JV) (nv iv : Value) (xs : List Value), Hid (Itd (w.alloc (.cells #[.int .i64 0, .int .i64 0, .string ⟨#[]⟩, .slice none 0 0, .slice none 0 0] 28)) R A cap bs ⟨p, 0, 0⟩ (w.heap.size + 1) 6 ns is nv iv xs s wr) ∧ Mst bs s + 1 < gk ∧ Hid (ItsAt bs k true p res ns ns is s))
  case atStart => exact ⟨⟨p, 0, 0⟩, [], [], _, _, [], START, by rw [Mst_zero]; omega, Lib.hid ⟨by simp, by simp, Nat.le_refl _, .inl ⟨rfl, fun _ => rfl, by simp, by simp, _, Nat.lt_succ_self _, HRES.out.symm⟩⟩⟩
  case round =>
    clear START
    obtain ⟨s, ns, is, nv, iv, xs, HI, hM, HA⟩ := hrel
    obtain ⟨ha1, ha2, ha3, hcase⟩ := HA.out
    have hps := HI.out.rd.pos
    have hRw : R ≠ w.heap.size := by have := HH.out.lt; omega
    clear HA
    rcases hcase with ⟨hs, hsn, hn1, hi1, f, hf, hq⟩ | ⟨he, hq⟩
    · obtain ⟨q, rfl⟩ : ∃ q, s = ⟨q, 0, 0⟩ := ⟨s.pos, hs⟩
      simp only at ha1 ha2 ha3 hps hn1 hi1 hf hq
      rw [Mst_zero] at hM
      have HF := Lib.hid hf
      have HQ := Lib.hid hq
      clear hs hf hq hsn
      by_cases hlt : q < bs.length
      · have hnx := dnext_in R A cap bs q hlt wr HI.out.rd
        obtain ⟨f, rfl⟩ : ∃ f', f = f' + 1 := ⟨f - 1, by have := HF.out; omega⟩
        have hf2 : bs.length - q ≤ f := by have := HF.out; rw [List.length_drop] at this; omega
        have HQ1 := Lib.hid (HQ.out.trans (by rw [drop_cons2 hlt, pItems]))
        clear HQ HF
        generalize bs[q] = c at *
        go_wp2_with fail
        refine hnx.mono ?_; rintro e w1 ⟨rfl, hr1, hu1⟩
        have HI1 := Lib.hid (HI.out.move hu1 hr1)
        clear hnx hr1 hu1 HI
        by_cases h2 : c = 2
        · subst h2
          have HQ2 := Lib.hid (HQ1.out.trans ((if_pos rfl).trans (if_pos trivial)))
          clear HQ1
          have htx := dtext_c R A cap bs (by omega) (q + 1) w1 HI1.out.rd
          have m1 : w1.cell? ⟨R, 1, none⟩ = some (.int .i64 ((q + 1 : Nat) : Int)) := HI1.out.rd.c1
          have HPL := Lib.hid (show bs.length - (bs.drop (q + 1)).length = q + 1 from drop_at (by omega))
          have HQ3 := HQ2.out
          rw [HPL.out] at HQ3
          have HQ4 := Lib.hid HQ3
          clear HQ3
          go_wp2_with fail
          refine htx.mono ?_; rintro e w2 ⟨x, s2, rfl, hxs, hr2, hu2, hrs⟩
          have HI2 := Lib.hid (HI1.out.move hu2 hr2)
          have HRS := Lib.hid hrs
          have hxl : x.size ≤ maxLen := by unfold maxLen; omega
          obtain ⟨na, nc, rfl⟩ := HI2.out.nsl
          have hnsl : ns.length ≤ 9223372036854775807 := by omega
          clear htx hr2 hu2 hrs m1 HQ2
          go_wp2
          obtain ⟨gko, rfl⟩ : ∃ g, g = gk := ⟨gk, rfl⟩
          go_loopg [12] (ns.length + 2) (fun gk2 i wx => ∃ (j : Nat) (s3 : St), i = .int .i64 j ∧ j ≤ ns.length ∧ Hid (Itd (w.alloc (.cells #[.int .i64 0, .int .i64 0, .string ⟨#[]⟩, .slice none 0 0, .slice none 0 0] 28)) R A cap bs ⟨p, 0, 0⟩ (w.heap.size + 1) 6 ns is (.slice na ns.length nc) iv xs s3 wx) ∧ ns.length - j + 1 < gk2 ∧ Hid (s3.err = 0 → s3 = s2 ∧ hasB ns x = hasB (ns.drop j) x) ∧ Hid (s3.err ≠ 0 → res = .bad s3.err s3.place ∧ q + 1 ≤ s3.pos))
          case atStart => exact ⟨0, s2, rfl, Nat.zero_le _, HI2, by omega, Lib.hid (fun _ => ⟨rfl, rfl⟩), Lib.hid (fun he => ⟨text_fault he HRS.out HQ4.out, rdRes_pos HRS.out⟩)⟩
          case round =>
            obtain ⟨j, s3, rfl, hj, HI3', hM2, HG, HBD⟩ := hrel
            have k2 : wr.cell? ⟨R, 2, none⟩ = some (.int .i64 (s3.err : Int)) := HI3'.out.rd.c2
            obtain ⟨⟨_, _, _, d3, _⟩, _⟩ := cellsOf5 HI3'.out.blk
            by_cases he : s3.err = 0
            · obtain ⟨hs3, hhas⟩ := HG.out he
              have HHAS := Lib.hid hhas
              have HS3 := Lib.hid hs3
              have HERR := Lib.hid he
              rw [he] at k2
              clear HG hs3 hhas he
              by_cases hlt2 : j < ns.length
              · obtain ⟨g, c', hv, hgc, hcell⟩ := HI3'.out.nameAt hlt2
                injection hv with hv1 hv2 hv3
                subst hv1; subst hv3
                have HB2 := Lib.hid (show hasB (ns.drop j) x = ((ns[j].data.toList == x.data.toList) || hasB (ns.drop (j + 1)) x) by rw [List.drop_eq_getElem_cons hlt2]; rfl)
                have HLT := Lib.hid hlt2
                generalize ns[j] = y at *
                by_cases hxy : y.data.toList = x.data.toList
                · have HV := Lib.hid (HHAS.out.trans (HB2.out.trans (by rw [beq_iff_eq.2 hxy, Bool.true_or])))
                  obtain rfl : y = x := ByteArray.ext (Array.ext' hxy)
                  have hfl := dfail_c R A cap bs s3 16 (q + 1) wr HI3'.out.rd
                  have HFS := Lib.hid (show s3.fail 16 (q + 1) = ⟨s3.pos, 16, q + 1⟩ from if_pos HERR.out)
                  rw [HFS.out] at hfl
                  clear HB2 HHAS hxy
                  go_wp2_with fail
                  refine hfl.mono ?_; rintro e w3 ⟨rfl, hr3, hu3⟩
                  have HI4 := Lib.hid (HI3'.out.move hu3 hr3)
                  clear hfl hr3 hu3 d3 hcell k2
                  go_wp2
                  go_roundg (gk - 1)
                  case measure => omega
                  case rel => exact ⟨j + 1, ⟨s3.pos, 16, q + 1⟩, by go_num, HLT.out, HI4, by omega, Lib.hid (fun h => absurd h (show (16 : Nat) ≠ 0 by decide)), Lib.hid (fun _ => ⟨text_twice (by rw [← HS3.out]; exact HERR.out) HV.out HRS.out HQ4.out, by have := rdRes_pos HRS.out; rw [← HS3.out] at this; exact this⟩)⟩
                · have hne : (y.toList == x.toList) = false := by
                    rw [ByteArray.toList_eq, ByteArray.toList_eq, beq_eq_false_iff_ne]; exact hxy
                  have HV := Lib.hid (HHAS.out.trans (HB2.out.trans (by rw [beq_eq_false_iff_ne.2 hxy, Bool.false_or])))
                  clear HB2 HHAS hxy
                  go_wp2
                  go_roundg (gk - 1)
                  case measure => omega
                  case rel => exact ⟨j + 1, s3, by go_num, HLT.out, HI3', by omega, Lib.hid (fun _ => ⟨HS3.out, HV.out⟩), HBD⟩
              · obtain rfl : j = ns.length := by omega
                have HBB := Lib.hid (show hasB ns x = false by have := HHAS.out; rw [List.drop_length] at this; exact this)
                obtain ⟨q', hs2, hq1, hq2, hq3⟩ := text_good (k := k) (sn := ns) rfl (by rw [← HS3.out]; exact HERR.out) HBB.out HRS.out HQ4.out
                have HQ5 := Lib.hid hq3
                obtain rfl : s3 = ⟨q', 0, 0⟩ := HS3.out.trans hs2
                have HQQ := Lib.hid (show (ns ++ [x]).length + p ≤ q' ∧ is.length + p + 1 ≤ q' ∧ q < q' ∧ q' ≤ bs.length from ⟨by simp; omega, by omega, by omega, hq2⟩)
                clear hq3 HQ4 HRS HHAS hs2 HS3 hlt2 HBD HERR
                have hnV : Value.ownBlock (.slice na ns.length nc) ≠ some (w.heap.size + 1) := fun e => (HI3'.out.nf _ e).2.1 rfl
                obtain ⟨⟨_, _, _, d3, _⟩, _, _, _, t3, _⟩ := cellsOf5 HI3'.out.blk
                have hbs := (Below.refl wr.heap.size wr).alloc (Nat.le_refl _) (.cells #[.string x] 9)
                have d3a := cell_below hbs d3
                go_wp2_with (at_builtin; refine wpList_app strTy rfl _ _ rfl _ ns.length _ rfl (HI3'.out.nrow.below hbs) ⟨wr.heap.size, 0, none⟩ 1 1 [.string x] rfl rfl (World.news_of_block (heap_alloc_new wr (.cells #[.string x] 9))) (by simp [Value.oneCell']) (by unfold maxLen; omega) (by omega) ?_; intro nv' wn hrow hu; have hat := HI3'.out.at hbs hu hnV; obtain ⟨⟨_, _, _, d3b, _⟩, _, _, _, t3b, _⟩ := cellsOf5 hat; have HIn := Lib.hid (HI3'.out.name hbs hrow hu); obtain ⟨g7, c7, hv7, _⟩ := hrow.form; subst hv7; clear hat hrow hu hbs)
                clear d3 t3 d3a d3b t3b hnV
                generalize World.setCell wn _ _ = WN at *
                clear k2
                have hdr := Lib.hid (Below.drew (Below.refl WN.heap.size WN))
                have HId := Lib.hid (HIn.out.below hdr.out)
                have hcall := fun (d' : Int) (hd' : d' = 64 - k) => HIH.out R A cap q' WN.drew HId.out.rd d' hd'
                obtain ⟨⟨b0, b1, b2, b3, b4⟩, g0, g1, g2, g3, g4⟩ := cellsOf5 HIn.out.blk
                have hiV : iv.ownBlock ≠ some (w.heap.size + 1) := fun e => (HIn.out.fi _ e).2 rfl
                have hVR : R ≠ w.heap.size + 1 := by have := HH.out.lt; omega
                have hwd : wrap64 (63 - (k : Int) + 1) = 63 - (k : Int) + 1 := by unfold wrap64; omega
                go_region_law (first
                    | (refine step_app valTy (by rfl) _ _ (by rfl) iv is.length xs (by rfl) (HIv.out.irow.below ((Below.refl _ _).alloc (Nat.le_refl _) _)) (some ⟨wv.heap.size, 0, none⟩) 1 1 [.int .i64 t.kind, .int .i64 t.int, .string t.text, .slice tan t.names.length tcn, .slice tai t.items.length tci] (by rfl) (by rfl) (by simp) (fun a ha => by cases ha; exact World.news_of_block (heap_alloc_new wv _)) (by simp [Value.oneCell']) (by unfold maxLen; omega) (by omega) ?_;
                       intro iv' w3 hrow hu3; have hat := HIv.out.at ((Below.refl _ _).alloc (Nat.le_refl _) _) hu3 hiV; obtain ⟨⟨_, _, _, _, e43⟩, _, _, _, _, f43⟩ := cellsOf5 hat; clear hat;
                       have HI3 := Lib.hid (HIv.out.item HId.out hrepv ((Below.refl _ _).alloc (Nat.le_refl _) _) hrow hu3); obtain ⟨g9, c9, hv9, _⟩ := hrow.form; subst hv9; clear hrow hu3 hrepv)
                    | (go_simp; go_at_call 48; refine (hcall _ (by simp [IntKind.wrap, IntKind.signed, IntKind.bits]; omega)).mono ?_; rintro e wv ⟨t, tan, tcn, tai, tci, s4, rfl, hrepv, hr4, hu4, hres⟩; have HIv := Lib.hid (HId.out.move hu4 hr4); have HRES4 := Lib.hid hres; have e41 := (cellsOf5 HIv.out.blk).1.2.2.2.2; have e42 := cell_below ((Below.refl wv.heap.size wv).alloc (Nat.le_refl _) (.cells #[.int .i64 t.kind, .int .i64 t.int, .string t.text, .slice tan t.names.length tcn, .slice tai t.items.length tci] 28)) e41; clear hr4 hu4 hres))
                all_goals clear e41 e42 e43 f43 b0 b1 b2 b3 b4 g0 g1 g2 g3 g4 hcall
                all_goals go_wp2
                all_goals go_roundg (gko - 1)
                all_goals first | omega | (obtain ⟨r1, r2⟩ := itsAt_val (o := true) (sn := ns ++ [x]) (ns := ns ++ [x]) (q := q) (fun _ => rfl) HQQ.out.1 HQQ.out.2.1 HQQ.out.2.2.1 HQQ.out.2.2.2 hf2 HRES4.out HQ5.out; rw [Mst_zero] at r2; exact ⟨s4, (ns ++ [x]), is ++ [t], _, _, _, HI3, by omega, Lib.hid r1⟩)
            · have HERR := Lib.hid he
              obtain ⟨hbad, hbp⟩ := HBD.out he
              have HBAD := Lib.hid hbad
              have heb : ((s3.err : Int) == 0) = false := by simp [he]
              clear he HBD HG hbad
              have hnV : Value.ownBlock (.slice na ns.length nc) ≠ some (w.heap.size + 1) := fun e => (HI3'.out.nf _ e).2.1 rfl
              obtain ⟨⟨_, _, _, d3, _⟩, _, _, _, t3, _⟩ := cellsOf5 HI3'.out.blk
              have hbs := (Below.refl wr.heap.size wr).alloc (Nat.le_refl _) (.cells #[.string x] 9)
              have d3a := cell_below hbs d3
              go_wp2_with (at_builtin; refine wpList_app strTy rfl _ _ rfl _ ns.length _ rfl (HI3'.out.nrow.below hbs) ⟨wr.heap.size, 0, none⟩ 1 1 [.string x] rfl rfl (World.news_of_block (heap_alloc_new wr (.cells #[.string x] 9))) (by simp [Value.oneCell']) (by unfold maxLen; omega) (by omega) ?_; intro nv' wn hrow hu; have hat := HI3'.out.at hbs hu hnV; obtain ⟨⟨_, _, _, d3b, _⟩, _, _, _, t3b, _⟩ := cellsOf5 hat; have HIn := Lib.hid (HI3'.out.name hbs hrow hu); obtain ⟨g7, c7, hv7, _⟩ := hrow.form; subst hv7; clear hat hrow hu hbs)
              clear d3 t3 d3a d3b t3b hnV
              generalize World.setCell wn _ _ = WN at *
              clear k2
              have hdr := Lib.hid (Below.drew (Below.refl WN.heap.size WN))
              have HId := Lib.hid (HIn.out.below hdr.out)
              have hcall := fun (d' : Int) => dvalue_bad R A cap bs s3 HERR.out d' WN.drew HId.out.rd
              obtain ⟨⟨b0, b1, b2, b3, b4⟩, g0, g1, g2, g3, g4⟩ := cellsOf5 HIn.out.blk
              have hiV : iv.ownBlock ≠ some (w.heap.size + 1) := fun e => (HIn.out.fi _ e).2 rfl
              have hVR : R ≠ w.heap.size + 1 := by have := HH.out.lt; omega
              have hwd : wrap64 (63 - (k : Int) + 1) = 63 - (k : Int) + 1 := by unfold wrap64; omega
              go_region_law (first
                  | (refine step_app valTy (by rfl) _ _ (by rfl) iv is.length xs (by rfl) (HIv.out.irow.below ((Below.refl _ _).alloc (Nat.le_refl _) _)) (some ⟨wv.heap.size, 0, none⟩) 1 1 [.int .i64 0, .int .i64 0, .string ⟨#[]⟩, .slice none 0 0, .slice none 0 0] (by rfl) (by rfl) (by simp) (fun a ha => by cases ha; exact World.news_of_block (heap_alloc_new wv _)) (by simp [Value.oneCell']) (by unfold maxLen; omega) (by omega) ?_;
                     intro iv' w3 hrow hu3; have hat := HIv.out.at ((Below.refl _ _).alloc (Nat.le_refl _) _) hu3 hiV; obtain ⟨⟨_, _, _, _, e43⟩, _, _, _, _, f43⟩ := cellsOf5 hat; clear hat;
                     have HI3 := Lib.hid (HIv.out.item HId.out hrepv ((Below.refl _ _).alloc (Nat.le_refl _) _) hrow hu3); obtain ⟨g9, c9, hv9, _⟩ := hrow.form; subst hv9; clear hrow hu3 hrepv)
                  | (go_simp; go_at_call 48; refine (hcall _).mono ?_; rintro e wv ⟨rfl, hr4, hu4⟩; have HIv := Lib.hid (HId.out.move hu4 hr4); have hrepv := rep_flat 0 0 ⟨#[]⟩ (by omega) (by omega) (Nat.zero_le _) wv (fun b => WN.drew.heap.size ≤ b); have e41 := (cellsOf5 HIv.out.blk).1.2.2.2.2; have e42 := cell_below ((Below.refl wv.heap.size wv).alloc (Nat.le_refl _) (.cells #[.int .i64 0, .int .i64 0, .string ⟨#[]⟩, .slice none 0 0, .slice none 0 0] 28)) e41; clear hr4 hu4))
              all_goals clear e41 e42 e43 f43 b0 b1 b2 b3 b4 g0 g1 g2 g3 g4 hcall
              all_goals go_wp2
              all_goals go_roundg (gko - 1)
              all_goals first | omega | (obtain ⟨r1, r2⟩ := itsAt_bad (k := k) (o := true) (p := p) (ns := ns ++ [x]) (is := is ++ [nullV 0]) (q := q) HERR.out (by simp; omega) (by simp; omega) (by omega) HBAD.out; rw [Mst_zero] at r2; exact ⟨s3, (ns ++ [x]), is ++ [nullV 0], _, _, _, HI3, by omega, Lib.hid r1⟩)
        · by_cases h1 : c = 1
          · subst h1
            have HQ2 := Lib.hid (HQ1.out.trans ((if_neg h2).trans (if_pos rfl)))
            clear HQ1 h2
            have hz := (HI1.out.upd.block (k := w.heap.size) (by simp) (fun e => hRw (Option.some.inj e))).trans HZ0.out
            obtain ⟨⟨z0, z1, z2, z3, z4⟩, y0, y1, y2, y3, y4⟩ := cellsOf5 hz
            obtain ⟨⟨c0, c1, c2, c3, c4⟩, _⟩ := cellsOf5 HI1.out.blk
            obtain ⟨an, cn, ai, ci, rfl, rfl, hrep⟩ := HI1.out.done (by omega)
            have HREP := Lib.hid hrep
            have HZ := Lib.hid hz
            clear hz hrep
            go_wp2
            (try simp only [Exit.inBlock, Exit.then])
            refine bodyPost_ret (results_cell_row rfl _ _ w.heap.size 28 _ (0, 0) _ (by rfl) (set5 HZ.out) Tryd.underlying28 rfl (by kernel_rfl)) rfl ?_
            have hU := ((Upd.of_below HB1.out (some R)).trans HI1.out.upd).trans_below (below_set5 (c0 := .int .i64 6) (c1 := .int .i64 0) (c2 := .string ⟨#[]⟩) (c3 := .slice an ns.length cn) (c4 := .slice ai is.length ci) (Below.refl w.heap.size w1) (Nat.le_refl _))
            exact ⟨.mk 6 0 ⟨#[]⟩ ns is, an, cn, ai, ci, ⟨q + 1, 0, 0⟩, rfl, Rep.kept (fun b hlt hb => ⟨by have := hb.1; simp only [World.size_alloc] at this; omega, other_set5 (by have := hb.1; simp only [World.size_alloc] at this; omega)⟩) _ _ HREP.out, HH.out.after hU HI1.out.rd (other_set5 hRw), hU, by rw [HQ2.out]; exact ⟨rfl, by rw [drop_at (by omega)], by rw [List.length_drop]; omega, by rw [drop_at (by omega)]⟩⟩
          · have HQ2 := Lib.hid (HQ1.out.trans ((if_neg h2).trans (if_neg h1)))
            have HPL := Lib.hid (show bs.length - (bs.drop (q + 1)).length - 1 = q by rw [List.length_drop]; omega)
            have hb1 : ((c.toNat : Int) == 1) = false := byte_ne (d := 1) h1
            have hb2 : ((c.toNat : Int) == 2) = false := byte_ne (d := 2) h2
            have hb3 : ((c.toNat : Int) != 2) = true := by simp only [bne, hb2]; rfl
            have m1 : w1.cell? ⟨R, 1, none⟩ = some (.int .i64 ((q : Int) + 1)) := HI1.out.rd.c1
            have hwp : wrap64 (q : Int) = (q : Int) := by unfold wrap64; omega
            have hfl := dfail_c R A cap bs ⟨q + 1, 0, 0⟩ 30 q w1 HI1.out.rd
            clear HQ1 h1 h2
            go_wp2_with fail
            refine hfl.mono ?_; rintro e w2 ⟨rfl, hr2, hu2⟩
            have HI2 := Lib.hid (HI1.out.move hu2 hr2)
            clear hfl hr2 hu2 m1
            have hz := (HI2.out.upd.block (k := w.heap.size) (by simp) (fun e => hRw (Option.some.inj e))).trans HZ0.out
            obtain ⟨⟨z0, z1, z2, z3, z4⟩, y0, y1, y2, y3, y4⟩ := cellsOf5 hz
            obtain ⟨⟨c0, c1, c2, c3, c4⟩, _⟩ := cellsOf5 HI2.out.blk
            obtain ⟨an, cn, ai, ci, rfl, rfl, hrep⟩ := HI2.out.done (by omega)
            have HREP := Lib.hid hrep
            have HZ := Lib.hid hz
            clear hz hrep
            go_wp2
            (try simp only [Exit.inBlock, Exit.then])
            refine bodyPost_ret (results_cell_row rfl _ _ w.heap.size 28 _ (0, 0) _ (by rfl) (set5 HZ.out) Tryd.underlying28 rfl (by kernel_rfl)) rfl ?_
            have hU := ((Upd.of_below HB1.out (some R)).trans HI2.out.upd).trans_below (below_set5 (c0 := .int .i64 6) (c1 := .int .i64 0) (c2 := .string ⟨#[]⟩) (c3 := .slice an ns.length cn) (c4 := .slice ai is.length ci) (Below.refl w.heap.size w2) (Nat.le_refl _))
            exact ⟨.mk 6 0 ⟨#[]⟩ ns is, an, cn, ai, ci, ⟨q + 1, 30, q⟩, rfl, Rep.kept (fun b hlt hb => ⟨by have := hb.1; simp only [World.size_alloc] at this; omega, other_set5 (by have := hb.1; simp only [World.size_alloc] at this; omega)⟩) _ _ HREP.out, HH.out.after hU HI2.out.rd (other_set5 hRw), hU, by rw [HQ2.out, HPL.out]; exact ⟨rfl, rfl, by decide, Nat.le_succ_of_le ha3⟩⟩
      · have hnx := dnext_out R A cap bs q hlt wr HI.out.rd
        obtain ⟨f, rfl⟩ : ∃ f', f = f' + 1 := ⟨f - 1, by have := HF.out; omega⟩
        have HQ2 := Lib.hid (HQ.out.trans (by rw [List.drop_of_length_le (by omega), pItems]))
        clear HQ HF
        go_wp2_with fail
        refine hnx.mono ?_; rintro e w1 ⟨rfl, hr1, hu1⟩
        have HI1 := Lib.hid (HI.out.move hu1 hr1)
        clear hnx hr1 hu1 HI
        have hz := (HI1.out.upd.block (k := w.heap.size) (by simp) (fun e => hRw (Option.some.inj e))).trans HZ0.out
        obtain ⟨⟨z0, z1, z2, z3, z4⟩, y0, y1, y2, y3, y4⟩ := cellsOf5 hz
        obtain ⟨⟨c0, c1, c2, c3, c4⟩, _⟩ := cellsOf5 HI1.out.blk
        obtain ⟨an, cn, ai, ci, rfl, rfl, hrep⟩ := HI1.out.done (by omega)
        have HREP := Lib.hid hrep
        have HZ := Lib.hid hz
        clear hz hrep
        go_wp2
        (try simp only [Exit.inBlock, Exit.then])
        refine bodyPost_ret (results_cell_row rfl _ _ w.heap.size 28 _ (0, 0) _ (by rfl) (set5 HZ.out) Tryd.underlying28 rfl (by kernel_rfl)) rfl ?_
        have hU := ((Upd.of_below HB1.out (some R)).trans HI1.out.upd).trans_below (below_set5 (c0 := .int .i64 6) (c1 := .int .i64 0) (c2 := .string ⟨#[]⟩) (c3 := .slice an ns.length cn) (c4 := .slice ai is.length ci) (Below.refl w.heap.size w1) (Nat.le_refl _))
        exact ⟨.mk 6 0 ⟨#[]⟩ ns is, an, cn, ai, ci, ⟨q, 3, bs.length⟩, rfl, Rep.kept (fun b hlt hb => ⟨by have := hb.1; simp only [World.size_alloc] at this; omega, other_set5 (by have := hb.1; simp only [World.size_alloc] at this; omega)⟩) _ _ HREP.out, HH.out.after hU HI1.out.rd (other_set5 hRw), hU, by rw [HQ2.out]; exact ⟨rfl, rfl, by decide, by show p ≤ q; omega⟩⟩
    · have hnx := dnext_bad R A cap bs s he wr HI.out.rd
      have HE := Lib.hid (And.intro he hq)
      clear he hq
      go_wp2_with fail
      refine hnx.mono ?_; rintro e w1 ⟨rfl, rfl⟩
      clear hnx
      have hz := (HI.out.upd.block (k := w.heap.size) (by simp) (fun e => hRw (Option.some.inj e))).trans HZ0.out
      obtain ⟨⟨z0, z1, z2, z3, z4⟩, y0, y1, y2, y3, y4⟩ := cellsOf5 hz
      obtain ⟨⟨c0, c1, c2, c3, c4⟩, _⟩ := cellsOf5 HI.out.blk
      obtain ⟨an, cn, ai, ci, rfl, rfl, hrep⟩ := HI.out.done (by omega)
      have HREP := Lib.hid hrep
      have HZ := Lib.hid hz
      clear hz hrep
      go_wp2
      (try simp only [Exit.inBlock, Exit.then])
      refine bodyPost_ret (results_cell_row rfl _ _ w.heap.size 28 _ (0, 0) _ (by rfl) (set5 HZ.out) Tryd.underlying28 rfl (by kernel_rfl)) rfl ?_
      have hU := ((Upd.of_below HB1.out (some R)).trans HI.out.upd).trans_below (below_set5 (c0 := .int .i64 6) (c1 := .int .i64 0) (c2 := .string ⟨#[]⟩) (c3 := .slice an ns.length cn) (c4 := .slice ai is.length ci) (Below.refl w.heap.size w1) (Nat.le_refl _))
      exact ⟨.mk 6 0 ⟨#[]⟩ ns is, an, cn, ai, ci, s, rfl, Rep.kept (fun b hlt hb => ⟨by have := hb.1; simp only [World.size_alloc] at this; omega, other_set5 (by have := hb.1; simp only [World.size_alloc] at this; omega)⟩) _ _ HREP.out, HH.out.after hU HI.out.rd (other_set5 hRw), hU, by rw [HE.out.2]; exact ⟨rfl, rfl, HE.out.1, ha3⟩⟩
end Go.Proofs.YtjmhoccikbgigaaDoor
namespace Go.Proofs.YtjmhoccikbgigaaDoor
open Go.RowKit
set_option maxRecDepth 20000 in
set_option maxHeartbeats 8000000 in
theorem dvalue_step (bs : List UInt8) (hbs : bs.length < 1099511627776) (k : Nat) (hk : k ≤ 64) (ih : ∀ k', k = k' + 1 → DvalSaid bs k') : DvalSaid bs k := by
  intro R A cap p w h d hd
  subst hd
  have hb1 : Below w.heap.size w (w.alloc (.cells #[.int .i64 0, .int .i64 0, .string ⟨#[]⟩, .slice none 0 0, .slice none 0 0] 28)) := (Below.refl _ _).alloc (Nat.le_refl _) _
  have hrd := h.below hb1
  have HH := Lib.hid h
  have HB1 := Lib.hid hb1
  have HIH := Lib.hid ih
  have HZ0 := Lib.hid (heap_alloc_new w (.cells #[.int .i64 0, .int .i64 0, .string ⟨#[]⟩, .slice none 0 0, .slice none 0 0] 28))
  have hpp := h.pos
  have hRw : R ≠ w.heap.size := by have := h.lt; omega
  have h1 := hrd.c1
  simp only at hpp h1
  have hrs : ∃ res, pValue bs.length k (bs.drop p) = res := ⟨_, rfl⟩
  obtain ⟨res, hres⟩ := hrs
  rw [hres]
  have HRES := Lib.hid (hres.symm.trans (by rw [pValue_head]))
  clear h hb1 ih hres
  by_cases hlt : p < bs.length
  · have hnx := dnext_in R A cap bs p hlt (w.alloc (.cells #[.int .i64 0, .int .i64 0, .string ⟨#[]⟩, .slice none 0 0, .slice none 0 0] 28)) hrd
    have HQ := Lib.hid (HRES.out.trans (head_res (deepP bs.length k) (drop_cons2 hlt)))
    generalize bs[p] = c at *
    go_enter Tryd.func48, Tryd.ntmps48
    go_wp2_with fail
    refine hnx.mono ?_; rintro e w1 ⟨rfl, hr1, hu1⟩
    have hz := (hu1.block (k := w.heap.size) (by simp) (fun e => hRw (Option.some.inj e))).trans HZ0.out
    obtain ⟨⟨z0, z1, z2, z3, z4⟩, y0, y1, y2, y3, y4⟩ := cellsOf5 hz
    have HZ := Lib.hid hz
    have HR1 := Lib.hid (And.intro hr1 hu1)
    have HPL := Lib.hid (show bs.length - (bs.drop (p + 1)).length = p + 1 from drop_at (by omega))
    clear hnx h1 hr1 hu1 hz HRES hrd
    by_cases n5 : c = 5
    · have HQ2 := Lib.hid (HQ.out.trans (if_pos n5))
      clear HQ 
      subst n5
      go_wp2
      (try simp only [Exit.inBlock, Exit.then])
      refine bodyPost_ret (results_cell_row rfl _ _ w.heap.size 28 _ (0, 0) _ (by rfl) (set5 HZ.out) Tryd.underlying28 rfl (by kernel_rfl)) rfl ?_
      have hU := ((Upd.of_below HB1.out (some R)).trans HR1.out.2).trans_below (below_set5 (c0 := .int .i64 0) (c1 := .int .i64 0) (c2 := .string ⟨#[]⟩) (c3 := .slice none 0 0) (c4 := .slice none 0 0) (Below.refl w.heap.size w1) (Nat.le_refl _))
      exact ⟨nullV 0, none, 0, none, 0, ⟨p + 1, 0, 0⟩, rfl, rep_flat 0 0 ⟨#[]⟩ (by omega) (by omega) (Nat.zero_le _) _ _, HH.out.after hU HR1.out.1 (other_set5 hRw), hU, by rw [HQ2.out]; exact ⟨rfl, by rw [HPL.out], by rw [List.length_drop]; omega, by rw [HPL.out]⟩⟩
    by_cases n80 : c = 80
    · have HQ2 := Lib.hid (HQ.out.trans ((if_neg n5).trans <| if_pos n80))
      clear HQ n5
      subst n80
      go_wp2
      (try simp only [Exit.inBlock, Exit.then])
      refine bodyPost_ret (results_cell_row rfl _ _ w.heap.size 28 _ (0, 0) _ (by rfl) (set5 HZ.out) Tryd.underlying28 rfl (by kernel_rfl)) rfl ?_
      have hU := ((Upd.of_below HB1.out (some R)).trans HR1.out.2).trans_below (below_set5 (c0 := .int .i64 1) (c1 := .int .i64 0) (c2 := .string ⟨#[]⟩) (c3 := .slice none 0 0) (c4 := .slice none 0 0) (Below.refl w.heap.size w1) (Nat.le_refl _))
      exact ⟨nullV 1, none, 0, none, 0, ⟨p + 1, 0, 0⟩, rfl, rep_flat 1 0 ⟨#[]⟩ (by omega) (by omega) (Nat.zero_le _) _ _, HH.out.after hU HR1.out.1 (other_set5 hRw), hU, by rw [HQ2.out]; exact ⟨rfl, by rw [HPL.out], by rw [List.length_drop]; omega, by rw [HPL.out]⟩⟩
    by_cases n81 : c = 81
    · have HQ2 := Lib.hid (HQ.out.trans ((if_neg n5).trans <| (if_neg n80).trans <| if_pos n81))
      clear HQ n5 n80
      subst n81
      go_wp2
      (try simp only [Exit.inBlock, Exit.then])
      refine bodyPost_ret (results_cell_row rfl _ _ w.heap.size 28 _ (0, 0) _ (by rfl) (set5 HZ.out) Tryd.underlying28 rfl (by kernel_rfl)) rfl ?_
      have hU := ((Upd.of_below HB1.out (some R)).trans HR1.out.2).trans_below (below_set5 (c0 := .int .i64 2) (c1 := .int .i64 0) (c2 := .string ⟨#[]⟩) (c3 := .slice none 0 0) (c4 := .slice none 0 0) (Below.refl w.heap.size w1) (Nat.le_refl _))
      exact ⟨nullV 2, none, 0, none, 0, ⟨p + 1, 0, 0⟩, rfl, rep_flat 2 0 ⟨#[]⟩ (by omega) (by omega) (Nat.zero_le _) _ _, HH.out.after hU HR1.out.1 (other_set5 hRw), hU, by rw [HQ2.out]; exact ⟨rfl, by rw [HPL.out], by rw [List.length_drop]; omega, by rw [HPL.out]⟩⟩
    by_cases n16 : c = 16
    · have HQ2 := Lib.hid (HQ.out.trans ((if_neg n5).trans <| (if_neg n80).trans <| (if_neg n81).trans <| if_pos n16))
      clear HQ n5 n80 n81
      subst n16
      have hnc := dnumber_c R A cap bs (p + 1) p (by omega) w1 HR1.out.1
      go_wp2_with fail
      refine hnc.mono ?_; rintro e w2 ⟨N, s2, rfl, ⟨hN1, hN2⟩, hr2, hu2, hns⟩
      have HZ2 := Lib.hid ((hu2.block (cell_lt z0) (fun e => hRw (Option.some.inj e))).trans HZ.out)
      obtain ⟨⟨q0, q1, q2, q3, q4⟩, p0, p1, p2, p3, p4⟩ := cellsOf5 HZ2.out
      have HR2 := Lib.hid (And.intro hr2 (HR1.out.2.trans hu2))
      have HNS := Lib.hid hns
      clear hnc hns hr2 hu2 z0 z1 z2 z3 z4 y0 y1 y2 y3 y4
      go_wp2
      (try simp only [Exit.inBlock, Exit.then])
      refine bodyPost_ret (results_cell_row rfl _ _ w.heap.size 28 _ (0, 0) _ (by rfl) (set5 HZ2.out) Tryd.underlying28 rfl (by kernel_rfl)) rfl ?_
      have hU := ((Upd.of_below HB1.out (some R)).trans HR2.out.2).trans_below (below_set5 (c0 := .int .i64 3) (c1 := .int .i64 N) (c2 := .string ⟨#[]⟩) (c3 := .slice none 0 0) (c4 := .slice none 0 0) (Below.refl w.heap.size w2) (Nat.le_refl _))
      exact ⟨.mk 3 N ⟨#[]⟩ [] [], none, 0, none, 0, s2, rfl, rep_flat 3 N ⟨#[]⟩ (by omega) (by omega) (Nat.zero_le _) _ _, HH.out.after hU HR2.out.1 (other_set5 hRw), hU, by rw [HQ2.out]; exact HNS.out⟩
    by_cases n32 : c = 32
    · have HQ2 := Lib.hid (HQ.out.trans ((if_neg n5).trans <| (if_neg n80).trans <| (if_neg n81).trans <| (if_neg n16).trans <| if_pos n32))
      clear HQ n5 n80 n81 n16
      subst n32
      have htx := dtext_c R A cap bs (by omega) (p + 1) w1 HR1.out.1
      have HQ3 := HQ2.out
      rw [HPL.out] at HQ3
      have HQ4 := Lib.hid HQ3
      clear HQ3 HQ2
      go_wp2_with fail
      refine htx.mono ?_; rintro e w2 ⟨x, s2, rfl, hxs, hr2, hu2, hrs⟩
      have HZ2 := Lib.hid ((hu2.block (cell_lt z0) (fun e => hRw (Option.some.inj e))).trans HZ.out)
      obtain ⟨⟨q0, q1, q2, q3, q4⟩, p0, p1, p2, p3, p4⟩ := cellsOf5 HZ2.out
      have HR2 := Lib.hid (And.intro hr2 (HR1.out.2.trans hu2))
      have HRS := Lib.hid hrs
      clear htx hrs hr2 hu2 z0 z1 z2 z3 z4 y0 y1 y2 y3 y4
      go_wp2
      (try simp only [Exit.inBlock, Exit.then])
      refine bodyPost_ret (results_cell_row rfl _ _ w.heap.size 28 _ (0, 0) _ (by rfl) (set5 HZ2.out) Tryd.underlying28 rfl (by kernel_rfl)) rfl ?_
      have hU := ((Upd.of_below HB1.out (some R)).trans HR2.out.2).trans_below (below_set5 (c0 := .int .i64 4) (c1 := .int .i64 0) (c2 := .string x) (c3 := .slice none 0 0) (c4 := .slice none 0 0) (Below.refl w.heap.size w2) (Nat.le_refl _))
      exact ⟨.mk 4 0 x [] [], none, 0, none, 0, s2, rfl, rep_flat 4 0 x (by omega) (by omega) (by unfold maxLen; omega) _ _, HH.out.after hU HR2.out.1 (other_set5 hRw), hU, by rw [HQ4.out]; exact text_res (by omega) HRS.out⟩
    by_cases n48 : c = 48
    · have HQ2 := Lib.hid (HQ.out.trans ((if_neg n5).trans <| (if_neg n80).trans <| (if_neg n81).trans <| (if_neg n16).trans <| (if_neg n32).trans <| if_pos n48))
      clear HQ n5 n80 n81 n16 n32
      subst n48
      cases k with
      | zero =>
        have HQ3 := HQ2.out
        unfold deepP at HQ3
        have HPL2 := Lib.hid (show bs.length - (bs.drop (p + 1)).length - 1 = p by rw [HPL.out]; omega)
        simp only [HPL2.out] at HQ3
        have HQ4 := Lib.hid HQ3
        have hfl := dfail_c R A cap bs ⟨p + 1, 0, 0⟩ 17 p w1 HR1.out.1
        clear HQ3 HQ2
        go_wp2_with fail
        refine hfl.mono ?_; rintro e w2 ⟨rfl, hr2, hu2⟩
        have HZ2 := Lib.hid ((hu2.block (cell_lt z0) (fun e => hRw (Option.some.inj e))).trans HZ.out)
        obtain ⟨⟨q0, q1, q2, q3, q4⟩, p0, p1, p2, p3, p4⟩ := cellsOf5 HZ2.out
        have HR2 := Lib.hid (And.intro hr2 (HR1.out.2.trans hu2))
        clear hfl hr2 hu2 z0 z1 z2 z3 z4 y0 y1 y2 y3 y4
        go_wp2
        (try simp only [Exit.inBlock, Exit.then])
        refine bodyPost_ret (results_cell_row rfl _ _ w.heap.size 28 _ (0, 0) _ (by rfl) (set5 HZ2.out) Tryd.underlying28 rfl (by kernel_rfl)) rfl ?_
        have hU := ((Upd.of_below HB1.out (some R)).trans HR2.out.2).trans_below (below_set5 (c0 := .int .i64 0) (c1 := .int .i64 0) (c2 := .string ⟨#[]⟩) (c3 := .slice none 0 0) (c4 := .slice none 0 0) (Below.refl w.heap.size w2) (Nat.le_refl _))
        exact ⟨nullV 0, none, 0, none, 0, ⟨p + 1, 17, p⟩, rfl, rep_flat 0 0 ⟨#[]⟩ (by omega) (by omega) (Nat.zero_le _) _ _, HH.out.after hU HR2.out.1 (other_set5 hRw), hU, by rw [HQ4.out]; exact ⟨rfl, rfl, by decide, by show p ≤ p + 1; omega⟩⟩
      | succ k =>
        have HQ3 := Lib.hid (show res = pItems bs.length (pValue bs.length k) true ((bs.drop (p + 1)).length + 1) (bs.drop (p + 1)) [] [] from HQ2.out)
        have hit := fun (d : Int) (hd : d = 63 - k) => dItems6_c bs hbs k (by omega) (HIH.out k rfl) R A cap (p + 1) w1 HR1.out.1 d hd
        have hdd : ¬ (64 : Int) ≤ 64 - ((k + 1 : Nat) : Int) := by omega
        have hdd2 : ¬ (64 : Int) ≤ 64 - ((k : Int) + 1) := by omega
        clear HQ2
        go_wp2_with fail
        refine (hit _ (by omega)).mono ?_; rintro e w2 ⟨t, tan, tcn, tai, tci, s2, rfl, hrep, hr2, hu2, hrs⟩
        have HZ2 := Lib.hid ((hu2.block (cell_lt z0) (fun e => hRw (Option.some.inj e))).trans HZ.out)
        obtain ⟨⟨q0, q1, q2, q3, q4⟩, p0, p1, p2, p3, p4⟩ := cellsOf5 HZ2.out
        have HR2 := Lib.hid (And.intro hr2 (HR1.out.2.trans hu2))
        have HRS := Lib.hid hrs
        have HREP := Lib.hid hrep
        have hVlt := cell_lt z0
        clear hit hr2 hu2 hrs hrep z0 z1 z2 z3 z4 y0 y1 y2 y3 y4
        go_wp2
        (try simp only [Exit.inBlock, Exit.then])
        refine bodyPost_ret (results_cell_row rfl _ _ w.heap.size 28 _ (0, 0) _ (by rfl) (set5 HZ2.out) Tryd.underlying28 rfl (by kernel_rfl)) rfl ?_
        have hU := ((Upd.of_below HB1.out (some R)).trans HR2.out.2).trans_below (below_set5 (c0 := .int .i64 t.kind) (c1 := .int .i64 t.int) (c2 := .string t.text) (c3 := .slice tan t.names.length tcn) (c4 := .slice tai t.items.length tci) (Below.refl w.heap.size w2) (Nat.le_refl _))
        exact ⟨t, tan, tcn, tai, tci, s2, rfl, Rep.kept (fun b hlt hb => ⟨by have := HR1.out.2.grown.size; simp only [World.size_alloc] at this; omega, other_set5 (by have := HR1.out.2.grown.size; simp only [World.size_alloc] at this; omega)⟩) _ _ HREP.out, HH.out.after hU HR2.out.1 (other_set5 hRw), hU, by rw [HQ3.out]; exact res_later (by omega) HRS.out⟩
    by_cases n64 : c = 64
    · have HQ2 := Lib.hid (HQ.out.trans ((if_neg n5).trans <| (if_neg n80).trans <| (if_neg n81).trans <| (if_neg n16).trans <| (if_neg n32).trans <| (if_neg n48).trans <| if_pos n64))
      clear HQ n5 n80 n81 n16 n32 n48
      subst n64
      cases k with
      | zero =>
        have HQ3 := HQ2.out
        unfold deepP at HQ3
        have HPL2 := Lib.hid (show bs.length - (bs.drop (p + 1)).length - 1 = p by rw [HPL.out]; omega)
        simp only [HPL2.out] at HQ3
        have HQ4 := Lib.hid HQ3
        have hfl := dfail_c R A cap bs ⟨p + 1, 0, 0⟩ 17 p w1 HR1.out.1
        clear HQ3 HQ2
        go_wp2_with fail
        refine hfl.mono ?_; rintro e w2 ⟨rfl, hr2, hu2⟩
        have HZ2 := Lib.hid ((hu2.block (cell_lt z0) (fun e => hRw (Option.some.inj e))).trans HZ.out)
        obtain ⟨⟨q0, q1, q2, q3, q4⟩, p0, p1, p2, p3, p4⟩ := cellsOf5 HZ2.out
        have HR2 := Lib.hid (And.intro hr2 (HR1.out.2.trans hu2))
        clear hfl hr2 hu2 z0 z1 z2 z3 z4 y0 y1 y2 y3 y4
        go_wp2
        (try simp only [Exit.inBlock, Exit.then])
        refine bodyPost_ret (results_cell_row rfl _ _ w.heap.size 28 _ (0, 0) _ (by rfl) (set5 HZ2.out) Tryd.underlying28 rfl (by kernel_rfl)) rfl ?_
        have hU := ((Upd.of_below HB1.out (some R)).trans HR2.out.2).trans_below (below_set5 (c0 := .int .i64 0) (c1 := .int .i64 0) (c2 := .string ⟨#[]⟩) (c3 := .slice none 0 0) (c4 := .slice none 0 0) (Below.refl w.heap.size w2) (Nat.le_refl _))
        exact ⟨nullV 0, none, 0, none, 0, ⟨p + 1, 17, p⟩, rfl, rep_flat 0 0 ⟨#[]⟩ (by omega) (by omega) (Nat.zero_le _) _ _, HH.out.after hU HR2.out.1 (other_set5 hRw), hU, by rw [HQ4.out]; exact ⟨rfl, rfl, by decide, by show p ≤ p + 1; omega⟩⟩
      | succ k =>
        have HQ3 := Lib.hid (show res = pItems bs.length (pValue bs.length k) false ((bs.drop (p + 1)).length + 1) (bs.drop (p + 1)) [] [] from HQ2.out)
        have hit := fun (d : Int) (hd : d = 63 - k) => dItems5_c bs hbs k (by omega) (HIH.out k rfl) R A cap (p + 1) w1 HR1.out.1 d hd
        have hdd : ¬ (64 : Int) ≤ 64 - ((k + 1 : Nat) : Int) := by omega
        have hdd2 : ¬ (64 : Int) ≤ 64 - ((k : Int) + 1) := by omega
        clear HQ2
        go_wp2_with fail
        refine (hit _ (by omega)).mono ?_; rintro e w2 ⟨t, tan, tcn, tai, tci, s2, rfl, hrep, hr2, hu2, hrs⟩
        have HZ2 := Lib.hid ((hu2.block (cell_lt z0) (fun e => hRw (Option.some.inj e))).trans HZ.out)
        obtain ⟨⟨q0, q1, q2, q3, q4⟩, p0, p1, p2, p3, p4⟩ := cellsOf5 HZ2.out
        have HR2 := Lib.hid (And.intro hr2 (HR1.out.2.trans hu2))
        have HRS := Lib.hid hrs
        have HREP := Lib.hid hrep
        have hVlt := cell_lt z0
        clear hit hr2 hu2 hrs hrep z0 z1 z2 z3 z4 y0 y1 y2 y3 y4
        go_wp2
        (try simp only [Exit.inBlock, Exit.then])
        refine bodyPost_ret (results_cell_row rfl _ _ w.heap.size 28 _ (0, 0) _ (by rfl) (set5 HZ2.out) Tryd.underlying28 rfl (by kernel_rfl)) rfl ?_
        have hU := ((Upd.of_below HB1.out (some R)).trans HR2.out.2).trans_below (below_set5 (c0 := .int .i64 t.kind) (c1 := .int .i64 t.int) (c2 := .string t.text) (c3 := .slice tan t.names.length tcn) (c4 := .slice tai t.items.length tci) (Below.refl w.heap.size w2) (Nat.le_refl _))
        exact ⟨t, tan, tcn, tai, tci, s2, rfl, Rep.kept (fun b hlt hb => ⟨by have := HR1.out.2.grown.size; simp only [World.size_alloc] at this; omega, other_set5 (by have := HR1.out.2.grown.size; simp only [World.size_alloc] at this; omega)⟩) _ _ HREP.out, HH.out.after hU HR2.out.1 (other_set5 hRw), hU, by rw [HQ3.out]; exact res_later (by omega) HRS.out⟩
    have HQ2 := Lib.hid (HQ.out.trans ((if_neg n5).trans <| (if_neg n80).trans <| (if_neg n81).trans <| (if_neg n16).trans <| (if_neg n32).trans <| (if_neg n48).trans <| if_neg n64))
    have m5 : ((c.toNat : Int) == 5) = false := byte_ne (d := 5) n5
    have m80 : ((c.toNat : Int) == 80) = false := byte_ne (d := 80) n80
    have m81 : ((c.toNat : Int) == 81) = false := byte_ne (d := 81) n81
    have m16 : ((c.toNat : Int) == 16) = false := byte_ne (d := 16) n16
    have m32 : ((c.toNat : Int) == 32) = false := byte_ne (d := 32) n32
    have m48 : ((c.toNat : Int) == 48) = false := byte_ne (d := 48) n48
    have m64 : ((c.toNat : Int) == 64) = false := byte_ne (d := 64) n64
    have l48 : ((c.toNat : Int) != 48) = true := by simp only [bne, m48]; rfl
    have l64 : ((c.toNat : Int) != 64) = true := by simp only [bne, m64]; rfl
    have HPL2 := Lib.hid (show bs.length - (bs.drop (p + 1)).length - 1 = p by rw [HPL.out]; omega)
    have hfl := dfail_c R A cap bs ⟨p + 1, 0, 0⟩ 30 p w1 HR1.out.1
    clear HQ n5 n80 n81 n16 n32 n48 n64
    go_wp2_with fail
    refine hfl.mono ?_; rintro e w2 ⟨rfl, hr2, hu2⟩
    have HZ2 := Lib.hid ((hu2.block (cell_lt z0) (fun e => hRw (Option.some.inj e))).trans HZ.out)
    obtain ⟨⟨q0, q1, q2, q3, q4⟩, p0, p1, p2, p3, p4⟩ := cellsOf5 HZ2.out
    have HR2 := Lib.hid (And.intro hr2 (HR1.out.2.trans hu2))
    clear hfl hr2 hu2 z0 z1 z2 z3 z4 y0 y1 y2 y3 y4
    go_wp2
    (try simp only [Exit.inBlock, Exit.then])
    refine bodyPost_ret (results_cell_row rfl _ _ w.heap.size 28 _ (0, 0) _ (by rfl) (set5 HZ2.out) Tryd.underlying28 rfl (by kernel_rfl)) rfl ?_
    have hU := ((Upd.of_below HB1.out (some R)).trans HR2.out.2).trans_below (below_set5 (c0 := .int .i64 0) (c1 := .int .i64 0) (c2 := .string ⟨#[]⟩) (c3 := .slice none 0 0) (c4 := .slice none 0 0) (Below.refl w.heap.size w2) (Nat.le_refl _))
    exact ⟨nullV 0, none, 0, none, 0, ⟨p + 1, 30, p⟩, rfl, rep_flat 0 0 ⟨#[]⟩ (by omega) (by omega) (Nat.zero_le _) _ _, HH.out.after hU HR2.out.1 (other_set5 hRw), hU, by rw [HQ2.out, HPL2.out]; exact ⟨rfl, rfl, by decide, by show p ≤ p + 1; omega⟩⟩
  · have hnx := dnext_out R A cap bs p hlt (w.alloc (.cells #[.int .i64 0, .int .i64 0, .string ⟨#[]⟩, .slice none 0 0, .slice none 0 0] 28)) hrd
    have HQ := Lib.hid (HRES.out.trans (by rw [List.drop_of_length_le (by omega), pHead]))
    go_enter Tryd.func48, Tryd.ntmps48
    go_wp2_with fail
    refine hnx.mono ?_; rintro e w1 ⟨rfl, hr1, hu1⟩
    have hz := (hu1.block (k := w.heap.size) (by simp) (fun e => hRw (Option.some.inj e))).trans HZ0.out
    obtain ⟨⟨z0, z1, z2, z3, z4⟩, y0, y1, y2, y3, y4⟩ := cellsOf5 hz
    have HZ := Lib.hid hz
    have HR1 := Lib.hid (And.intro hr1 hu1)
    clear hnx h1 hr1 hu1 hz HRES hrd
    go_wp2
    (try simp only [Exit.inBlock, Exit.then])
    refine bodyPost_ret (results_cell_row rfl _ _ w.heap.size 28 _ (0, 0) _ (by rfl) (set5 HZ.out) Tryd.underlying28 rfl (by kernel_rfl)) rfl ?_
    have hU := ((Upd.of_below HB1.out (some R)).trans HR1.out.2).trans_below (below_set5 (c0 := .int .i64 0) (c1 := .int .i64 0) (c2 := .string ⟨#[]⟩) (c3 := .slice none 0 0) (c4 := .slice none 0 0) (Below.refl w.heap.size w1) (Nat.le_refl _))
    exact ⟨nullV 0, none, 0, none, 0, ⟨p, 3, bs.length⟩, rfl, rep_flat 0 0 ⟨#[]⟩ (by omega) (by omega) (Nat.zero_le _) _ _, HH.out.after hU HR1.out.1 (other_set5 hRw), hU, by rw [HQ.out]; exact ⟨rfl, rfl, by decide, Nat.le_refl _⟩⟩
theorem dvalue_all (bs : List UInt8) (hbs : bs.length < 1099511627776) : ∀ (k : Nat), k ≤ 64 → DvalSaid bs k
  | 0, _ => dvalue_step bs hbs 0 (by omega) (fun k' h => by cases h)
  | k + 1, hk => dvalue_step bs hbs (k + 1) hk (fun k' h => by cases h; exact dvalue_all bs hbs k (by omega))
end Go.Proofs.YtjmhoccikbgigaaDoor
namespace Go.Proofs.YtjmhoccikbgigaaDoor
open Go.RowKit
set_option maxRecDepth 20000 in
set_option maxHeartbeats 8000000 in
theorem dfromBytes_c (bs : List UInt8) (hbs : bs.length < 1099511627776) (A : Option Addr) (cap : Nat) (hc : bs.length ≤ cap ∧ cap ≤ maxLen) (w : World) (hl : bs = [] ∨ ∃ G off, A = some ⟨G, off, none⟩ ∧ Lie w G off (bytesV bs)) :
    Calls Tryd.prog 23 #[.slice A bs.length cap] w (FromPost bs w) := by
  have hb0 : Below w.heap.size w (w.alloc (.cells #[.int .i64 0, .int .i64 0, .string ⟨#[]⟩, .slice none 0 0, .slice none 0 0] 28)) := (Below.refl _ _).alloc (Nat.le_refl _) _
  have hl1 : bs = [] ∨ ∃ G off, A = some ⟨G, off, none⟩ ∧ Lie (w.alloc (.cells #[.int .i64 0, .int .i64 0, .string ⟨#[]⟩, .slice none 0 0, .slice none 0 0] 28)) G off (bytesV bs) := by
    rcases hl with h | ⟨G, o, h, h3⟩
    · exact .inl h
    · exact .inr ⟨G, o, h, lie_below h3 hb0⟩
  have hrd := rd_new (T := 66) hc hl1
  have hb1 : Below (w.alloc (.cells #[.int .i64 0, .int .i64 0, .string ⟨#[]⟩, .slice none 0 0, .slice none 0 0] 28)).heap.size (w.alloc (.cells #[.int .i64 0, .int .i64 0, .string ⟨#[]⟩, .slice none 0 0, .slice none 0 0] 28)) ((w.alloc (.cells #[.int .i64 0, .int .i64 0, .string ⟨#[]⟩, .slice none 0 0, .slice none 0 0] 28)).alloc (.cells #[.slice A bs.length cap, .int .i64 0, .int .i64 0, .int .i64 0] 66)) := (Below.refl _ _).alloc (Nat.le_refl _) _
  have hz0 := heap_alloc_new w (.cells #[.int .i64 0, .int .i64 0, .string ⟨#[]⟩, .slice none 0 0, .slice none 0 0] 28)
  have hval := dvalue_all bs hbs 64 (Nat.le_refl _) _ A cap 0 _ hrd 0 (by decide)
  have HB1 := Lib.hid (And.intro hb0 (And.intro hb1 ((hb1.block w.heap.size (by simp)).trans hz0)))
  simp only [World.size_alloc] at hval
  rw [List.drop_zero] at hval
  unfold maxLen at hc
  have hlen : bs.length ≤ 9223372036854775807 := by omega
  have HA1 := Lib.hid (fun (v : JV) => @all_ok bs v)
  have HA2 := Lib.hid (fun (q : List UInt8) (v : JV) => @all_tail bs q v)
  have HA3 := Lib.hid (fun (e pl : Nat) => @all_bad bs e pl)
  clear hrd hb0 hb1 hz0 hl hl1
  generalize pValue bs.length 64 bs = rv at *
  go_enter Tryd.func23, Tryd.ntmps23
  go_wp2_with fail
  refine hval.mono ?_; rintro e w1 ⟨t, tan, tcn, tai, tci, s, rfl, hrep, hr1, hu1, hrs⟩
  have hb3 : Below w1.heap.size w1 (w1.alloc (.cells #[.int .i64 t.kind, .int .i64 t.int, .string t.text, .slice tan t.names.length tcn, .slice tai t.items.length tci] 28)) := (Below.refl _ _).alloc (Nat.le_refl _) _
  have hz := (hu1.block (k := w.heap.size) (by simp; omega) (fun e => by have := Option.some.inj e; omega)).trans HB1.out.2.2
  have hsz1 : w.heap.size + 2 ≤ w1.heap.size := by have := hu1.grown.size; simp only [World.size_alloc] at this; omega
  have hbw : Below w.heap.size w w1 := (HB1.out.1.trans (HB1.out.2.1.mono HB1.out.1.size)).trans (hu1.below (by simp; omega) (fun g hg => by have := Option.some.inj hg; omega))
  have hz3 := (hb3.block w.heap.size (by omega)).trans hz
  have hr3 := hr1.below hb3
  obtain ⟨⟨z0, z1, z2, z3, z4⟩, y0, y1, y2, y3, y4⟩ := cellsOf5 hz3
  obtain ⟨⟨x0, x1, x2, x3, x4⟩, _⟩ := cellsOf5 (heap_alloc_new w1 (.cells #[.int .i64 t.kind, .int .i64 t.int, .string t.text, .slice tan t.names.length tcn, .slice tai t.items.length tci] 28))
  have k1 := hr3.c1
  have k2 := hr3.c2
  have k3 := hr3.c3
  have hbw3 := hbw.trans (hb3.mono hbw.size)
  have HZ := Lib.hid (And.intro hz3 (And.intro hbw3 (And.intro (hrep.below hb3) hr3)))
  have hpos := hr1.pos
  clear hval hz hbw hz3 hb3 hr1 hu1 hr3 hrep hbw3
  cases rv with
  | ok a q =>
    obtain ⟨rfl, rfl, hq1, hq2⟩ := hrs
    have HQ := Lib.hid hq1
    clear hq2
    by_cases hq : q = []
    · subst hq
      have HR := Lib.hid (HA1.out _ rfl)
      simp only [List.length_nil, Nat.sub_zero] at k1 k2 k3 HZ
      clear hq1
      go_wp2
      (try simp only [Exit.inBlock, Exit.then])
      refine bodyPost_ret (results_cell2 rfl _ _ w.heap.size 28 _ (0, 0) _ (by rfl) (set5 HZ.out.1) Tryd.underlying28 rfl (by kernel_rfl)) rfl ?_
      refine ⟨t, tan, tcn, tai, tci, 0, 0, rfl, Rep.kept (fun b hlt hb => ⟨by simp only [World.size_alloc] at hb; omega, other_set5 (by simp only [World.size_alloc] at hb; omega)⟩) _ _ HZ.out.2.2.1, below_set5 HZ.out.2.1 (Nat.le_refl _), ?_⟩
      rw [HR.out]
      exact ⟨rfl, rfl, rfl⟩
    · have HR := Lib.hid (HA2.out _ _ rfl hq)
      have hql : 0 < q.length := List.length_pos_iff.2 hq
      have hap : ((bs.length - q.length : Nat) : Int) < (bs.length : Int) := by omega
      have hfl := dfail_c _ A cap bs ⟨bs.length - q.length, 0, 0⟩ 4 (bs.length - q.length) _ HZ.out.2.2.2
      simp only at k1 k2 k3
      clear hq1 hq
      generalize bs.length - q.length = a at *
      go_wp2_with fail
      refine hfl.mono ?_; rintro e w2 ⟨rfl, hr2, hu2⟩
      have hz4 := (hu2.block (k := w.heap.size) (by simp; omega) (fun e => by have := Option.some.inj e; omega)).trans HZ.out.1
      obtain ⟨⟨q0, q1, q2, q3, q4⟩, p0, p1, p2, p3, p4⟩ := cellsOf5 hz4
      have j2 : w2.cell? ⟨w.heap.size + 1, 2, none⟩ = some (.int .i64 4) := hr2.c2
      have j3 : w2.cell? ⟨w.heap.size + 1, 3, none⟩ = some (.int .i64 (a : Int)) := hr2.c3
      have HZ2 := Lib.hid (And.intro hz4 (HZ.out.2.1.trans (hu2.below (by simp; omega) (fun g hg => by have := Option.some.inj hg; omega))))
      clear hfl hz4 hr2 hu2 z0 z1 z2 z3 z4 y0 y1 y2 y3 y4 x0 x1 x2 x3 x4 k1 k2 k3
      go_wp2
      go_region_law (fail)
      all_goals clear j2 j3 q0 q1 q2 q3 q4 p0 p1 p2 p3 p4
      all_goals go_wp2
      all_goals (try simp only [Exit.inBlock, Exit.then])
      all_goals refine bodyPost_ret (results_cell2 rfl _ _ w.heap.size 28 _ (0, 0) _ (by rfl) (set5d HZ2.out.1) Tryd.underlying28 rfl (by kernel_rfl)) rfl ?_
      all_goals refine ⟨nullV 0, none, 0, none, 0, 4, a, rfl, rep_flat 0 0 ⟨#[]⟩ (by omega) (by omega) (Nat.zero_le _) _ _, (below_set5 HZ2.out.2 (Nat.le_refl _)).drew, ?_⟩
      all_goals rw [HR.out]
      all_goals exact ⟨rfl, rfl, rfl, by decide⟩
  | bad e pl =>
    obtain ⟨h1, h3, he, _⟩ := hrs
    have HR := Lib.hid (HA3.out _ _ rfl)
    rw [h1] at k2
    rw [h3] at k3
    have heb : ((e : Int) == 0) = false := by simp [he]
    have hen : ((e : Int) != 0) = true := by simp only [bne, heb]; rfl
    have HE := Lib.hid he
    have hz4 := HZ.out.1
    have HZ2 := Lib.hid (And.intro hz4 HZ.out.2.1)
    have hlt1 : w.heap.size + 1 < w1.heap.size := by omega
    clear hz4 h1 h3 he x0 x1 x2 x3 x4
    go_wp2
    generalize w1.alloc (.cells #[.int .i64 t.kind, .int .i64 t.int, .string t.text, .slice tan t.names.length tcn, .slice tai t.items.length tci] 28) = w2 at *
    go_region_law (fail)
    all_goals clear k1 k2 k3 z0 z1 z2 z3 z4 y0 y1 y2 y3 y4
    all_goals go_wp2
    all_goals (try simp only [Exit.inBlock, Exit.then])
    all_goals refine bodyPost_ret (results_cell2 rfl _ _ w.heap.size 28 _ (0, 0) _ (by rfl) (set5d HZ2.out.1) Tryd.underlying28 rfl (by kernel_rfl)) rfl ?_
    all_goals refine ⟨nullV 0, none, 0, none, 0, e, pl, rfl, rep_flat 0 0 ⟨#[]⟩ (by omega) (by omega) (Nat.zero_le _) _ _, (below_set5 HZ2.out.2 (Nat.le_refl _)).drew, ?_⟩
    all_goals rw [HR.out]
    all_goals exact ⟨rfl, rfl, rfl, HE.out⟩
end Go.Proofs.YtjmhoccikbgigaaDoor
