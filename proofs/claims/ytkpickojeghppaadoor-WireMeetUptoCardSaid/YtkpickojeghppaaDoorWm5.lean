/- The walk of moves: bytes reach the client. Conditions: what the plain law keeps. -/
import Derived.Test.YtkpickojeghppaaDoorWm4
import Derived.StillTailTactics
namespace Go.Proofs.YtkpickojeghppaaDoor
open Go.RowKit
section
variable {sums : Bool} {t : MS} {Y Z H Q : List ByteArray} {sb cb se ce : Bool}
set_option maxRecDepth 100000 in
set_option maxHeartbeats 8000000 in
theorem moves4_c (hi : MInv sums t Y Z H Q sb cb se ce) (body : ByteArray) (n : Int) (w0 w : World) (P C R : Nat) (V : PV) (h : TriP w0 w P C R V t) :
    Calls Tryd.prog 47 #[.pointer (some ⟨P, 0, none⟩), .agg #[.int .i64 4, .string body, .int .i64 n]] w (MovePost w0 P C R (t.toC n)) := by
  have HT1 := Lib.hid (h.box (.cells #[.int .i64 4, .string body, .int .i64 n] 83))
  obtain ⟨Au, cu, hvu, hcu1, hcu2, _⟩ := Slab.form (pk_down HT1.out.pk)
  obtain ⟨vc, vr, vu, vd, va⟩ := V
  obtain rfl : vc = C := HT1.out.vc
  obtain rfl : vr = R := HT1.out.vr
  simp only at hvu
  subst hvu
  obtain ⟨⟨p0, p1, p2, p3, p4, p5, p6, p7⟩, pf⟩ := pk_cells HT1.out.pk
  have hPl := HT1.out.pk.ltR
  have hX := HT1.out.x
  have hx2 : (w.alloc (.cells #[.int .i64 4, .string body, .int .i64 n] 83)).cell? ⟨w.heap.size, 2, none⟩ = some (.int .i64 n) := cell_of_row _ _ _ _ _ _ hX
  have HOKS := Lib.hid (And.intro hi.okS hi.okC)
  have hup := hi.dnLe
  have hsum := hup
  rw [List.length_append, List.length_append] at hsum
  have hdnb := hi.upLe
  rw [List.length_append, List.length_append] at hdnb
  obtain ⟨u, hu⟩ : ∃ u, t.down ++ t.s.out = u := ⟨_, rfl⟩
  have hul : u.length = t.down.length + t.s.out.length := by rw [← hu, List.length_append]
  obtain ⟨k, hk⟩ : ∃ k, someN u.length n = k := ⟨_, rfl⟩
  obtain ⟨p, hp⟩ : ∃ p, u.take k = p := ⟨_, rfl⟩
  have HP := Lib.hid hp
  have htl : p.length ≤ k := by rw [← hp, List.length_take]; omega
  clear hp
  have hkl : k ≤ u.length := by rw [← hk]; exact someN_le _ _
  have hulb : u.length ≤ 2359296 := by omega
  have HO := Lib.hid (fun (W : World) (hbW : Below (w.alloc (.cells #[.int .i64 4, .string body, .int .i64 n] 83)).heap.size (w.alloc (.cells #[.int .i64 4, .string body, .int .i64 n] 83)) W) => tOutS (HT1.out.below hbW))
  have HU := Lib.hid hu
  have HUL := Lib.hid hul
  have HK := Lib.hid hk
  obtain ⟨Z1, Z2, cb5, ce5, hZ, hcm, hi5, _⟩ := hi.toC n (by omega)
  have HWHY := Lib.hid hi5.why
  have hcm2 : (t.c.feed p).came = pairsL (Y.length + 2) Z1 := by
    have h := hcm
    unfold MS.fed at h
    rw [hu, hk, HP.out] at h
    exact h
  have HCM := Lib.hid hcm2
  have hz16 : Z1.length ≤ 16 := by have := hi.h16; rw [hZ, List.length_append] at this; omega
  have HAS := Lib.hid (show t.asked = Y ++ ((Z1 ++ Z2) ++ (H ++ Q)) ∧ t.got = Y.length from ⟨by rw [← hZ]; exact hi.asked, hi.got⟩)
  have HGH := Lib.hid (show t.heard = t.got + (Z1.length + Z2.length) by rw [hi.heard, hi.got, hZ, List.length_append])
  have HBIG := Lib.hid hi.big
  have HN := Lib.hid hi.n
  have hcm0 : t.c.came.length = 0 := by rw [hi.cli.came]; rfl
  clear hi5 hcm hcm2 hZ
  have hTE : t.toC n = { c := { t.c.feed p with came := [] }, s := { t.s with out := [] }, up := t.up, down := u.drop k, asked := t.asked, heard := t.heard, got := t.got + (t.c.feed p).came.length, ended := t.ended } := by unfold MS.toC MS.fed; rw [hu, hk, HP.out]
  rw [hTE] at HWHY ⊢
  clear hTE
  clear hi h hup hul hu hk hX pf p2 p4 p5 p6 p7
  go_enter Tryd.func47, Tryd.ntmps47
  go_wp2
  clear HT1
  generalize w.alloc (.cells #[.int .i64 4, .string body, .int .i64 n] 83) = W1 at *
  generalize w.heap.size = X at *
  go_region_law (first
    | (refine step_slab bytTy 28 (by rfl) _ _ (by rfl) (.slice Au t.down.length cu) t.down.length (bytesV t.down) (by rfl) (pk_down HT2.out.pk) (.slice Ao t.s.out.length co) (by rfl) t.s.out.length (bytesV t.s.out) (src_bslab HS2.out) (by unfold maxLen; omega) (by omega) ?_; intro v3 w3 hs3 hu3; have hs3' : BSlab w3 v3 u := (by rw [← HU.out]; unfold BSlab; rw [bytesV_append, List.length_append]; exact hs3); have hbq := (hu3.block HT2.out.pk.ltR (HT2.out.pk.nR _ (.tail _ (.head _)))).trans HT2.out.pk.blk; have r2 : w3.cell? ⟨P, 3, none⟩ = some (.slice Au t.down.length cu) := cell_of_row _ _ _ _ _ _ hbq; have e2 : w3.frozen? ⟨P, 3, none⟩ = false := frozen_of_row _ _ _ _ _ hbq; have HT3 := Lib.hid (HT2.out.setD ((Turn.refl _ _).upd hu3 (fun g hg => .inl hg)) (upd_new hu3) u hs3'); obtain ⟨A3, cap3, hv3, hcp1, hcp2, _⟩ := Slab.form hs3'; subst hv3; have c2 := (pk_cells HT3.out.pk).1.2.2.2.1; have x2 : (w3.setCell ⟨P, 3, none⟩ (.slice A3 u.length cap3)).cell? ⟨X, 2, none⟩ = some (.int .i64 n) := cell_of_row _ _ 2 _ _ _ HT3.out.x; clear hs3 hu3 hs3' hbq)
    | (go_simp; go_at_call 30; refine (HO.out _ (by repeat (first | with_reducible exact Below.refl _ _ | with_reducible refine below_drewN ?_ _ | with_reducible refine Below.drew ?_ | with_reducible refine Below.alloc ?_ (by first | (simp; done) | (simp; omega)) _ | with_reducible refine Below.setCell ?_ (by first | (simp; done) | (simp; omega)) _))).mono ?_; rintro ee w2 ⟨Ao, co, rfl, HS2, HT2⟩; have q2 := (pk_cells HT2.out.pk).1.2.2.2.1; have qP := HT2.out.pk.ltR))
  all_goals (
    clear q2 qP p3 p0 p1 hPl hx2 HO
    have HSM := Lib.hid (fun (W : World) => (show Calls Tryd.prog 72 #[.slice A3 u.length cap3, .int .i64 n] W (fun e w' => e = .returned (.int .i64 (k : Int)) ∧ w' = W) from by
      have h := some_c A3 u.length cap3 (by omega) n W
      rw [HK.out] at h
      exact h.mono (fun e w' h => ⟨h.1, h.2.symm⟩)))
    go_wp2
    clear r2 e2
    generalize w3.setCell ⟨P, 3, none⟩ (.slice A3 u.length cap3) = W3 at *
    go_quiet ((go_at_call 72; exact Calls.quiet_of_same (HSM.out _)))
    have HT4 := Lib.hid (HT3.out.below (below_drewN' W3 nq))
    clear c2 x2 HT3
    generalize W3.drewN nq = W4 at *
    obtain ⟨⟨p0, p1, p2, p3, _⟩, pf⟩ := pk_cells HT4.out.pk
    have hPl := HT4.out.pk.ltR
    have f2 := pf 3
    have p2a := cell_below (show Below W4.heap.size W4 (W4.alloc (.cells #[] 5)) from (by repeat (first | with_reducible exact Below.refl _ _ | with_reducible refine below_drewN ?_ _ | with_reducible refine Below.drew ?_ | with_reducible refine Below.alloc ?_ (by first | (simp; done) | (simp; omega)) _ | with_reducible refine Below.setCell ?_ (by first | (simp; done) | (simp; omega)) _))) p3
    have p2b := cell_below (show Below W4.heap.size W4 (W4.drew.alloc (.cells #[] 5)) from (by repeat (first | with_reducible exact Below.refl _ _ | with_reducible refine below_drewN ?_ _ | with_reducible refine Below.drew ?_ | with_reducible refine Below.alloc ?_ (by first | (simp; done) | (simp; omega)) _ | with_reducible refine Below.setCell ?_ (by first | (simp; done) | (simp; omega)) _))) p3
    have hkc : k ≤ cap3 := by omega
    clear pf
    go_wp2
    have K5 : True := trivial
    have K6 : True := trivial
    go_region_held3 (fun W => W.cell? ⟨P, 0, none⟩ = some (.pointer (some ⟨vc, 0, none⟩)) ∧ W.cell? ⟨P, 3, none⟩ = some (.slice A3 u.length cap3))
      (first | (with_reducible refine ⟨cell_below (w := W4) ?_ p0, cell_below (w := W4) ?_ p3⟩; all_goals (repeat (first | with_reducible exact Below.refl _ _ | with_reducible refine below_drewN ?_ _ | with_reducible refine Below.drew ?_ | with_reducible refine Below.alloc ?_ (by first | (simp; done) | (simp; omega)) _ | with_reducible refine Below.setCell ?_ (by first | (simp; done) | (simp; omega)) _)); done) | with_reducible exact K5 | with_reducible exact K6)
      ((first
        | (go_at_call 36; with_reducible refine (HFD.out _ (by repeat (first | with_reducible exact Below.refl _ _ | with_reducible refine below_drewN ?_ _ | with_reducible refine Below.drew ?_ | with_reducible refine Below.alloc ?_ (by first | (simp; done) | (simp; omega)) _ | with_reducible refine Below.setCell ?_ (by first | (simp; done) | (simp; omega)) _))).mono ?_; rintro ee w6 ⟨rfl, HT6⟩; have K6 := And.intro (pk_cells HT6.out.pk).1.1 (pk_cells HT6.out.pk).1.2.2.2.1)
        | (at_builtin; refine wpList_slab bytTy 28 (by rfl) _ _ (by rfl) (.slice (some ⟨W4.heap.size, 0, none⟩) 0 0) 0 [] (by rfl) (slab_lit _ _ rfl) (.slice A3 k cap3) (by rfl) p.length (bytesV p) (src_bslab (Slab.below (show BSlab W4 (.slice A3 k cap3) p by have hh := BSlab.hd (pk_down HT4.out.pk) hkl; rwa [HP.out] at hh) (by repeat (first | with_reducible exact Below.refl _ _ | with_reducible refine below_drewN ?_ _ | with_reducible refine Below.drew ?_ | with_reducible refine Below.alloc ?_ (by first | (simp; done) | (simp; omega)) _ | with_reducible refine Below.setCell ?_ (by first | (simp; done) | (simp; omega)) _)))) (by unfold maxLen; omega) (by omega) ?_; intro v5 w5 hs5 hu5; rw [Nat.zero_add, List.nil_append] at hs5; obtain ⟨hb5, hn5⟩ := copied (w := W4) rfl (show Below W4.heap.size W4 (W4.drew.alloc (.cells #[] 5)) from (by repeat (first | with_reducible exact Below.refl _ _ | with_reducible refine below_drewN ?_ _ | with_reducible refine Below.drew ?_ | with_reducible refine Below.alloc ?_ (by first | (simp; done) | (simp; omega)) _ | with_reducible refine Below.setCell ?_ (by first | (simp; done) | (simp; omega)) _))) (by simp) hu5; have HT5 := Lib.hid (HT4.out.below hb5); have K5 := And.intro (pk_cells HT5.out.pk).1.1 (pk_cells HT5.out.pk).1.2.2.2.1; obtain ⟨A5, cap5, hv5, _⟩ := Slab.form hs5; subst hv5; have HFD := Lib.hid (fun (W : World) (hbW : Below w5.heap.size w5 W) => (tFeedC (HT5.out.below hbW) HOKS.out.2.1 A5 cap5 p (BSlab.inn (Slab.below hs5 hbW)) (by show t.c.came.length + (t.c.inp.length + p.length) ≤ _; omega)).mono (R' := fun e w6 => e = .returned (.tuple #[]) ∧ Hid (TriV w0 w6 P vc vr ⟨vc, vr, vu, .slice A3 u.length cap3, va⟩ { c := t.c.feed p, s := { t.s with out := [] }, up := t.up, down := u, asked := t.asked, heard := t.heard, got := t.got, ended := t.ended } X (.cells #[.int .i64 4, .string body, .int .i64 n] 83))) (fun e w6 hp => ⟨hp.1, Lib.hid hp.2⟩)); clear hs5 hu5 hb5 hn5)
        | (refine step_slab bytTy 28 (by rfl) _ _ (by rfl) (.slice (some ⟨W4.heap.size, 0, none⟩) 0 0) 0 [] (by rfl) (slab_lit _ _ rfl) (.slice A3 k cap3) (by rfl) p.length (bytesV p) (src_bslab (Slab.below (show BSlab W4 (.slice A3 k cap3) p by have hh := BSlab.hd (pk_down HT4.out.pk) hkl; rwa [HP.out] at hh) (by repeat (first | with_reducible exact Below.refl _ _ | with_reducible refine below_drewN ?_ _ | with_reducible refine Below.drew ?_ | with_reducible refine Below.alloc ?_ (by first | (simp; done) | (simp; omega)) _ | with_reducible refine Below.setCell ?_ (by first | (simp; done) | (simp; omega)) _)))) (by unfold maxLen; omega) (by omega) ?_; intro v5 w5 hs5 hu5; rw [Nat.zero_add, List.nil_append] at hs5; obtain ⟨hb5, hn5⟩ := copied (w := W4) rfl (show Below W4.heap.size W4 (W4.drew.alloc (.cells #[] 5)) from (by repeat (first | with_reducible exact Below.refl _ _ | with_reducible refine below_drewN ?_ _ | with_reducible refine Below.drew ?_ | with_reducible refine Below.alloc ?_ (by first | (simp; done) | (simp; omega)) _ | with_reducible refine Below.setCell ?_ (by first | (simp; done) | (simp; omega)) _))) (by simp) hu5; have HT5 := Lib.hid (HT4.out.below hb5); have K5 := And.intro (pk_cells HT5.out.pk).1.1 (pk_cells HT5.out.pk).1.2.2.2.1; obtain ⟨A5, cap5, hv5, _⟩ := Slab.form hs5; subst hv5; have HFD := Lib.hid (fun (W : World) (hbW : Below w5.heap.size w5 W) => (tFeedC (HT5.out.below hbW) HOKS.out.2.1 A5 cap5 p (BSlab.inn (Slab.below hs5 hbW)) (by show t.c.came.length + (t.c.inp.length + p.length) ≤ _; omega)).mono (R' := fun e w6 => e = .returned (.tuple #[]) ∧ Hid (TriV w0 w6 P vc vr ⟨vc, vr, vu, .slice A3 u.length cap3, va⟩ { c := t.c.feed p, s := { t.s with out := [] }, up := t.up, down := u, asked := t.asked, heard := t.heard, got := t.got, ended := t.ended } X (.cells #[.int .i64 4, .string body, .int .i64 n] 83))) (fun e w6 hp => ⟨hp.1, Lib.hid hp.2⟩)); clear hs5 hu5 hb5 hn5)))
    have hPl6 := HT6.out.pk.ltR
    obtain ⟨⟨p0, p1, p2, p3, _⟩, pf⟩ := pk_cells HT6.out.pk
    have f2 := pf 3
    obtain ⟨A7, l7, c7, ks, hs7, ho7⟩ := cut_val A3 cap3 k u hkl hcp1
    have HTF := Lib.hid (show TriV w0 (w6.setCell ⟨P, 3, none⟩ (.slice A7 l7 c7)) P vc vr ⟨vc, vr, vu, .slice A7 l7 c7, va⟩ { c := t.c.feed p, s := { t.s with out := [] }, up := t.up, down := u.drop k, asked := t.asked, heard := t.heard, got := t.got, ended := t.ended } X (.cells #[.int .i64 4, .string body, .int .i64 n] 83) from HT6.out.setD (Turn.refl _ _) (fun g hg => .inl (ho7 g hg)) (u.drop k) (hs7 _ (pk_down HT6.out.pk)))
    clear pf K5 K6 hs7 ho7 HFD
    have HL0 := Lib.hid (show TriV w0 (w6.setCell ⟨P, 3, none⟩ (.slice A7 l7 c7)) P vc vr ⟨vc, vr, vu, .slice A7 l7 c7, va⟩ ({ c := { (t.c.feed p) with came := pairsL (Y.length + 2 + 0) (Z1.drop (0)) }, s := { t.s with out := [] }, up := t.up, down := u.drop k, asked := t.asked, heard := t.heard, got := t.got + (0), ended := t.ended } : MS) X (.cells #[.int .i64 4, .string body, .int .i64 n] 83) from by
      have e : ({ (t.c.feed p) with came := pairsL (Y.length + 2 + 0) (Z1.drop 0) } : Cl) = t.c.feed p := by rw [List.drop_zero, Nat.add_zero, ← HCM.out]
      show TriV w0 (w6.setCell ⟨P, 3, none⟩ (.slice A7 l7 c7)) P vc vr ⟨vc, vr, vu, .slice A7 l7 c7, va⟩ ({ c := { (t.c.feed p) with came := pairsL (Y.length + 2 + 0) (Z1.drop (0)) }, s := { t.s with out := [] }, up := t.up, down := u.drop k, asked := t.asked, heard := t.heard, got := t.got + (0), ended := t.ended } : MS) X (.cells #[.int .i64 4, .string body, .int .i64 n] 83)
      rw [e]
      exact HTF.out)
    clear HTF
    go_wp2
    clear f2 p0 p1 p2 p3 hPl6 ks
    generalize w6.setCell ⟨P, 3, none⟩ (.slice A7 l7 c7) = W7 at *
    go_loopg [9, 10, 11, 12] 41 (fun gk i _ _ _ wr => ∃ (j : Nat), j ≤ Z1.length ∧ 40 - j < gk ∧ i = .int .i64 j ∧ Hid (TriV w0 wr P vc vr ⟨vc, vr, vu, .slice A7 l7 c7, va⟩ ({ c := { (t.c.feed p) with came := pairsL (Y.length + 2 + j) (Z1.drop (j)) }, s := { t.s with out := [] }, up := t.up, down := u.drop k, asked := t.asked, heard := t.heard, got := t.got + (j), ended := t.ended } : MS) X (.cells #[.int .i64 4, .string body, .int .i64 n] 83)))
    case atStart => exact ⟨0, Nat.zero_le _, by omega, rfl, HL0⟩
    case round =>
      obtain ⟨j, hj, hgk, rfl, HJ⟩ := hrel
      have HJK := Lib.hid (pk_cells HJ.out.pk)
      have p0 := HJK.out.1.1
      have p1 := HJK.out.1.2.1
      have hPl := HJ.out.pk.ltR
      by_cases hjl : j < Z1.length
      · have hrep : ({ c := { (t.c.feed p) with came := pairsL (Y.length + 2 + j) (Z1.drop (j)) }, s := { t.s with out := [] }, up := t.up, down := u.drop k, asked := t.asked, heard := t.heard, got := t.got + (j), ended := t.ended } : MS).c.reply = ({ (t.c.feed p) with came := pairsL (Y.length + 2 + j + 1) (Z1.drop (j + 1)) }, .tuple #[.int .u32 ((Y.length + 2 + j : Nat) : Int), .string (Z1[j] ++ ⟨#[33]⟩), .bool true]) := by
          show Cl.reply { (t.c.feed p) with came := pairsL (Y.length + 2 + j) (Z1.drop j) } = _
          unfold Cl.reply
          rw [List.drop_eq_getElem_cons hjl]
          rfl
        have e9 : ({ ({ c := { (t.c.feed p) with came := pairsL (Y.length + 2 + j) (Z1.drop (j)) }, s := { t.s with out := [] }, up := t.up, down := u.drop k, asked := t.asked, heard := t.heard, got := t.got + (j), ended := t.ended } : MS) with c := ({ c := { (t.c.feed p) with came := pairsL (Y.length + 2 + j) (Z1.drop (j)) }, s := { t.s with out := [] }, up := t.up, down := u.drop k, asked := t.asked, heard := t.heard, got := t.got + (j), ended := t.ended } : MS).c.reply.1 } : MS) = { c := { (t.c.feed p) with came := pairsL (Y.length + 2 + j + 1) (Z1.drop (j + 1)) }, s := { t.s with out := [] }, up := t.up, down := u.drop k, asked := t.asked, heard := t.heard, got := t.got + j, ended := t.ended } := by rw [hrep]
        have HCL := Lib.hid (show Calls Tryd.prog 42 #[.pointer (some ⟨vc, 0, none⟩)] wr (fun e w' => e = .returned (.tuple #[.int .u32 ((Y.length + 2 + j : Nat) : Int), .string (Z1[j] ++ ⟨#[33]⟩), .bool true]) ∧ Hid (TriV w0 w' P vc vr ⟨vc, vr, vu, .slice A7 l7 c7, va⟩ ({ c := { (t.c.feed p) with came := pairsL (Y.length + 2 + j + 1) (Z1.drop (j + 1)) }, s := { t.s with out := [] }, up := t.up, down := u.drop k, asked := t.asked, heard := t.heard, got := t.got + j, ended := t.ended } : MS) X (.cells #[.int .i64 4, .string body, .int .i64 n] 83))) from (tReply HJ.out).mono (fun e w' hp => ⟨by have h := hp.1; rw [hrep] at h; exact h, Lib.hid (by have h := hp.2; rw [e9] at h; exact h)⟩))
        have hb1 : t.asked[t.got + j]? = some Z1[j] := by
          rw [HAS.out.1, HAS.out.2, List.getElem?_append_right (by omega), show Y.length + j - Y.length = j by omega, List.append_assoc, List.getElem?_append_left (by omega), List.getElem?_eq_getElem hjl]
        have hbz : (Z1[j]).size ≤ 100000 := HBIG.out _ (List.mem_of_getElem? hb1)
        have hgh : ¬ t.heard ≤ t.got + j := by have := HGH.out; omega
        obtain ⟨b, hb⟩ : ∃ b, Z1[j] = b := ⟨_, rfl⟩
        rw [hb] at HCL hb1 hbz
        obtain ⟨xi, hxi⟩ : ∃ x : Nat, Y.length + 2 + j = x := ⟨_, rfl⟩
        rw [hxi] at HCL
        have HXI := Lib.hid hxi
        have HB1 := Lib.hid hb1
        have hlt : t.got + j < t.asked.length := (List.getElem?_eq_some_iff.1 hb1).1
        obtain ⟨g1, hg1⟩ : ∃ x, t.got + j = x := ⟨_, rfl⟩
        have HG1 := Lib.hid hg1
        obtain ⟨N, hNN⟩ : ∃ x, t.asked.length = x := ⟨_, rfl⟩
        have HNN := Lib.hid hNN
        obtain ⟨hd, hhd⟩ : ∃ x, t.heard = x := ⟨_, rfl⟩
        have HHD := Lib.hid hhd
        rw [hg1, hhd] at hgh
        rw [hg1, hNN] at hlt
        have hcat : (9223372036854775807 < b.size + 1) = False := by rw [eq_iff_iff, iff_false]; omega
        have hbb : ((b ++ ⟨#[33]⟩).toList != (b ++ ⟨#[33]⟩).toList) = false := by simp
        have hdd : decide ((hd : Int) ≤ (g1 : Int)) = false := by rw [decide_eq_false_iff_not]; omega
        have hNb := HN.out
        rw [hNN] at hNb
        clear hrep e9 hb1 hb hxi hg1 hNN hhd HJK
        go_wp2_with fail
        refine HCL.out.mono ?_; rintro ee w2 ⟨rfl, HT2⟩
        clear p0 p1 hPl HCL HJ
        obtain ⟨Aa, ca, hva, hca1, hca2, hform⟩ := Slab.form (pk_asked HT2.out.pk)
        simp only at hva
        subst hva
        obtain ⟨G, o, rfl, hgb⟩ : ∃ G o, Aa = some ⟨G, o, none⟩ ∧ w2.cell? ⟨G, o + g1, none⟩ = some (.string b) := by
          rcases hform with ⟨_, h0, _⟩ | ⟨g, off, h1, _, _, h2, _⟩
          · exfalso; have h0' : t.asked.length = 0 := h0; rw [HNN.out] at h0'; omega
          · refine ⟨g, off, h1, h2 g1 _ ?_⟩
            show (t.asked.map Value.string)[g1]? = _
            rw [List.getElem?_map, ← HG1.out, HB1.out]
            rfl
        clear hform
        have HQK := Lib.hid (pk_cells HT2.out.pk)
        have hPl2 := HT2.out.pk.ltR
        have q4 : w2.cell? ⟨P, 4, none⟩ = some (.slice (some ⟨G, o, none⟩) N ca) := by rw [← HNN.out]; exact HQK.out.1.2.2.2.2.1
        have q5 : w2.cell? ⟨P, 5, none⟩ = some (.int .i64 (hd : Int)) := by rw [← HHD.out]; exact HQK.out.1.2.2.2.2.2.1
        have q6 : w2.cell? ⟨P, 6, none⟩ = some (.int .i64 (g1 : Int)) := by rw [← HG1.out]; exact HQK.out.1.2.2.2.2.2.2.1
        have q0 : w2.cell? ⟨P, 0, none⟩ = some (.pointer (some ⟨vc, 0, none⟩)) := HQK.out.1.1
        have q1 : w2.cell? ⟨P, 1, none⟩ = some (.pointer (some ⟨vr, 0, none⟩)) := HQK.out.1.2.1
        have f6 := HQK.out.2 6
        go_wp2
        go_quiet (fail)
        have HT3 := Lib.hid (HT2.out.below (below_drewN' w2 nq))
        go_wp2
        go_roundg (gk - 1)
        case measure => omega
        case rel => exact ⟨j + 1, by omega, by omega, by go_num, Lib.hid (HT3.out.cell (t' := { c := { (t.c.feed p) with came := pairsL (Y.length + 2 + j + 1) (Z1.drop (j + 1)) }, s := { t.s with out := [] }, up := t.up, down := u.drop k, asked := t.asked, heard := t.heard, got := t.got + (j + 1), ended := t.ended }) 6 (.int .i64 ((g1 : Int) + 1)) (by cases HXI.out; rfl) rfl rfl rfl rfl (by rw [← HG1.out]; rfl))⟩
      · have hrep : ({ c := { (t.c.feed p) with came := pairsL (Y.length + 2 + j) (Z1.drop (j)) }, s := { t.s with out := [] }, up := t.up, down := u.drop k, asked := t.asked, heard := t.heard, got := t.got + (j), ended := t.ended } : MS).c.reply = (({ c := { (t.c.feed p) with came := pairsL (Y.length + 2 + j) (Z1.drop (j)) }, s := { t.s with out := [] }, up := t.up, down := u.drop k, asked := t.asked, heard := t.heard, got := t.got + (j), ended := t.ended } : MS).c, .tuple #[.int .u32 0, .string ⟨#[]⟩, .bool false]) := by
          show Cl.reply { (t.c.feed p) with came := pairsL (Y.length + 2 + j) (Z1.drop j) } = _
          unfold Cl.reply
          rw [List.drop_eq_nil_of_le (by omega)]
          rfl
        have hjz : j = Z1.length := by omega
        have eF : ({ c := { (t.c.feed p) with came := pairsL (Y.length + 2 + j) (Z1.drop (j)) }, s := { t.s with out := [] }, up := t.up, down := u.drop k, asked := t.asked, heard := t.heard, got := t.got + (j), ended := t.ended } : MS) = { c := { t.c.feed p with came := [] }, s := { t.s with out := [] }, up := t.up, down := u.drop k, asked := t.asked, heard := t.heard, got := t.got + (t.c.feed p).came.length, ended := t.ended } := by rw [HCM.out, pairsL_len, hjz, List.drop_length]; rfl
        have HCL := Lib.hid (show Calls Tryd.prog 42 #[.pointer (some ⟨vc, 0, none⟩)] wr (fun e w' => e = .returned (.tuple #[.int .u32 0, .string ⟨#[]⟩, .bool false]) ∧ Hid (TriV w0 w' P vc vr ⟨vc, vr, vu, .slice A7 l7 c7, va⟩ ({ c := { t.c.feed p with came := [] }, s := { t.s with out := [] }, up := t.up, down := u.drop k, asked := t.asked, heard := t.heard, got := t.got + (t.c.feed p).came.length, ended := t.ended } : MS) X (.cells #[.int .i64 4, .string body, .int .i64 n] 83))) from (tReply HJ.out).mono (fun e w' hp => ⟨by have h := hp.1; rw [hrep] at h; exact h, Lib.hid (by have h := hp.2; rw [hrep] at h; rw [← eF]; exact h)⟩))
        clear hrep eF HJK
        go_wp2_with fail
        refine HCL.out.mono ?_; rintro ee w2 ⟨rfl, HTF⟩
        clear p0 p1 HCL HJ hjz
        have p0 := (pk_cells HTF.out.pk).1.1
        have p1 := (pk_cells HTF.out.pk).1.2.1
        have HY1 := tWhyC HTF.out
        have HY2 := tWhyS HTF.out
        rw [HWHY.out.1] at HY1
        rw [HWHY.out.2] at HY2
        have HY1 := Lib.hid HY1
        have HY2 := Lib.hid HY2
        go_wp2_with (first
          | (go_at_call 46; refine HY1.out.mono ?_; rintro ee w' ⟨rfl, rfl⟩)
          | (go_at_call 33; refine HY2.out.mono ?_; rintro ee w' ⟨rfl, rfl⟩)
          | (go_at_call 11; refine (num_c _ _).mono ?_; rintro ee w' ⟨rfl, rfl⟩))
        go_ret
        exact ⟨rfl, _, HTF.out.drop⟩)
end
end Go.Proofs.YtkpickojeghppaaDoor
