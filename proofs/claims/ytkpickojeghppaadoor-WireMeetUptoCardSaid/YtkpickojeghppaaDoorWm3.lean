/- The walks of moves: byes, answers, whatever else. Conditions: what the plain law keeps. -/
import Derived.Test.YtkpickojeghppaaDoorWm2
import Derived.Deep.RegionLaw
import Derived.StillTailTactics
namespace Go.Proofs.YtkpickojeghppaaDoor
open Go.RowKit
section
variable {sums : Bool} {t : MS} {Y Z H Q : List ByteArray} {sb cb se ce : Bool}
set_option maxRecDepth 100000 in
set_option maxHeartbeats 8000000 in
theorem moves2_c (hi : MInv sums t Y Z H Q sb cb se ce) (body : ByteArray) (n : Int) (w0 w : World) (P C R : Nat) (V : PV) (h : TriP w0 w P C R V t) :
    Calls Tryd.prog 47 #[.pointer (some ⟨P, 0, none⟩), .agg #[.int .i64 2, .string body, .int .i64 n]] w (MovePost w0 P C R t.bye) := by
  have HT1 := Lib.hid (h.box (.cells #[.int .i64 2, .string body, .int .i64 n] 83))
  obtain ⟨Aa, ca, hva, hca1, hca2, hform⟩ := Slab.form (pk_asked HT1.out.pk)
  obtain ⟨vc, vr, vu, vd, va⟩ := V
  obtain rfl : vc = C := HT1.out.vc
  obtain rfl : vr = R := HT1.out.vr
  simp only at hva
  subst hva
  obtain ⟨⟨p0, p1, p2, p3, p4, p5, p6, p7⟩, pf⟩ := pk_cells HT1.out.pk
  have hPl := HT1.out.pk.ltR
  have HWHY := Lib.hid hi.bye.why
  have hok := hi.okC
  have hup := hi.upLe
  have HA := Lib.hid ((tBye HT1.out hok.1 (by rw [List.length_append, List.length_append] at hup; omega)).mono (R' := fun e w2 => e = .returned (.int .i64 (t.c.part.2 : Int)) ∧ Hid (TriV w0 w2 P vc vr ⟨vc, vr, vu, vd, .slice Aa t.asked.length ca⟩ { t with c := t.c.part.1 } w.heap.size (.cells #[.int .i64 2, .string body, .int .i64 n] 83))) (fun e w2 hp => ⟨hp.1, Lib.hid hp.2⟩))
  obtain ⟨xe, hxe⟩ : ∃ x, t.c.part.2 = x := ⟨_, rfl⟩
  rw [hxe] at HA
  clear hxe hi h hok hup pf p1 p2 p3 p4 p5 p6 p7 hform HT1
  go_enter Tryd.func47, Tryd.ntmps47
  go_wp2_with fail
  refine HA.out.mono ?_; rintro ee w2 ⟨rfl, HT2⟩
  clear p0 hPl HA
  obtain ⟨⟨q0, q1, _, _, _, _, _, q7⟩, qf⟩ := pk_cells HT2.out.pk
  have f7 := qf 7
  have hPl2 := HT2.out.pk.ltR
  have HTF := Lib.hid (HT2.out.cell (t' := t.bye) 7 (.bool true) rfl rfl rfl rfl rfl rfl)
  have p0 : w2.cell? ⟨P, 0, none⟩ = some (.pointer (some ⟨vc, 0, none⟩)) := q0
  have p1 : w2.cell? ⟨P, 1, none⟩ = some (.pointer (some ⟨vr, 0, none⟩)) := q1
  clear qf q0 q1
  have HY1 := tWhyC HTF.out
  have HY2 := tWhyS HTF.out
  rw [HWHY.out.1] at HY1
  rw [HWHY.out.2] at HY2
  have HY1 := Lib.hid HY1
  have HY2 := Lib.hid HY2
  go_wp2_with (first
    | (go_at_call 46; refine HY1.out.mono ?_; rintro ee w' ⟨rfl, rfl⟩)
    | (go_at_call 33; refine HY2.out.mono ?_; rintro ee w' ⟨rfl, rfl⟩)
    | (go_at_call 11; refine (num_c _ _).mono ?_; rintro ee w' ⟨rfl, rfl⟩))
  go_ret
  exact ⟨rfl, _, HTF.out.drop⟩
set_option maxRecDepth 100000 in
set_option maxHeartbeats 8000000 in
theorem moves0_c (hi : MInv sums t Y Z H Q sb cb se ce) (kind : Int) (hk : kind ≠ 1 ∧ kind ≠ 2 ∧ kind ≠ 3 ∧ kind ≠ 4 ∧ kind ≠ 5) (body : ByteArray) (n : Int) (w0 w : World) (P C R : Nat) (V : PV) (h : TriP w0 w P C R V t) :
    Calls Tryd.prog 47 #[.pointer (some ⟨P, 0, none⟩), .agg #[.int .i64 kind, .string body, .int .i64 n]] w (MovePost w0 P C R t) := by
  have HT1 := Lib.hid (h.box (.cells #[.int .i64 kind, .string body, .int .i64 n] 83))
  obtain ⟨Aa, ca, hva, hca1, hca2, hform⟩ := Slab.form (pk_asked HT1.out.pk)
  obtain ⟨vc, vr, vu, vd, va⟩ := V
  obtain rfl : vc = C := HT1.out.vc
  obtain rfl : vr = R := HT1.out.vr
  simp only at hva
  subst hva
  obtain ⟨⟨p0, p1, p2, p3, p4, p5, p6, p7⟩, pf⟩ := pk_cells HT1.out.pk
  have hPl := HT1.out.pk.ltR
  have HWHY := Lib.hid hi.why
  have k1 : (kind == 1) = false := by rw [beq_eq_false_iff_ne]; exact hk.1
  have k2 : (kind == 2) = false := by rw [beq_eq_false_iff_ne]; exact hk.2.1
  have k3 : (kind == 3) = false := by rw [beq_eq_false_iff_ne]; exact hk.2.2.1
  have k4 : (kind == 4) = false := by rw [beq_eq_false_iff_ne]; exact hk.2.2.2.1
  have k5 : (kind == 5) = false := by rw [beq_eq_false_iff_ne]; exact hk.2.2.2.2
  have HTF := HT1
  clear hi h hk pf p2 p3 p4 p5 p6 p7 hform HT1
  go_enter Tryd.func47, Tryd.ntmps47
  have HY1 := tWhyC HTF.out
  have HY2 := tWhyS HTF.out
  rw [HWHY.out.1] at HY1
  rw [HWHY.out.2] at HY2
  have HY1 := Lib.hid HY1
  have HY2 := Lib.hid HY2
  go_wp2_with (first
    | (go_at_call 46; refine HY1.out.mono ?_; rintro ee w' ⟨rfl, rfl⟩)
    | (go_at_call 33; refine HY2.out.mono ?_; rintro ee w' ⟨rfl, rfl⟩)
    | (go_at_call 11; refine (num_c _ _).mono ?_; rintro ee w' ⟨rfl, rfl⟩))
  go_ret
  exact ⟨rfl, _, HTF.out.drop⟩
set_option maxRecDepth 100000 in
set_option maxHeartbeats 8000000 in
theorem moves5n_c (hi : MInv sums t Y Z [] Q sb cb se ce) (body : ByteArray) (n : Int) (w0 w : World) (P C R : Nat) (V : PV) (h : TriP w0 w P C R V t) :
    Calls Tryd.prog 47 #[.pointer (some ⟨P, 0, none⟩), .agg #[.int .i64 5, .string body, .int .i64 n]] w (MovePost w0 P C R t.answer) := by
  have HT1 := Lib.hid (h.box (.cells #[.int .i64 5, .string body, .int .i64 n] 83))
  obtain ⟨Aa, ca, hva, hca1, hca2, hform⟩ := Slab.form (pk_asked HT1.out.pk)
  obtain ⟨vc, vr, vu, vd, va⟩ := V
  obtain rfl : vc = C := HT1.out.vc
  obtain rfl : vr = R := HT1.out.vr
  simp only at hva
  subst hva
  obtain ⟨⟨p0, p1, p2, p3, p4, p5, p6, p7⟩, pf⟩ := pk_cells HT1.out.pk
  have hPl := HT1.out.pk.ltR
  obtain ⟨i1, i2, i3⟩ := hi.idle
  have hok := hi.okS
  have HA := Lib.hid ((tNext HT1.out (by have := hok.held; omega)).mono (R' := fun e w2 => e = .returned (.tuple #[.int .u32 0, .string ⟨#[]⟩, .bool false]) ∧ Hid (TriV w0 w2 P vc vr ⟨vc, vr, vu, vd, .slice Aa t.asked.length ca⟩ t w.heap.size (.cells #[.int .i64 5, .string body, .int .i64 n] 83))) (fun e w2 hp => ⟨by rw [← i3]; exact hp.1, Lib.hid (by have := hp.2; rw [i2] at this; exact this)⟩))
  rw [i1]
  clear hi h hok i1 i2 i3 pf p2 p3 p4 p5 p6 p7 hform HT1
  go_enter Tryd.func47, Tryd.ntmps47
  go_wp2_with fail
  refine HA.out.mono ?_; rintro ee w2 ⟨rfl, HTF⟩
  clear p0 p1 hPl HA
  go_wp2
  go_ret
  exact ⟨rfl, _, HTF.out.drop⟩
set_option maxRecDepth 100000 in
set_option maxHeartbeats 8000000 in
theorem moves5_c {b : ByteArray} (hi : MInv sums t Y Z (b :: H) Q sb cb se ce) (body : ByteArray) (n : Int) (w0 w : World) (P C R : Nat) (V : PV) (h : TriP w0 w P C R V t) :
    Calls Tryd.prog 47 #[.pointer (some ⟨P, 0, none⟩), .agg #[.int .i64 5, .string body, .int .i64 n]] w (MovePost w0 P C R t.answer) := by
  have HT1 := Lib.hid (h.box (.cells #[.int .i64 5, .string body, .int .i64 n] 83))
  obtain ⟨Aa, ca, hva, hca1, hca2, hform⟩ := Slab.form (pk_asked HT1.out.pk)
  obtain ⟨vc, vr, vu, vd, va⟩ := V
  obtain rfl : vc = C := HT1.out.vc
  obtain rfl : vr = R := HT1.out.vr
  simp only at hva
  subst hva
  obtain ⟨⟨p0, p1, p2, p3, p4, p5, p6, p7⟩, pf⟩ := pk_cells HT1.out.pk
  have hPl := HT1.out.pk.ltR
  obtain ⟨i1, i2, i3, i4, i5, i6⟩ := hi.answer
  have HWHY := Lib.hid i1.why
  have hok := hi.okS
  have hdn := hi.dnLe
  have hN := hi.n
  have hhl : t.heard < t.asked.length := by
    rcases Nat.lt_or_ge t.heard t.asked.length with e | e
    · exact e
    · rw [List.getElem?_eq_none e] at i5; cases i5
  obtain ⟨G, o, rfl, hG⟩ : ∃ G o, Aa = some ⟨G, o, none⟩ ∧ (w.alloc (.cells #[.int .i64 5, .string body, .int .i64 n] 83)).rangeAt G o (strsV t.asked) := by
    rcases hform with ⟨_, h0, _⟩ | ⟨g, off, h1, _, _, h2, _⟩
    · omega
    · exact ⟨g, off, h1, h2⟩
  have hok2 := next_ok hok
  have hno : t.s.next.out = t.s.out := by unfold Sv.next; split <;> rfl
  have HA := Lib.hid ((tNext HT1.out (by have := hok.held; omega)).mono (R' := fun e w2 => e = .returned (.tuple #[.int .u32 ((Y.length + Z.length + 2 : Nat) : Int), .string b, .bool true]) ∧ Hid (TriV w0 w2 P vc vr ⟨vc, vr, vu, vd, .slice (some ⟨G, o, none⟩) t.asked.length ca⟩ { t with s := t.s.next } w.heap.size (.cells #[.int .i64 5, .string body, .int .i64 n] 83))) (fun e w2 hp => ⟨by rw [← i2]; exact hp.1, Lib.hid hp.2⟩))
  have HB := Lib.hid (fun (w2 : World) (h2 : TriV w0 w2 P vc vr ⟨vc, vr, vu, vd, .slice (some ⟨G, o, none⟩) t.asked.length ca⟩ { t with s := t.s.next } w.heap.size (.cells #[.int .i64 5, .string body, .int .i64 n] 83)) (W : World) (hbW : Below w2.heap.size w2 W) => (show Calls Tryd.prog 28 #[.pointer (some ⟨vr, 0, none⟩), .string (b ++ ⟨#[33]⟩)] W _ from (tAnswer (h2.below hbW) hok2 (b ++ bang) (by omega) (by show t.s.next.out.length ≤ _; rw [hno]; rw [List.length_append, List.length_append] at hdn; omega)).mono (R' := fun e w3 => e = .returned (.int .i64 0) ∧ Hid (TriV w0 w3 P vc vr ⟨vc, vr, vu, vd, .slice (some ⟨G, o, none⟩) t.asked.length ca⟩ { t with s := (t.s.next.answer (b ++ bang)).1 } w.heap.size (.cells #[.int .i64 5, .string body, .int .i64 n] 83))) (fun e w3 hp => ⟨by have := hp.1; rw [show (({ t with s := t.s.next } : MS).s.answer (b ++ bang)).2 = 0 from i3] at this; exact this, Lib.hid hp.2⟩)))
  obtain ⟨xi, hxi⟩ : ∃ x : Nat, Y.length + Z.length + 2 = x := ⟨_, rfl⟩
  rw [hxi] at HA
  have HI4 := Lib.hid i4
  rw [i4] at HWHY ⊢
  obtain ⟨hd, hhd⟩ : ∃ x, t.heard = x := ⟨_, rfl⟩
  have HHD := Lib.hid hhd
  obtain ⟨N, hNN⟩ : ∃ x, t.asked.length = x := ⟨_, rfl⟩
  have HNN := Lib.hid hNN
  rw [hNN] at HA HB hN hhl
  rw [hhd] at hhl i5
  have HI5 := Lib.hid i5
  have hbz : b.size ≤ 100000 := by rw [bang_size] at i6; omega
  have hcat : (9223372036854775807 < b.size + 1) = False := by rw [eq_iff_iff, iff_false]; omega
  have hbb : (b.toList != b.toList) = false := by simp
  have hbb2 : (b.toList == b.toList) = true := by simp
  have hdl : ¬ N ≤ hd := by omega
  have hdd : decide ((N : Int) ≤ (hd : Int)) = false := by rw [decide_eq_false_iff_not]; omega
  clear hi h hok hok2 hno i1 i2 i3 i4 i5 hxi pf p2 p3 p5 p6 p7 hform HT1 hG hdn hhd hNN p4 hca1 hca2
  go_enter Tryd.func47, Tryd.ntmps47
  go_wp2_with fail
  refine HA.out.mono ?_; rintro ee w2 ⟨rfl, HT2⟩
  clear p0 p1 hPl HA
  obtain ⟨⟨q0, q1, _, _, q4, q5, _, _⟩, qf⟩ := pk_cells HT2.out.pk
  have q4' : w2.cell? ⟨P, 4, none⟩ = some (.slice (some ⟨G, o, none⟩) N ca) := q4
  have q5' : w2.cell? ⟨P, 5, none⟩ = some (.int .i64 (hd : Int)) := by rw [← HHD.out]; exact q5
  have q1' : w2.cell? ⟨P, 1, none⟩ = some (.pointer (some ⟨vr, 0, none⟩)) := q1
  have hgb : w2.cell? ⟨G, o + hd, none⟩ = some (.string b) := by
    have hs := pk_asked HT2.out.pk
    rcases hs.2 with ⟨e, _⟩ | ⟨g, off, c', e, _, _, _, hr, _⟩
    · cases e
    · injection e with e1 e2 e3
      injection e1 with e1
      injection e1 with e1 e4
      subst e1; subst e4
      refine hr hd _ ?_
      show (t.asked.map Value.string)[hd]? = _
      rw [List.getElem?_map, HI5.out]
      rfl
  have hPl2 := HT2.out.pk.ltR
  clear qf q0 q1 q4 q5
  go_wp2
  go_still_tail 31, (by kernel_rfl)
  change wpList _ _ _ _ _ w2.drew
  go_wp2_with (first
    | (go_at_call 28; refine (HB.out w2 HT2.out _ (by repeat (first | with_reducible exact Below.refl _ _ | with_reducible refine below_drewN ?_ _ | with_reducible refine Below.drew ?_ | with_reducible refine Below.alloc ?_ (by first | (simp; done) | (simp; omega)) _ | with_reducible refine Below.setCell ?_ (by first | (simp; done) | (simp; omega)) _))).mono ?_; rintro ee w3 ⟨rfl, HT3⟩; have hk3 := pk_cells HT3.out.pk; have p0 : w3.cell? ⟨P, 0, none⟩ = some (.pointer (some ⟨vc, 0, none⟩)) := hk3.1.1; have p1 : w3.cell? ⟨P, 1, none⟩ = some (.pointer (some ⟨vr, 0, none⟩)) := hk3.1.2.1; have p5 : w3.cell? ⟨P, 5, none⟩ = some (.int .i64 (hd : Int)) := (by rw [← HHD.out]; exact hk3.1.2.2.2.2.2.1); have f5 := hk3.2 5; have hPl3 := HT3.out.pk.ltR; have HTF := Lib.hid (HT3.out.cell (t' := { t with s := (t.s.next.answer (b ++ bang)).1, heard := t.heard + 1 }) 5 (.int .i64 ((hd : Int) + 1)) rfl rfl rfl rfl rfl (by rw [← HHD.out]; rfl)); have HY1 := tWhyC HTF.out; have HY2 := tWhyS HTF.out; rw [show (t.s.next.answer (b ++ bang)).1.why = 0 from HWHY.out.2] at HY2; rw [show t.c.why = 0 from HWHY.out.1] at HY1; have HY1 := Lib.hid HY1; have HY2 := Lib.hid HY2; clear hk3)
    | (go_at_call 46; refine HY1.out.mono ?_; rintro ee w' ⟨rfl, rfl⟩)
    | (go_at_call 33; refine HY2.out.mono ?_; rintro ee w' ⟨rfl, rfl⟩)
    | (go_at_call 11; refine (num_c _ _).mono ?_; rintro ee w' ⟨rfl, rfl⟩))
  go_ret
  exact ⟨rfl, _, HTF.out.drop⟩
end
end Go.Proofs.YtkpickojeghppaaDoor
