/- The walks of some and of moves: asks and byes. Conditions: what the plain law keeps. -/
import Derived.Test.YtkpickojeghppaaDoorWm1
import Derived.Deep.RegionLaw
namespace Go.Proofs.YtkpickojeghppaaDoor
open Go.RowKit
theorem some_c (A : Option Addr) (len cap : Nat) (_ : len ≤ 9223372036854775807) (n : Int) (w : World) : Calls Tryd.prog 72 #[.slice A len cap, .int .i64 n] w fun e w' => e = .returned (.int .i64 (someN len n : Int)) ∧ w = w' := by
  by_cases h0 : n < 0
  · have HE := Lib.hid (show someN len n = len from if_pos (.inl h0))
    go_enter Tryd.func72, Tryd.ntmps72
    go_wp2
    go_ret
    rw [HE.out]
    exact ⟨rfl, rfl⟩
  · by_cases h1 : (len : Int) < n
    · have HE := Lib.hid (show someN len n = len from if_pos (.inr h1))
      go_enter Tryd.func72, Tryd.ntmps72
      go_wp2
      go_ret
      rw [HE.out]
      exact ⟨rfl, rfl⟩
    · have HE := Lib.hid (show (someN len n : Int) = n by unfold someN; rw [if_neg (by omega)]; omega)
      go_enter Tryd.func72, Tryd.ntmps72
      go_wp2
      go_ret
      rw [HE.out]
      exact ⟨rfl, rfl⟩
theorem strTy : SlTy Tryd.prog 85 9 (.string ⟨#[]⟩) 1 16 := ⟨by kernel_rfl, by kernel_rfl, by kernel_rfl, by decide⟩
def MovePost (w0 : World) (P C R : Nat) (t : MS) (e : Ending) (w' : World) : Prop := e = .returned (.bool true) ∧ ∃ V, TriP w0 w' P C R V t
/-- what an ask may come to -/
theorem MInv.askE {sums : Bool} {t : MS} {Y Z H Q : List ByteArray} {sb cb se ce : Bool} (h : MInv sums t Y Z H Q sb cb se ce) (body : ByteArray) : (t.c.ask body).2.2 = 0 ∨ (t.c.ask body).2.2 = 285 ∧ t.ended = true ∨ (t.c.ask body).2.2 ≠ 285 := by
  unfold Cl.ask
  by_cases hst : (t.c.closed || t.c.ending) = true
  · rw [if_pos hst]
    refine .inr (.inl ⟨rfl, ?_⟩)
    rw [← h.cli.ending]
    cases hc : t.c.closed with
    | false => rw [hc] at hst; exact hst
    | true =>
      have hce : ce = true := by rw [← h.cli.closed]; exact hc
      rw [h.cli.ending]
      exact (h.shut (h.ces hce).1).2.2.2.1
  · rw [if_neg hst]
    by_cases hq : 16 ≤ t.c.asked.length
    · rw [if_pos hq]
      exact .inr (.inr (show (5 : Nat) ≠ 285 by decide))
    · rw [if_neg hq]
      by_cases hl : t.c.long body = true
      · rw [if_pos hl]
        exact .inr (.inr (show (1 : Nat) ≠ 285 by decide))
      · rw [if_neg hl]
        have hl2 : t.c.long body = false := by simpa using hl
        have := ask_pack t.c body
        rw [hl2] at this
        exact .inl this
theorem MInv.why {sums : Bool} {t : MS} {Y Z H Q : List ByteArray} {sb cb se ce : Bool} (h : MInv sums t Y Z H Q sb cb se ce) : t.c.why = 0 ∧ t.s.why = 0 := ⟨h.cli.why, h.srv.why⟩
section
variable {sums : Bool} {t : MS} {Y Z H Q : List ByteArray} {sb cb se ce : Bool}
set_option maxRecDepth 100000 in
set_option maxHeartbeats 8000000 in
theorem moves1_c (hi : MInv sums t Y Z H Q sb cb se ce) (body : ByteArray) (n : Int) (hb : body.size ≤ 100000) (hn : t.asked.length + 1 ≤ 1000) (w0 w : World) (P C R : Nat) (V : PV) (h : TriP w0 w P C R V t) :
    Calls Tryd.prog 47 #[.pointer (some ⟨P, 0, none⟩), .agg #[.int .i64 1, .string body, .int .i64 n]] w (MovePost w0 P C R (t.ask body)) := by
  obtain ⟨Q', hi2⟩ := hi.ask body hb hn
  have HWHY := Lib.hid hi2.why
  have hE := hi.askE body
  have hok := hi.okC
  have hup := hi.upLe
  have HT1 := Lib.hid (h.box (.cells #[.int .i64 1, .string body, .int .i64 n] 83))
  obtain ⟨Aa, ca, hva, hca1, hca2, _⟩ := Slab.form (pk_asked HT1.out.pk)
  obtain ⟨vc, vr, vu, vd, va⟩ := V
  obtain rfl : vc = C := HT1.out.vc
  obtain rfl : vr = R := HT1.out.vr
  simp only at hva
  subst hva
  obtain ⟨⟨p0, p1, p2, p3, p4, p5, p6, p7⟩, pf⟩ := pk_cells HT1.out.pk
  have hX := HT1.out.x
  have hPl := HT1.out.pk.ltR
  have HA := Lib.hid (fun (W : World) (hbW : Below (w.alloc (.cells #[.int .i64 1, .string body, .int .i64 n] 83)).heap.size (w.alloc (.cells #[.int .i64 1, .string body, .int .i64 n] 83)) W) => (tAsk (HT1.out.below hbW) hok.1 body (by omega) (by rw [List.length_append, List.length_append] at hup; omega)).mono (R' := fun e w2 => e = .returned (Cl.askV (t.c.ask body)) ∧ Hid (TriV w0 w2 P vc vr ⟨vc, vr, vu, vd, .slice Aa t.asked.length ca⟩ { t with c := (t.c.ask body).1 } w.heap.size (.cells #[.int .i64 1, .string body, .int .i64 n] 83))) (fun e w2 hp => ⟨hp.1, Lib.hid hp.2⟩))
  obtain ⟨xa, hxa⟩ : ∃ x, (t.c.ask body).2.1 = x := ⟨_, rfl⟩
  obtain ⟨xe, hxe⟩ : ∃ x, (t.c.ask body).2.2 = x := ⟨_, rfl⟩
  obtain ⟨c1, hc1⟩ : ∃ x, (t.c.ask body).1 = x := ⟨_, rfl⟩
  have hav : Cl.askV (t.c.ask body) = .tuple #[.int .u32 (xa : Int), .int .i64 (xe : Int)] := by unfold Cl.askV; rw [hxa, hxe]
  have hta : t.ask body = if xe = 0 then { t with c := c1, asked := t.asked ++ [body] } else { t with c := c1 } := by unfold MS.ask; rw [hxe, hc1]
  rw [hav, hc1] at HA
  rw [hxe] at hE
  rw [hta] at HWHY ⊢
  have hN := hi.n
  clear hav hta hxa hxe hc1 hi2 hi h hok hup pf p1 p2 p3 p5 p6 p7
  have hX1 : (w.alloc (.cells #[.int .i64 1, .string body, .int .i64 n] 83)).cell? ⟨w.heap.size, 1, none⟩ = some (.string body) := cell_of_row _ _ _ _ _ _ hX
  clear hX
  by_cases hx0 : xe = 0
  · subst hx0
    rw [if_pos rfl] at HWHY ⊢
    clear hE
    go_enter Tryd.func47, Tryd.ntmps47
    go_wp2
    clear HT1
    generalize w.alloc (.cells #[.int .i64 1, .string body, .int .i64 n] 83) = W1 at *
    generalize w.heap.size = X at *
    go_region_with (go_at_call 38; refine (HA.out _ (by repeat (first | with_reducible exact Below.refl _ _ | with_reducible refine below_drewN ?_ _ | with_reducible refine Below.drew ?_ | with_reducible refine Below.alloc ?_ (by first | (simp; done) | (simp; omega)) _ | with_reducible refine Below.setCell ?_ (by first | (simp; done) | (simp; omega)) _))).mono ?_; rintro ee w2 ⟨rfl, HT2⟩)
    all_goals (
      clear p0 p4 hX1 hPl
      have q4 := (pk_cells HT2.out.pk).1.2.2.2.2.1
      have hPl2 := HT2.out.pk.ltR
      have x1 : w2.cell? ⟨X, 1, none⟩ = some (.string body) := cell_of_row _ _ _ _ _ _ HT2.out.x
      go_wp2_with (go_at_call 11; refine (num_c _ _).mono ?_; rintro ee w' ⟨rfl, rfl⟩)
      have q4a := cell_below (show Below w2.heap.size w2 (w2.alloc (.cells #[.string body] 9)) from (by repeat (first | with_reducible exact Below.refl _ _ | with_reducible refine below_drewN ?_ _ | with_reducible refine Below.drew ?_ | with_reducible refine Below.alloc ?_ (by first | (simp; done) | (simp; omega)) _ | with_reducible refine Below.setCell ?_ (by first | (simp; done) | (simp; omega)) _))) q4
      have q4b := cell_below (show Below w2.heap.size w2 (w2.drew.alloc (.cells #[.string body] 9)) from (by repeat (first | with_reducible exact Below.refl _ _ | with_reducible refine below_drewN ?_ _ | with_reducible refine Below.drew ?_ | with_reducible refine Below.alloc ?_ (by first | (simp; done) | (simp; omega)) _ | with_reducible refine Below.setCell ?_ (by first | (simp; done) | (simp; omega)) _))) q4
      go_region_law (first
        | (refine step_slab strTy 85 (by rfl) _ _ (by rfl) (.slice Aa t.asked.length ca) t.asked.length (strsV t.asked) (by rfl) (Slab.below (pk_asked HT2.out.pk) (by repeat (first | with_reducible exact Below.refl _ _ | with_reducible refine below_drewN ?_ _ | with_reducible refine Below.drew ?_ | with_reducible refine Below.alloc ?_ (by first | (simp; done) | (simp; omega)) _ | with_reducible refine Below.setCell ?_ (by first | (simp; done) | (simp; omega)) _))) (.slice (some ⟨w2.heap.size, 0, none⟩) 1 1) (by rfl) 1 [.string body] (Src.ofSlice _ strTy.slice _ 1 1 _ rfl (World.news_of_block (heap_alloc_new _ _)) (by simp [Value.oneCell'])) (by unfold maxLen; omega) (by omega) ?_; intro v3 w3 hs3 hu3; have HTQ := HT2.out.below (w' := w2.drew.alloc (.cells #[.string body] 9)) (by repeat (first | with_reducible exact Below.refl _ _ | with_reducible refine below_drewN ?_ _ | with_reducible refine Below.drew ?_ | with_reducible refine Below.alloc ?_ (by first | (simp; done) | (simp; omega)) _ | with_reducible refine Below.setCell ?_ (by first | (simp; done) | (simp; omega)) _)); have hbq := (hu3.block HTQ.pk.ltR (HTQ.pk.nR _ (.tail _ (.tail _ (.head _))))).trans HTQ.pk.blk; have r4 : w3.cell? ⟨P, 4, none⟩ = some (.slice Aa t.asked.length ca) := cell_of_row _ _ _ _ _ _ hbq; have e4 : w3.frozen? ⟨P, 4, none⟩ = false := frozen_of_row _ _ _ _ _ hbq; have p0 : w3.cell? ⟨P, 0, none⟩ = some (.pointer (some ⟨vc, 0, none⟩)) := cell_of_row _ _ _ _ _ _ hbq; have p1 : w3.cell? ⟨P, 1, none⟩ = some (.pointer (some ⟨vr, 0, none⟩)) := cell_of_row _ _ _ _ _ _ hbq; have hs3' : Slab w3 1 v3 (t.asked ++ [body]).length (strsV (t.asked ++ [body])) := (by rw [List.length_append, strsV_append]; exact hs3); have HTF := Lib.hid (HTQ.setA ((Turn.refl _ _).upd hu3 (fun g hg => .inl hg)) (fun g hg => (by rcases hu3.own with e | ⟨q, e, hq⟩; exact .inl (e.symm.trans hg); exact .inr (by rw [e] at hg; rw [← Option.some.inj hg]; exact hq))) (t.asked ++ [body]) hs3'); obtain ⟨A3, cap3, hv3, _⟩ := Slab.form hs3; subst hv3; clear hs3 hu3 HTQ hbq hs3'))
      all_goals (
        clear q4 q4a q4b x1 HA
        have HY1 := tWhyC HTF.out
        have HY2 := tWhyS HTF.out
        rw [HWHY.out.1] at HY1
        rw [HWHY.out.2] at HY2
        have HY1 := Lib.hid HY1
        have HY2 := Lib.hid HY2
        go_wp2_with (first
          | (go_at_call 46; refine HY1.out.mono ?_; rintro ee w' ⟨rfl, rfl⟩)
          | (go_at_call 33; refine HY2.out.mono ?_; rintro ee w' ⟨rfl, rfl⟩)
          | (go_at_call 11; refine (num_c _ _).mono ?_; rintro ee w' ⟨rfl, rfl⟩))
        go_ret
        exact ⟨rfl, _, HTF.out.drop⟩))
  · have HX0 := Lib.hid hx0
    rw [if_neg hx0] at HWHY ⊢
    have k0 : ((xe : Int) == 0) = false := by rw [beq_eq_false_iff_ne]; omega
    by_cases hx5 : xe = 285
    · have hend : t.ended = true := by
        rcases hE with e | e | e
        · exact absurd e hx0
        · exact e.2
        · exact absurd hx5 e
      have k5 : ((xe : Int) == 285) = true := by rw [beq_iff_eq]; omega
      clear hE hx0 hx5
      go_enter Tryd.func47, Tryd.ntmps47
      go_wp2
      clear HT1
      generalize w.alloc (.cells #[.int .i64 1, .string body, .int .i64 n] 83) = W1 at *
      generalize w.heap.size = X at *
      go_region_with (go_at_call 38; refine (HA.out _ (by repeat (first | with_reducible exact Below.refl _ _ | with_reducible refine below_drewN ?_ _ | with_reducible refine Below.drew ?_ | with_reducible refine Below.alloc ?_ (by first | (simp; done) | (simp; omega)) _ | with_reducible refine Below.setCell ?_ (by first | (simp; done) | (simp; omega)) _))).mono ?_; rintro ee w2 ⟨rfl, HTF⟩)
      all_goals (
        clear p0 p4 hX1 hPl
        have q7 := (pk_cells HTF.out.pk).1.2.2.2.2.2.2.2
        have q7' : w2.cell? ⟨P, 7, none⟩ = some (.bool true) := by rw [← hend]; exact q7
        clear hend HA q7
        obtain ⟨⟨p0, p1, _⟩, _⟩ := pk_cells HTF.out.pk
        rw [HTF.out.vc] at p0
        rw [HTF.out.vr] at p1
        have HY1 := tWhyC HTF.out
        have HY2 := tWhyS HTF.out
        rw [HWHY.out.1] at HY1
        rw [HWHY.out.2] at HY2
        have HY1 := Lib.hid HY1
        have HY2 := Lib.hid HY2
        go_wp2_with (first
          | (go_at_call 46; refine HY1.out.mono ?_; rintro ee w' ⟨rfl, rfl⟩)
          | (go_at_call 33; refine HY2.out.mono ?_; rintro ee w' ⟨rfl, rfl⟩)
          | (go_at_call 11; refine (num_c _ _).mono ?_; rintro ee w' ⟨rfl, rfl⟩))
        go_ret
        exact ⟨rfl, _, HTF.out.drop⟩)
    · have k5 : ((xe : Int) == 285) = false := by rw [beq_eq_false_iff_ne]; omega
      clear hE hx0 hx5
      go_enter Tryd.func47, Tryd.ntmps47
      go_wp2
      clear HT1
      generalize w.alloc (.cells #[.int .i64 1, .string body, .int .i64 n] 83) = W1 at *
      generalize w.heap.size = X at *
      go_region_with (go_at_call 38; refine (HA.out _ (by repeat (first | with_reducible exact Below.refl _ _ | with_reducible refine below_drewN ?_ _ | with_reducible refine Below.drew ?_ | with_reducible refine Below.alloc ?_ (by first | (simp; done) | (simp; omega)) _ | with_reducible refine Below.setCell ?_ (by first | (simp; done) | (simp; omega)) _))).mono ?_; rintro ee w2 ⟨rfl, HTF⟩)
      all_goals (
        clear p0 p4 hX1 hPl HA
        obtain ⟨⟨p0, p1, _⟩, _⟩ := pk_cells HTF.out.pk
        rw [HTF.out.vc] at p0
        rw [HTF.out.vr] at p1
        have HY1 := tWhyC HTF.out
        have HY2 := tWhyS HTF.out
        rw [HWHY.out.1] at HY1
        rw [HWHY.out.2] at HY2
        have HY1 := Lib.hid HY1
        have HY2 := Lib.hid HY2
        go_wp2_with (first
          | (go_at_call 46; refine HY1.out.mono ?_; rintro ee w' ⟨rfl, rfl⟩)
          | (go_at_call 33; refine HY2.out.mono ?_; rintro ee w' ⟨rfl, rfl⟩)
          | (go_at_call 11; refine (num_c _ _).mono ?_; rintro ee w' ⟨rfl, rfl⟩))
        go_ret
        exact ⟨rfl, _, HTF.out.drop⟩)
end
end Go.Proofs.YtkpickojeghppaaDoor
