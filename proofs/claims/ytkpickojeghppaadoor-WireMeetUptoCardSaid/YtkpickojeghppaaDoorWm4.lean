/- The walk of moves: bytes reach the server. Conditions: what the plain law keeps. -/
import Derived.Test.YtkpickojeghppaaDoorWm3
import Derived.Deep.RegionLaw
import Derived.Deep.RegionHeld3
namespace Go.Proofs.YtkpickojeghppaaDoor
open Go.RowKit
theorem BSlab.hd {w : World} {A : Option Addr} {n cap : Nat} {l : List UInt8} (h : BSlab w (.slice A l.length cap) l) (hn : n ≤ l.length) : BSlab w (.slice A n cap) (l.take n) := by
  have hl : (l.take n).length = n := by rw [List.length_take]; omega
  unfold BSlab at h ⊢
  rw [hl]
  refine ⟨by simp [bytesV]; omega, ?_⟩
  rcases h.2 with ⟨h1, h2⟩ | ⟨g, off, c, he, h1, h2, h3, h4, h5⟩
  · left
    injection h1 with e1 e2 e3
    subst e1; subst e3
    obtain rfl : n = 0 := by omega
    exact ⟨rfl, rfl⟩
  · right
    injection he with e1 e2 e3
    subst e1; subst e3
    refine ⟨g, off, cap, rfl, by omega, h2, h3, ?_, h5⟩
    have := rangeAt_take h4 n
    rwa [bytesV, ← List.map_take] at this
theorem upd_new {w w1 : World} {v v' : Value} (hu : Upd w w1 v.ownBlock v'.ownBlock) : ∀ g, v'.ownBlock = some g → v.ownBlock = some g ∨ w.heap.size ≤ g := fun g hg => by
  rcases hu.own with e | ⟨q, e, hq⟩
  · exact .inl (e.symm.trans hg)
  · rw [e] at hg
    rw [← Option.some.inj hg]
    exact .inr hq
/-- what is left of a slice of bytes, as one value -/
theorem cut_val (A : Option Addr) (cap k : Nat) (u : List UInt8) (hk : k ≤ u.length) (hc : u.length ≤ cap) :
    ∃ (A' : Option Addr) (l' c' : Nat), (∀ W : World, (Instr.slice 28 (.slice A u.length cap) (some (.int .i64 (k : Int))) none none).run Tryd.prog W = .ok (.slice A' l' c') W) ∧ (∀ W : World, BSlab W (.slice A u.length cap) u → BSlab W (.slice A' l' c') (u.drop k)) ∧ ∀ g, (Value.slice A' l' c').ownBlock = some g → (Value.slice A u.length cap).ownBlock = some g := by
  refine ⟨(if cap = k then A else A.map (·.add (k * 1))), u.length - k, cap - k, fun W => ?_, fun W h => ?_, fun g hg => ?_⟩
  · rw [run_slice_l (P := Tryd.prog) (w := W) (t := 28) (a := A) (len := u.length) (cap := cap) (ht := by kernel_rfl) (kl := .i64) (l := (k : Int)) (h0 := by omega) (h1 := by omega), show (sizeOf (Tryd.prog.elem 28)).run Tryd.prog W = .ok 1 W from by kernel_rfl]
    rfl
  · rcases h.2 with ⟨e, h0⟩ | ⟨g, off, c', e, _⟩
    · injection e with e1 e2 e3
      have hz : u.length = 0 := e2
      have hu : u = [] := List.eq_nil_of_length_eq_zero hz
      subst hu
      obtain rfl : k = 0 := by simp at hk; exact hk
      subst e1; subst e3
      exact slab_nil _ _
    · injection e with e1 e2 e3
      subst e1
      by_cases hck : cap = k
      · rw [if_pos hck]
        exact BSlab.tail h hk (.inr (by omega))
      · rw [if_neg hck, Nat.mul_one]
        show BSlab W (.slice (some ((⟨g, off, none⟩ : Addr).add k)) (u.length - k) (cap - k)) (u.drop k)
        rw [add_none]
        exact BSlab.tail h hk (.inl rfl)
  · cases A with
    | none => by_cases hck : cap = k <;> simp [hck, Value.ownBlock] at hg
    | some a =>
      have e : ∀ j, (a.add j).block = a.block := fun j => by unfold Addr.add; split <;> rfl
      by_cases hck : cap = k <;> simp [hck, Value.ownBlock, e] at hg ⊢ <;> exact hg
section
variable {sums : Bool} {t : MS} {Y Z H Q : List ByteArray} {sb cb se ce : Bool}
set_option maxRecDepth 100000 in
set_option maxHeartbeats 8000000 in
theorem moves3_c (hi : MInv sums t Y Z H Q sb cb se ce) (body : ByteArray) (n : Int) (w0 w : World) (P C R : Nat) (V : PV) (h : TriP w0 w P C R V t) :
    Calls Tryd.prog 47 #[.pointer (some ⟨P, 0, none⟩), .agg #[.int .i64 3, .string body, .int .i64 n]] w (MovePost w0 P C R (t.toS n)) := by
  have HT1 := Lib.hid (h.box (.cells #[.int .i64 3, .string body, .int .i64 n] 83))
  obtain ⟨Au, cu, hvu, hcu1, hcu2, _⟩ := Slab.form (pk_up HT1.out.pk)
  obtain ⟨vc, vr, vu, vd, va⟩ := V
  obtain rfl : vc = C := HT1.out.vc
  obtain rfl : vr = R := HT1.out.vr
  simp only at hvu
  subst hvu
  obtain ⟨⟨p0, p1, p2, p3, p4, p5, p6, p7⟩, pf⟩ := pk_cells HT1.out.pk
  have hPl := HT1.out.pk.ltR
  have hX := HT1.out.x
  have hx2 : (w.alloc (.cells #[.int .i64 3, .string body, .int .i64 n] 83)).cell? ⟨w.heap.size, 2, none⟩ = some (.int .i64 n) := cell_of_row _ _ _ _ _ _ hX
  have HOKS := Lib.hid (And.intro hi.okS hi.okC)
  have hup := hi.upLe
  have hsum := hup
  rw [List.length_append, List.length_append] at hsum
  have hdnb := hi.dnLe
  rw [List.length_append, List.length_append] at hdnb
  obtain ⟨u, hu⟩ : ∃ u, t.up ++ t.c.out = u := ⟨_, rfl⟩
  have hul : u.length = t.up.length + t.c.out.length := by rw [← hu, List.length_append]
  obtain ⟨k, hk⟩ : ∃ k, someN u.length n = k := ⟨_, rfl⟩
  obtain ⟨p, hp⟩ : ∃ p, u.take k = p := ⟨_, rfl⟩
  have HP := Lib.hid hp
  have htl : p.length ≤ k := by rw [← hp, List.length_take]; omega
  clear hp
  have hkl : k ≤ u.length := by rw [← hk]; exact someN_le _ _
  have hulb : u.length ≤ 2359296 := by omega
  have HO := Lib.hid (fun (W : World) (hbW : Below (w.alloc (.cells #[.int .i64 3, .string body, .int .i64 n] 83)).heap.size (w.alloc (.cells #[.int .i64 3, .string body, .int .i64 n] 83)) W) => tOutC (HT1.out.below hbW))
  have HU := Lib.hid hu
  have HUL := Lib.hid hul
  have HK := Lib.hid hk
  obtain ⟨H5, Q5, sb5, se5, hi5, _⟩ := hi.toS n (by omega)
  have HWHY := Lib.hid hi5.why
  have hTE : t.toS n = { c := { t.c with out := [] }, s := t.s.feed p, up := u.drop k, down := t.down, asked := t.asked, heard := t.heard, got := t.got, ended := t.ended } := by unfold MS.toS; rw [hu, hk, HP.out]
  rw [hTE] at HWHY ⊢
  clear hTE
  clear hi h hup hul hu hk hX pf p3 p4 p5 p6 p7
  go_enter Tryd.func47, Tryd.ntmps47
  go_wp2
  clear HT1
  generalize w.alloc (.cells #[.int .i64 3, .string body, .int .i64 n] 83) = W1 at *
  generalize w.heap.size = X at *
  go_region_law (first
    | (refine step_slab bytTy 28 (by rfl) _ _ (by rfl) (.slice Au t.up.length cu) t.up.length (bytesV t.up) (by rfl) (pk_up HT2.out.pk) (.slice Ao t.c.out.length co) (by rfl) t.c.out.length (bytesV t.c.out) (src_bslab HS2.out) (by unfold maxLen; omega) (by omega) ?_; intro v3 w3 hs3 hu3; have hs3' : BSlab w3 v3 u := (by rw [← HU.out]; unfold BSlab; rw [bytesV_append, List.length_append]; exact hs3); have hbq := (hu3.block HT2.out.pk.ltR (HT2.out.pk.nR _ (.head _))).trans HT2.out.pk.blk; have r2 : w3.cell? ⟨P, 2, none⟩ = some (.slice Au t.up.length cu) := cell_of_row _ _ _ _ _ _ hbq; have e2 : w3.frozen? ⟨P, 2, none⟩ = false := frozen_of_row _ _ _ _ _ hbq; have HT3 := Lib.hid (HT2.out.setU ((Turn.refl _ _).upd hu3 (fun g hg => .inl hg)) (upd_new hu3) u hs3'); obtain ⟨A3, cap3, hv3, hcp1, hcp2, _⟩ := Slab.form hs3'; subst hv3; have c2 := (pk_cells HT3.out.pk).1.2.2.1; have x2 : (w3.setCell ⟨P, 2, none⟩ (.slice A3 u.length cap3)).cell? ⟨X, 2, none⟩ = some (.int .i64 n) := cell_of_row _ _ 2 _ _ _ HT3.out.x; clear hs3 hu3 hs3' hbq)
    | (go_simp; go_at_call 44; refine (HO.out _ (by repeat (first | with_reducible exact Below.refl _ _ | with_reducible refine below_drewN ?_ _ | with_reducible refine Below.drew ?_ | with_reducible refine Below.alloc ?_ (by first | (simp; done) | (simp; omega)) _ | with_reducible refine Below.setCell ?_ (by first | (simp; done) | (simp; omega)) _))).mono ?_; rintro ee w2 ⟨Ao, co, rfl, HS2, HT2⟩; have q2 := (pk_cells HT2.out.pk).1.2.2.1; have qP := HT2.out.pk.ltR))
  all_goals (
    clear q2 qP p2 p0 p1 hPl hx2 HO
    have HSM := Lib.hid (fun (W : World) => (show Calls Tryd.prog 72 #[.slice A3 u.length cap3, .int .i64 n] W (fun e w' => e = .returned (.int .i64 (k : Int)) ∧ w' = W) from by
      have h := some_c A3 u.length cap3 (by omega) n W
      rw [HK.out] at h
      exact h.mono (fun e w' h => ⟨h.1, h.2.symm⟩)))
    go_wp2
    clear r2 e2
    generalize w3.setCell ⟨P, 2, none⟩ (.slice A3 u.length cap3) = W3 at *
    go_quiet ((go_at_call 72; exact Calls.quiet_of_same (HSM.out _)))
    have HT4 := Lib.hid (HT3.out.below (below_drewN' W3 nq))
    clear c2 x2 HT3
    generalize W3.drewN nq = W4 at *
    obtain ⟨⟨p0, p1, p2, p3, _⟩, pf⟩ := pk_cells HT4.out.pk
    have hPl := HT4.out.pk.ltR
    have f2 := pf 2
    have p2a := cell_below (show Below W4.heap.size W4 (W4.alloc (.cells #[] 5)) from (by repeat (first | with_reducible exact Below.refl _ _ | with_reducible refine below_drewN ?_ _ | with_reducible refine Below.drew ?_ | with_reducible refine Below.alloc ?_ (by first | (simp; done) | (simp; omega)) _ | with_reducible refine Below.setCell ?_ (by first | (simp; done) | (simp; omega)) _))) p2
    have p2b := cell_below (show Below W4.heap.size W4 (W4.drew.alloc (.cells #[] 5)) from (by repeat (first | with_reducible exact Below.refl _ _ | with_reducible refine below_drewN ?_ _ | with_reducible refine Below.drew ?_ | with_reducible refine Below.alloc ?_ (by first | (simp; done) | (simp; omega)) _ | with_reducible refine Below.setCell ?_ (by first | (simp; done) | (simp; omega)) _))) p2
    have hkc : k ≤ cap3 := by omega
    clear pf
    go_wp2
    have K5 : True := trivial
    have K6 : True := trivial
    go_region_held3 (fun W => W.cell? ⟨P, 1, none⟩ = some (.pointer (some ⟨vr, 0, none⟩)) ∧ W.cell? ⟨P, 2, none⟩ = some (.slice A3 u.length cap3))
      (first | (with_reducible refine ⟨cell_below (w := W4) ?_ p1, cell_below (w := W4) ?_ p2⟩; all_goals (repeat (first | with_reducible exact Below.refl _ _ | with_reducible refine below_drewN ?_ _ | with_reducible refine Below.drew ?_ | with_reducible refine Below.alloc ?_ (by first | (simp; done) | (simp; omega)) _ | with_reducible refine Below.setCell ?_ (by first | (simp; done) | (simp; omega)) _)); done) | with_reducible exact K5 | with_reducible exact K6)
      ((first
        | (go_at_call 24; with_reducible refine (HFD.out _ (by repeat (first | with_reducible exact Below.refl _ _ | with_reducible refine below_drewN ?_ _ | with_reducible refine Below.drew ?_ | with_reducible refine Below.alloc ?_ (by first | (simp; done) | (simp; omega)) _ | with_reducible refine Below.setCell ?_ (by first | (simp; done) | (simp; omega)) _))).mono ?_; rintro ee w6 ⟨rfl, HT6⟩; have K6 := And.intro (pk_cells HT6.out.pk).1.2.1 (pk_cells HT6.out.pk).1.2.2.1)
        | (at_builtin; refine wpList_slab bytTy 28 (by rfl) _ _ (by rfl) (.slice (some ⟨W4.heap.size, 0, none⟩) 0 0) 0 [] (by rfl) (slab_lit _ _ rfl) (.slice A3 k cap3) (by rfl) p.length (bytesV p) (src_bslab (Slab.below (show BSlab W4 (.slice A3 k cap3) p by have hh := BSlab.hd (pk_up HT4.out.pk) hkl; rwa [HP.out] at hh) (by repeat (first | with_reducible exact Below.refl _ _ | with_reducible refine below_drewN ?_ _ | with_reducible refine Below.drew ?_ | with_reducible refine Below.alloc ?_ (by first | (simp; done) | (simp; omega)) _ | with_reducible refine Below.setCell ?_ (by first | (simp; done) | (simp; omega)) _)))) (by unfold maxLen; omega) (by omega) ?_; intro v5 w5 hs5 hu5; rw [Nat.zero_add, List.nil_append] at hs5; obtain ⟨hb5, hn5⟩ := copied (w := W4) rfl (show Below W4.heap.size W4 (W4.drew.alloc (.cells #[] 5)) from (by repeat (first | with_reducible exact Below.refl _ _ | with_reducible refine below_drewN ?_ _ | with_reducible refine Below.drew ?_ | with_reducible refine Below.alloc ?_ (by first | (simp; done) | (simp; omega)) _ | with_reducible refine Below.setCell ?_ (by first | (simp; done) | (simp; omega)) _))) (by simp) hu5; have HT5 := Lib.hid (HT4.out.below hb5); have K5 := And.intro (pk_cells HT5.out.pk).1.2.1 (pk_cells HT5.out.pk).1.2.2.1; obtain ⟨A5, cap5, hv5, _⟩ := Slab.form hs5; subst hv5; have HFD := Lib.hid (fun (W : World) (hbW : Below w5.heap.size w5 W) => (tFeedS (HT5.out.below hbW) HOKS.out.1 (.slice A5 p.length cap5) p (src_bslab (Slab.below hs5 hbW)) (by show 24 * t.s.out.length + 131072 * (t.s.inp.length + p.length) ≤ _; omega)).mono (R' := fun e w6 => e = .returned (.tuple #[]) ∧ Hid (TriV w0 w6 P vc vr ⟨vc, vr, .slice A3 u.length cap3, vd, va⟩ { c := { t.c with out := [] }, s := t.s.feed p, up := u, down := t.down, asked := t.asked, heard := t.heard, got := t.got, ended := t.ended } X (.cells #[.int .i64 3, .string body, .int .i64 n] 83))) (fun e w6 hp => ⟨hp.1, Lib.hid hp.2⟩)); clear hs5 hu5 hb5 hn5)
        | (refine step_slab bytTy 28 (by rfl) _ _ (by rfl) (.slice (some ⟨W4.heap.size, 0, none⟩) 0 0) 0 [] (by rfl) (slab_lit _ _ rfl) (.slice A3 k cap3) (by rfl) p.length (bytesV p) (src_bslab (Slab.below (show BSlab W4 (.slice A3 k cap3) p by have hh := BSlab.hd (pk_up HT4.out.pk) hkl; rwa [HP.out] at hh) (by repeat (first | with_reducible exact Below.refl _ _ | with_reducible refine below_drewN ?_ _ | with_reducible refine Below.drew ?_ | with_reducible refine Below.alloc ?_ (by first | (simp; done) | (simp; omega)) _ | with_reducible refine Below.setCell ?_ (by first | (simp; done) | (simp; omega)) _)))) (by unfold maxLen; omega) (by omega) ?_; intro v5 w5 hs5 hu5; rw [Nat.zero_add, List.nil_append] at hs5; obtain ⟨hb5, hn5⟩ := copied (w := W4) rfl (show Below W4.heap.size W4 (W4.drew.alloc (.cells #[] 5)) from (by repeat (first | with_reducible exact Below.refl _ _ | with_reducible refine below_drewN ?_ _ | with_reducible refine Below.drew ?_ | with_reducible refine Below.alloc ?_ (by first | (simp; done) | (simp; omega)) _ | with_reducible refine Below.setCell ?_ (by first | (simp; done) | (simp; omega)) _))) (by simp) hu5; have HT5 := Lib.hid (HT4.out.below hb5); have K5 := And.intro (pk_cells HT5.out.pk).1.2.1 (pk_cells HT5.out.pk).1.2.2.1; obtain ⟨A5, cap5, hv5, _⟩ := Slab.form hs5; subst hv5; have HFD := Lib.hid (fun (W : World) (hbW : Below w5.heap.size w5 W) => (tFeedS (HT5.out.below hbW) HOKS.out.1 (.slice A5 p.length cap5) p (src_bslab (Slab.below hs5 hbW)) (by show 24 * t.s.out.length + 131072 * (t.s.inp.length + p.length) ≤ _; omega)).mono (R' := fun e w6 => e = .returned (.tuple #[]) ∧ Hid (TriV w0 w6 P vc vr ⟨vc, vr, .slice A3 u.length cap3, vd, va⟩ { c := { t.c with out := [] }, s := t.s.feed p, up := u, down := t.down, asked := t.asked, heard := t.heard, got := t.got, ended := t.ended } X (.cells #[.int .i64 3, .string body, .int .i64 n] 83))) (fun e w6 hp => ⟨hp.1, Lib.hid hp.2⟩)); clear hs5 hu5 hb5 hn5)))
    have hPl6 := HT6.out.pk.ltR
    obtain ⟨⟨p0, p1, p2, p3, _⟩, pf⟩ := pk_cells HT6.out.pk
    have f2 := pf 2
    obtain ⟨A7, l7, c7, ks, hs7, ho7⟩ := cut_val A3 cap3 k u hkl hcp1
    have HTF := Lib.hid (show TriV w0 (w6.setCell ⟨P, 2, none⟩ (.slice A7 l7 c7)) P vc vr ⟨vc, vr, .slice A7 l7 c7, vd, va⟩ { c := { t.c with out := [] }, s := t.s.feed p, up := u.drop k, down := t.down, asked := t.asked, heard := t.heard, got := t.got, ended := t.ended } X (.cells #[.int .i64 3, .string body, .int .i64 n] 83) from HT6.out.setU (Turn.refl _ _) (fun g hg => .inl (ho7 g hg)) (u.drop k) (hs7 _ (pk_up HT6.out.pk)))
    clear pf K5 K6 hs7 ho7 HFD
    have HTF2 := HTF
    have HY1 := tWhyC HTF.out
    have HY2 := tWhyS HTF.out
    rw [HWHY.out.1] at HY1
    rw [HWHY.out.2] at HY2
    have HY1 := Lib.hid HY1
    have HY2 := Lib.hid HY2
    go_wp2_with (first
      | (go_at_call 46; refine HY1.out.mono ?_; rintro ee w' ⟨rfl, rfl⟩)
      | (go_at_call 33; refine HY2.out.mono ?_; rintro ee w' ⟨rfl, rfl⟩)
      | (go_at_call 11; refine (num_c _ _).mono ?_; rintro ee w' ⟨rfl, rfl⟩))
    go_ret
    exact ⟨rfl, _, HTF.out.drop⟩)
end
end Go.Proofs.YtkpickojeghppaaDoor
