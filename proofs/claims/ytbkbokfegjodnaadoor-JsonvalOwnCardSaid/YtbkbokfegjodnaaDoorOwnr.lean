/- The walks of list, object, value, Parse: each list that they read is a row of its own. Conditions: what the laws name. -/
import Derived.Test.YtbkbokfegjodnaaDoorOwnk
import Derived.Test.YtbkbokfegjodnaaDoorRda
import Derived.Test.YtbkbokfegjodnaaDoorPnum
import Derived.Test.YtbkbokfegjodnaaDoorPtext
import Derived.Test.YtbkbokfegjodnaaDoorMemory
namespace Go.Proofs.YtbkbokfegjodnaaDoor
open Go.RowKit
/-- what stands for a value that was read -/
def valGO (w : World) (t : JV) (v : Value) (w' : World) : Prop :=
  ∃ an cn ai ci, v = .agg #[.int .i64 t.kind, .int .i64 t.int, .string t.text, .slice an t.names.length cn, .slice ai t.items.length ci] ∧ RepO w' (fun b => w.heap.size ≤ b) t [.int .i64 t.kind, .int .i64 t.int, .string t.text, .slice an t.names.length cn, .slice ai t.items.length ci]
def JvalSaidO (s : ByteArray) (k : Nat) : Prop := ∀ (R p : Nat) (w : World), 4 ≤ R → SrAt w R s ⟨p, 0, 0⟩ → Lib.Utf8Tabs 0 1 w → ErrV w → ∀ (d : Int), d = 64 - k →
    Calls Tryd.prog 43 #[.pointer (some ⟨R, 0, none⟩), .int .i64 d] w (PJ R s w (p + 1) (valGO w) (jval s.size k (s.data.toList.drop p)))
theorem empty_lenO (l : List JV) : ((l.length : Int) == 0) = l.isEmpty := by
  cases l with
  | nil => rfl
  | cons t r => rw [beq_eq_false_iff_ne.2 (by simp; omega)]; rfl
set_option maxRecDepth 20000 in
set_option maxHeartbeats 8000000 in
theorem list_cO (s : ByteArray) (hs : s.size < 1099511627776) (k : Nat) (hk : k < 64) (ih : JvalSaidO s k) (R : Nat) (hR : 4 ≤ R) (p : Nat) (c0 : UInt8) (l : List UInt8) (hl : s.data.toList.drop p = c0 :: l) (w : World) (h : SrAt w R s ⟨p, 0, 0⟩) (hT : Lib.Utf8Tabs 0 1 w) (hE : ErrV w) (d : Int) (hd : d = 63 - k) :
    Calls Tryd.prog 65 #[.pointer (some ⟨R, 0, none⟩), .int .i64 d] w (PJ R s w (p + 1) (valGO w) (jitems s.size (jval s.size k) false (l.length + 1) l [] [])) := by
  subst hd
  obtain ⟨hp, hd1, hlp⟩ := drop_parts hl
  have hb1 : Below w.heap.size w (w.alloc (.cells #[.int .i64 0, .int .i64 0, .string ⟨#[]⟩, .slice none 0 0, .slice none 0 0] 28)) := (Below.refl _ _).alloc (Nat.le_refl _) _
  have hrd := h.below hb1
  have HH := Lib.hid h
  have HB1 := Lib.hid hb1
  have HIH := Lib.hid ih
  have HT1 := Lib.hid (tabs_upd hT (Upd.of_below hb1 (some R)) (by omega))
  have HE1 := Lib.hid (hE.below hb1)
  have hz0 := heap_alloc_new w (.cells #[.int .i64 0, .int .i64 0, .string ⟨#[]⟩, .slice none 0 0, .slice none 0 0] 28)
  have HZ0 := Lib.hid hz0
  have hRw : R < w.heap.size := h.lt
  obtain ⟨res, hres⟩ : ∃ res, jitems s.size (jval s.size k) false (l.length + 1) l [] [] = res := ⟨_, rfl⟩
  rw [hres]
  have hlq : (s.data.toList.drop (p + 1)).length = s.size - (p + 1) := by rw [List.length_drop, Array.length_toList]; rfl
  rw [← hd1] at hres
  have HRES := Lib.hid hres
  clear hres h hb1 ih hz0 hl hT hE hd1
  generalize hw1 : (w.alloc (.cells #[.int .i64 0, .int .i64 0, .string ⟨#[]⟩, .slice none 0 0, .slice none 0 0] 28)) = w1 at *
  have hs1 : w1.heap.size = w.heap.size + 1 := by rw [← hw1]; simp
  have HS1 := Lib.hid hs1
  have START := Lib.hid (show Itko w1 R s ⟨p, 0, 0⟩ w1.heap.size 5 [] [] (.slice none 0 0) (.slice none 0 0) [] ⟨p, 0, 0⟩ ((w1.alloc (.cells #[.int .i64 5, .int .i64 0, .string ⟨#[]⟩, .slice none 0 0, .slice none 0 0] 28))) from by
    have hbS : Below w1.heap.size w1 ((w1.alloc (.cells #[.int .i64 5, .int .i64 0, .string ⟨#[]⟩, .slice none 0 0, .slice none 0 0] 28))) := (Below.refl _ _).alloc (Nat.le_refl _) _
    have hzS : ((w1.alloc (.cells #[.int .i64 5, .int .i64 0, .string ⟨#[]⟩, .slice none 0 0, .slice none 0 0] 28))).heap[w1.heap.size]? = some (.cells #[.int .i64 5, .int .i64 0, .string ⟨#[]⟩, .slice none 0 0, .slice none 0 0] 28 (0, 0)) := heap_alloc_new w1 _
    exact ⟨hrd, hrd.below hbS, Upd.of_below hbS _, Nat.le_refl _, hzS, row_nil _ _ _, row_nil _ _ _, fun g hg => (by cases hg), fun g hg => (by cases hg), repsO_nil _ _⟩)
  have START2 := Lib.hid (START.out.move (Upd.of_setCell ((w1.alloc (.cells #[.int .i64 5, .int .i64 0, .string ⟨#[]⟩, .slice none 0 0, .slice none 0 0] 28))) ⟨R, 1, none⟩ (.int .i64 ((p : Int) + 1))) (START.out.rd.one rfl hp))
  have h1 := START.out.rd.c1
  have f1 := START.out.rd.f1
  simp only at h1
  clear hrd START
  subst hw1
  have hst := START2.out
  rw [World.setCell_alloc_past _ R 1 _ (by simp; omega), World.setCell_alloc_past _ R 1 _ hRw] at hst
  have START3 := Lib.hid hst
  clear hst START2
  go_enter Tryd.func65, Tryd.ntmps65
  go_wp2
  simp only [World.size_alloc] at START3 HS1
  clear h1 f1
  go_loopg [] (s.size + 1) (fun gk wr => ∃ (q f : Nat) (is : List JV) (iv : Value) (xs : List Value), Hid (Itko (w.alloc (.cells #[.int .i64 0, .int .i64 0, .string ⟨#[]⟩, .slice none 0 0, .slice none 0 0] 28)) R s ⟨p, 0, 0⟩ (w.heap.size + 1) 5 [] is (.slice none 0 0) iv xs ⟨q, 0, 0⟩ wr) ∧ is.length + p + 1 ≤ q ∧ q ≤ s.size ∧ s.size - q < gk ∧ s.size - q < f ∧ Hid (jitems s.size (jval s.size k) false f (s.data.toList.drop q) [] is = res))
  case atStart => exact ⟨p + 1, (s.data.toList.drop (p + 1)).length + 1, [], _, [], START3, by simp, hp, by omega, by rw [hlq]; omega, HRES⟩
  case round =>
    clear START3 HRES
    obtain ⟨q, f, is, iv, xs, HI, hiq, hq, hgk, hfu, HJ⟩ := hrel
    obtain ⟨f, rfl⟩ : ∃ f', f = f' + 1 := ⟨f - 1, by omega⟩
    obtain ⟨ai, ci, rfl, _⟩ := HI.out.irow.form
    have hmo := more_c R s q is.isEmpty 93 (by omega) wr HI.out.rd
    have hJ := HJ.out
    rw [jitems] at hJ
    obtain ⟨⟨c0', c1', c2', c3', c4'⟩, -⟩ := cellsOf5 HI.out.blk
    have hlb := empty_lenO is
    clear HJ
    cases hm : jmore s.size is.isEmpty 93 (s.data.toList.drop q) with
    | bad er pl =>
      rw [hm] at hmo
      have HJ2 := Lib.hid (show JR.bad er pl = res from by simp only [Bool.false_eq_true, if_false] at hJ; rw [hm] at hJ; exact hJ)
      clear hJ hm
      go_wp2_with fail
      refine hmo.mono ?_; rintro e w2 ⟨rfl, ⟨q2, hq2⟩, hu⟩
      have HQ := Lib.hid (And.intro hq2 (HI.out.upd.trans hu))
      clear hmo hq2 hu
      unfold noV
      go_wp2
      exact ⟨rfl, pj_bad HJ2.out HQ.out.1 ((Upd.of_below HB1.out (some R)).trans HQ.out.2)⟩
    | ok b r2 =>
      rw [hm] at hmo
      simp only [Bool.false_eq_true, if_false] at hJ
      rw [hm] at hJ
      clear hm
      cases b with
      | false =>
        have HJ2 := Lib.hid (show JR.ok (.mk 5 0 ⟨#[]⟩ [] is) r2 = res from hJ)
        clear hJ
        go_wp2_with fail
        refine hmo.mono ?_; rintro e w2 ⟨q2, v, rfl, rfl, hr2, hpq2, hqs2, hsr2, hu2⟩
        have HI2 := Lib.hid (HI.out.move hu2 hsr2)
        have HR2 := Lib.hid hr2
        clear hmo hsr2 hu2 hr2 c0' c1' c2' c3' c4' HI
        have hRne : R ≠ w.heap.size := by omega
        have hz := (HI2.out.upd.block (k := w.heap.size) (by simp) (fun e => hRne (Option.some.inj e))).trans HZ0.out
        obtain ⟨⟨z0, z1, z2, z3, z4⟩, y0, y1, y2, y3, y4⟩ := cellsOf5 hz
        obtain ⟨⟨c0, c1, c2, c3, c4⟩, -⟩ := cellsOf5 HI2.out.blk
        obtain ⟨an, cn, ai2, ci2, hn, hv, hrep⟩ := HI2.out.done (by omega)
        injection hn with e1 e2 e3
        injection hv with e4 e5 e6
        subst e1; subst e3; subst e4; subst e6
        clear e2 e5
        have HREP := Lib.hid hrep
        have HZ := Lib.hid hz
        clear hz hrep
        go_wp2
        (try simp only [Exit.inBlock, Exit.then])
        refine bodyPost_ret (results_cell_row rfl _ _ w.heap.size 28 _ (0, 0) _ (by rfl) (set5 HZ.out) Tryd.underlying28 rfl (by kernel_rfl)) rfl ?_
        have hU := ((Upd.of_below HB1.out (some R)).trans HI2.out.upd).trans_below (below_set5 (c0 := .int .i64 5) (c1 := .int .i64 0) (c2 := .string ⟨#[]⟩) (c3 := .slice none 0 0) (c4 := .slice ai is.length ci) (Below.refl w.heap.size w2) (Nat.le_refl _))
        exact pj_ok (a := .mk 5 0 ⟨#[]⟩ [] is) (q := q2) (by rw [← HR2.out]; exact HJ2.out) ⟨none, 0, ai, ci, rfl, RepO.kept (fun b hlt hb => ⟨by have := hb.1; simp only [World.size_alloc] at this; omega, other_set5 (by have := hb.1; simp only [World.size_alloc] at this; omega)⟩) _ _ HREP.out⟩ (by omega) (HI2.out.rd.after (other_set5 hRne)) hU
      | true =>
        go_wp2_with fail
        refine hmo.mono ?_; rintro e w2 ⟨q2, v, rfl, rfl, hr2, hpq2, hqs2, hsr2, hu2⟩
        have HI2 := Lib.hid (HI.out.move hu2 hsr2)
        clear hmo hsr2 hu2 c0' c1' c2' c3' c4' HI
        rw [hr2] at hJ
        clear hr2
        have hdr := Lib.hid (Below.drew (Below.refl w2.heap.size w2))
        have HId := Lib.hid (HI2.out.below hdr.out)
        have hcall := fun (d' : Int) (hd' : d' = 64 - k) => HIH.out R q2 w2.drew hR HId.out.rd (tabs_upd HT1.out HId.out.upd (by omega)) (HE1.out.upd HId.out.upd (by omega)) d' hd'
        obtain ⟨⟨b0, b1, b2, b3, b4⟩, g0, g1, g2, g3, g4⟩ := cellsOf5 HI2.out.blk
        have hiV : Value.ownBlock (.slice ai is.length ci) ≠ some (w.heap.size + 1) := fun e => (HI2.out.fi _ e).2 rfl
        have hVR : R ≠ w.heap.size + 1 := by omega
        have hwd : wrap64 (63 - (k : Int) + 1) = 63 - (k : Int) + 1 := by unfold wrap64; omega
        cases hjv : jval s.size k (s.data.toList.drop q2) with
        | bad er pl =>
          rw [hjv] at hJ hcall
          have HJ2 := Lib.hid (show JR.bad er pl = res from hJ)
          clear hJ hjv
          go_wp2
          go_region_law (first
            | (go_simp; go_at_call 43; refine (hcall _ (by simp [IntKind.wrap, IntKind.signed, IntKind.bits]; omega)).mono ?_; rintro e wv ⟨rfl, ⟨q4, hq4⟩, hu4⟩; have HQ := Lib.hid (And.intro hq4 (HId.out.upd.trans hu4)); clear hq4 hu4; unfold noV; refine wpAny_out (P := Tryd.prog) ⟨#[], []⟩ wv ?_))
          all_goals exact ⟨rfl, pj_bad HJ2.out HQ.out.1 ((Upd.of_below HB1.out (some R)).trans HQ.out.2)⟩
        | ok t r4 =>
          rw [hjv] at hJ hcall
          have HJ2 := Lib.hid (show jitems s.size (jval s.size k) false f r4 [] (is ++ [t]) = res from hJ)
          clear hJ hjv
          go_wp2
          go_region_law (first
            | (refine step_app valTy (by rfl) _ _ (by rfl) (.slice ai is.length ci) is.length xs (by rfl) (HIv.out.irow.below ((Below.refl _ _).alloc (Nat.le_refl _) _)) (some ⟨wv.heap.size, 0, none⟩) 1 1 [.int .i64 t.kind, .int .i64 t.int, .string t.text, .slice tan t.names.length tcn, .slice tai t.items.length tci] (by rfl) (by rfl) (by simp) (fun a ha => by cases ha; exact World.news_of_block (heap_alloc_new wv _)) (by simp [Value.oneCell']) (by unfold maxLen; omega) (by omega) ?_;
               intro iv' w3 hrow hu3; have hat := HIv.out.at ((Below.refl _ _).alloc (Nat.le_refl _) _) hu3 hiV; obtain ⟨⟨_, _, _, _, e43⟩, _, _, _, _, f43⟩ := cellsOf5 hat; clear hat;
               have HI3 := Lib.hid (HIv.out.item HId.out HUV.out hrepv ((Below.refl _ _).alloc (Nat.le_refl _) _) hrow hu3); obtain ⟨g9, c9, hv9, _⟩ := hrow.form; subst hv9; clear hrow hu3 hrepv)
            | (go_simp; go_at_call 43; refine (hcall _ (by simp [IntKind.wrap, IntKind.signed, IntKind.bits]; omega)).mono ?_; rintro e wv ⟨q4, vv, rfl, ⟨tan, tcn, tai, tci, rfl, hrepv⟩, hr4, hpq4, hqs4, hsr4, hu4⟩; have HIv := Lib.hid (HId.out.move hu4 hsr4); have HUV := Lib.hid hu4; have HR4 := Lib.hid hr4; have e41 := (cellsOf5 HIv.out.blk).1.2.2.2.2; have e42 := cell_below ((Below.refl wv.heap.size wv).alloc (Nat.le_refl _) (.cells #[.int .i64 t.kind, .int .i64 t.int, .string t.text, .slice tan t.names.length tcn, .slice tai t.items.length tci] 28)) e41; clear hsr4 hu4 hr4))
          all_goals clear e41 e42 e43 f43 b0 b1 b2 b3 b4 g0 g1 g2 g3 g4 hcall
          all_goals go_wp2
          all_goals go_roundg (gk - 1)
          all_goals first | omega | exact ⟨q4, f, is ++ [t], _, _, HI3, by rw [List.length_append]; simp only [List.length_cons, List.length_nil]; omega, hqs4, by omega, by omega, by rw [← HR4.out]; exact HJ2⟩
end Go.Proofs.YtbkbokfegjodnaaDoor
namespace Go.Proofs.YtbkbokfegjodnaaDoor
open Go.RowKit
theorem m_ltO {S q q7 q9 g : Nat} (h1 : S - q < g) (h2 : q + 1 ≤ q7) (h3 : q7 + 1 ≤ q9) (h4 : q9 ≤ S) : S - q9 < g - 1 := by omega
theorem m_lt2O {S q q7 q9 f : Nat} (h1 : S - q < f + 1) (h2 : q + 1 ≤ q7) (h3 : q7 + 1 ≤ q9) (h4 : q9 ≤ S) : S - q9 < f := by omega
set_option maxRecDepth 20000 in
set_option maxHeartbeats 8000000 in
theorem object_cO (s : ByteArray) (hs : s.size < 1099511627776) (k : Nat) (hk : k < 64) (ih : JvalSaidO s k) (R : Nat) (hR : 4 ≤ R) (p : Nat) (c0 : UInt8) (l : List UInt8) (hl : s.data.toList.drop p = c0 :: l) (w : World) (h : SrAt w R s ⟨p, 0, 0⟩) (hT : Lib.Utf8Tabs 0 1 w) (hE : ErrV w) (d : Int) (hd : d = 63 - k) :
    Calls Tryd.prog 66 #[.pointer (some ⟨R, 0, none⟩), .int .i64 d] w (PJ R s w (p + 1) (valGO w) (jitems s.size (jval s.size k) true (l.length + 1) l [] [])) := by
  subst hd
  obtain ⟨hp, hd1, hlp⟩ := drop_parts hl
  have hb1 : Below w.heap.size w (w.alloc (.cells #[.int .i64 0, .int .i64 0, .string ⟨#[]⟩, .slice none 0 0, .slice none 0 0] 28)) := (Below.refl _ _).alloc (Nat.le_refl _) _
  have hrd := h.below hb1
  have HH := Lib.hid h
  have HB1 := Lib.hid hb1
  have HIH := Lib.hid ih
  have HT1 := Lib.hid (tabs_upd hT (Upd.of_below hb1 (some R)) (by omega))
  have HE1 := Lib.hid (hE.below hb1)
  have hz0 := heap_alloc_new w (.cells #[.int .i64 0, .int .i64 0, .string ⟨#[]⟩, .slice none 0 0, .slice none 0 0] 28)
  have HZ0 := Lib.hid hz0
  have hRw : R < w.heap.size := h.lt
  obtain ⟨res, hres⟩ : ∃ res, jitems s.size (jval s.size k) true (l.length + 1) l [] [] = res := ⟨_, rfl⟩
  rw [hres]
  have hlq : (s.data.toList.drop (p + 1)).length = s.size - (p + 1) := by rw [List.length_drop, Array.length_toList]; rfl
  rw [← hd1] at hres
  have HRES := Lib.hid hres
  clear hres h hb1 ih hz0 hl hT hE hd1
  generalize hw1 : (w.alloc (.cells #[.int .i64 0, .int .i64 0, .string ⟨#[]⟩, .slice none 0 0, .slice none 0 0] 28)) = w1 at *
  have hs1 : w1.heap.size = w.heap.size + 1 := by rw [← hw1]; simp
  have HS1 := Lib.hid hs1
  have START := Lib.hid (show Itjo w1 R s ⟨p, 0, 0⟩ w1.heap.size (w1.heap.size + 1) 6 [] [] [] (.slice none 0 0) (.slice none 0 0) [] ⟨p, 0, 0⟩ ((w1.alloc (.cells #[.int .i64 6, .int .i64 0, .string ⟨#[]⟩, .slice none 0 0, .slice none 0 0] 28)).alloc (.map #[] 0)) from by
    have hbS : Below w1.heap.size w1 (w1.alloc (.cells #[.int .i64 6, .int .i64 0, .string ⟨#[]⟩, .slice none 0 0, .slice none 0 0] 28)) := (Below.refl _ _).alloc (Nat.le_refl _) _
    have hzS : (w1.alloc (.cells #[.int .i64 6, .int .i64 0, .string ⟨#[]⟩, .slice none 0 0, .slice none 0 0] 28)).heap[w1.heap.size]? = some (.cells #[.int .i64 6, .int .i64 0, .string ⟨#[]⟩, .slice none 0 0, .slice none 0 0] 28 (0, 0)) := heap_alloc_new w1 _
    have hsS : (w1.alloc (.cells #[.int .i64 6, .int .i64 0, .string ⟨#[]⟩, .slice none 0 0, .slice none 0 0] 28)).heap.size = w1.heap.size + 1 := by simp
    have hbM : Below (w1.alloc (.cells #[.int .i64 6, .int .i64 0, .string ⟨#[]⟩, .slice none 0 0, .slice none 0 0] 28)).heap.size (w1.alloc (.cells #[.int .i64 6, .int .i64 0, .string ⟨#[]⟩, .slice none 0 0, .slice none 0 0] 28)) ((w1.alloc (.cells #[.int .i64 6, .int .i64 0, .string ⟨#[]⟩, .slice none 0 0, .slice none 0 0] 28)).alloc (.map #[] 0)) := (Below.refl _ _).alloc (Nat.le_refl _) _
    have hbA := hbS.trans (hbM.mono hbS.size)
    have hsn := seen_new (w1.alloc (.cells #[.int .i64 6, .int .i64 0, .string ⟨#[]⟩, .slice none 0 0, .slice none 0 0] 28))
    rw [hsS] at hsn
    exact ⟨hrd, hrd.below hbA, Upd.of_below hbA _, ⟨Nat.le_refl _, by omega, by omega⟩, (hbM.block _ (by omega)).trans hzS, hsn, row_nil _ _ _, row_nil _ _ _, fun g hg => (by cases hg), fun g hg => (by cases hg), repsO_nil _ _⟩)
  have START2 := Lib.hid (START.out.move (Upd.of_setCell ((w1.alloc (.cells #[.int .i64 6, .int .i64 0, .string ⟨#[]⟩, .slice none 0 0, .slice none 0 0] 28)).alloc (.map #[] 0)) ⟨R, 1, none⟩ (.int .i64 ((p : Int) + 1))) (START.out.rd.one rfl hp))
  have h1 := START.out.rd.c1
  have f1 := START.out.rd.f1
  simp only at h1
  have hmm := @run_makeMap Tryd.prog
  clear hrd START
  subst hw1
  go_enter Tryd.func66, Tryd.ntmps66
  go_wp2
  simp only [World.size_alloc] at START2 HS1
  clear h1 f1
  go_loopg [] (s.size + 1) (fun gk wr => ∃ (q f : Nat) (ns : List ByteArray) (is : List JV) (nv iv : Value) (xs : List Value), Hid (Itjo (w.alloc (.cells #[.int .i64 0, .int .i64 0, .string ⟨#[]⟩, .slice none 0 0, .slice none 0 0] 28)) R s ⟨p, 0, 0⟩ (w.heap.size + 1) (w.heap.size + 1 + 1) 6 ns ns is nv iv xs ⟨q, 0, 0⟩ wr) ∧ ns.length = is.length ∧ is.length + p + 1 ≤ q ∧ q ≤ s.size ∧ s.size - q < gk ∧ s.size - q < f ∧ Hid (jitems s.size (jval s.size k) true f (s.data.toList.drop q) ns is = res))
  case atStart => exact ⟨p + 1, (s.data.toList.drop (p + 1)).length + 1, [], [], _, _, [], START2, rfl, by simp, hp, by omega, by rw [hlq]; omega, HRES⟩
  case round =>
    clear START2 HRES hmm
    obtain ⟨q, f, ns, is, nv, iv, xs, HI, hnl, hiq, hq, hgk, hfu, HJ⟩ := hrel
    obtain ⟨f, rfl⟩ : ∃ f', f = f' + 1 := ⟨f - 1, by omega⟩
    obtain ⟨na, nc, rfl, _⟩ := HI.out.nrow.form
    have hmo := more_c R s q is.isEmpty 125 (by omega) wr HI.out.rd
    have hJ := HJ.out
    rw [jitems] at hJ
    obtain ⟨⟨c0', c1', c2', c3', c4'⟩, -⟩ := cellsOf5 HI.out.blk
    have hlb : ((ns.length : Int) == 0) = is.isEmpty := by rw [hnl]; exact empty_lenO is
    have hnl1 : ns.length ≤ is.length := by omega
    have hnl2 : is.length ≤ ns.length := by omega
    clear HJ hnl
    cases hm : jmore s.size is.isEmpty 125 (s.data.toList.drop q) with
    | bad er pl =>
      rw [hm] at hmo
      have HJ2 := Lib.hid (show JR.bad er pl = res from by simp only [if_true] at hJ; rw [hm] at hJ; exact hJ)
      clear hJ hm
      go_wp2_with fail
      refine hmo.mono ?_; rintro e w2 ⟨rfl, ⟨q2, hq2⟩, hu⟩
      have HQ := Lib.hid (And.intro hq2 (HI.out.upd.trans hu))
      clear hmo hq2 hu
      unfold noV
      go_wp2
      exact ⟨rfl, pj_bad HJ2.out HQ.out.1 ((Upd.of_below HB1.out (some R)).trans HQ.out.2)⟩
    | ok b r2 =>
      rw [hm] at hmo
      simp only [if_true] at hJ
      rw [hm] at hJ
      clear hm
      cases b with
      | false =>
        have HJ2 := Lib.hid (show JR.ok (.mk 6 0 ⟨#[]⟩ ns is) r2 = res from hJ)
        clear hJ
        go_wp2_with fail
        refine hmo.mono ?_; rintro e w2 ⟨q2, v, rfl, rfl, hr2, hpq2, hqs2, hsr2, hu2⟩
        have HI2 := Lib.hid (HI.out.move hu2 hsr2)
        have HR2 := Lib.hid hr2
        clear hmo hsr2 hu2 hr2 c0' c1' c2' c3' c4' HI
        have hRne : R ≠ w.heap.size := by omega
        have hz := (HI2.out.upd.block (k := w.heap.size) (by simp) (fun e => hRne (Option.some.inj e))).trans HZ0.out
        obtain ⟨⟨z0, z1, z2, z3, z4⟩, y0, y1, y2, y3, y4⟩ := cellsOf5 hz
        obtain ⟨⟨c0, c1, c2, c3, c4⟩, -⟩ := cellsOf5 HI2.out.blk
        obtain ⟨an, cn, ai2, ci2, hn, rfl, hrep⟩ := HI2.out.done (by omega)
        injection hn with e1 e2 e3
        subst e1; subst e3
        clear e2
        have HREP := Lib.hid hrep
        have HZ := Lib.hid hz
        clear hz hrep
        go_wp2
        (try simp only [Exit.inBlock, Exit.then])
        refine bodyPost_ret (results_cell_row rfl _ _ w.heap.size 28 _ (0, 0) _ (by rfl) (set5 HZ.out) Tryd.underlying28 rfl (by kernel_rfl)) rfl ?_
        have hU := ((Upd.of_below HB1.out (some R)).trans HI2.out.upd).trans_below (below_set5 (c0 := .int .i64 6) (c1 := .int .i64 0) (c2 := .string ⟨#[]⟩) (c3 := .slice na ns.length nc) (c4 := .slice ai2 is.length ci2) (Below.refl w.heap.size w2) (Nat.le_refl _))
        exact pj_ok (a := .mk 6 0 ⟨#[]⟩ ns is) (q := q2) (by rw [← HR2.out]; exact HJ2.out) ⟨na, nc, ai2, ci2, rfl, RepO.kept (fun b hlt hb => ⟨by have := hb.1; simp only [World.size_alloc] at this; omega, other_set5 (by have := hb.1; simp only [World.size_alloc] at this; omega)⟩) _ _ HREP.out⟩ (by omega) (HI2.out.rd.after (other_set5 hRne)) hU
      | true =>
        go_wp2_with fail
        refine hmo.mono ?_; rintro e w2 ⟨q2, v, rfl, rfl, hr2, hpq2, hqs2, hsr2, hu2⟩
        have HI2 := Lib.hid (HI.out.move hu2 hsr2)
        clear hmo hsr2 hu2 c0' c1' c2' c3' c4' HI hlb
        rw [hr2] at hJ
        clear hr2
        obtain ⟨l2, hl2⟩ : ∃ x, s.data.toList.drop q2 = x := ⟨_, rfl⟩
        rw [hl2] at hJ
        cases l2 with
        | nil =>
          have HJ2 := Lib.hid (show JR.bad 3 s.size = res from hJ)
          have hpk := peek_e R s q2 hl2 w2 HI2.out.rd
          clear hJ hl2
          go_wp2_with fail
          refine hpk.mono ?_; rintro e w3 ⟨rfl, hqx, hu⟩
          have HQ := Lib.hid (And.intro hqx (HI2.out.upd.trans hu))
          clear hpk hqx hu
          unfold noV
          go_wp2
          exact ⟨rfl, pj_bad HJ2.out HQ.out.1 ((Upd.of_below HB1.out (some R)).trans HQ.out.2)⟩
        | cons c r =>
          obtain ⟨hq3, hd3, hl3⟩ := drop_parts hl2
          rw [jname, hl3] at hJ
          have hpk := peek_l R s q2 c r hl2 w2 HI2.out.rd
          by_cases n34 : c = 34
          · rw [if_pos n34] at hJ
            subst n34
            go_wp2_with fail
            refine hpk.mono ?_; rintro e w3 ⟨rfl, m, rfl⟩
            have HI3 := Lib.hid (HI2.out.below (below_drewN' w2 m))
            clear hpk HI2
            generalize w2.drewN m = W3 at *
            have htx := text_c R (by omega) s q2 34 r hl2 (by omega) W3 HI3.out.rd (tabs_upd HT1.out HI3.out.upd (by omega))
            have h1 := HI3.out.rd.c1
            simp only at h1
            cases hjt : jtext s.size (r.length + 1) r [] with
            | bad er pl =>
              rw [hjt] at htx hJ
              have HJ2 := Lib.hid (show JR.bad er pl = res from hJ)
              clear hJ hjt hl2
              go_wp2_with fail
              refine htx.mono ?_; rintro e w4 ⟨rfl, ⟨qx, hqx⟩, hu⟩
              have HQ := Lib.hid (And.intro hqx (HI3.out.upd.trans hu))
              clear htx hqx hu
              unfold noV
              go_wp2
              exact ⟨rfl, pj_bad HJ2.out HQ.out.1 ((Upd.of_below HB1.out (some R)).trans HQ.out.2)⟩
            | ok x r3 =>
              rw [hjt] at htx hJ
              clear hjt hl2
              go_wp2_with fail
              refine htx.mono ?_; rintro e w4 ⟨q4, v, rfl, ⟨rfl, hxl⟩, hr4, hpq4, hqs4, hsr4, hu4⟩
              have HI4 := Lib.hid (HI3.out.move hu4 hsr4)
              have HR4 := Lib.hid hr4
              clear htx hsr4 hu4 hr4 HI3 h1
              have hXs : (⟨x.toArray⟩ : ByteArray).size = x.length := by show x.toArray.size = _; simp
              have hXl : (⟨x.toArray⟩ : ByteArray).size ≤ maxLen := by rw [hXs]; unfold maxLen; omega
              clear hXs
              generalize (⟨x.toArray⟩ : ByteArray) = X at *
              obtain ⟨c2, hlook, hc0, hc1, hc2⟩ := HI4.out.seen.look X hXl
              by_cases hcp : 0 < c2
              · have hB : hasB ns X = true := by rw [← hc2]; simpa using hcp
                have HJ2 := Lib.hid (show JR.bad 16 q2 = res from by simp only [hB, if_true] at hJ; exact hJ)
                have hfl := pfail_c R s ⟨q4, 0, 0⟩ 16 q2 w4 HI4.out.rd
                clear hJ hB hc2
                go_wp2_with fail
                refine hfl.mono ?_; rintro e w5 ⟨rfl, hqx, hu⟩
                have HQ := Lib.hid (And.intro hqx (HI4.out.upd.trans hu))
                clear hfl hqx hu
                unfold noV
                go_wp2
                exact ⟨rfl, pj_bad HJ2.out HQ.out.1 ((Upd.of_below HB1.out (some R)).trans HQ.out.2)⟩
              · have hB : hasB ns X = false := by rw [← hc2]; simpa using hcp
                simp only [hB, Bool.false_eq_true, if_false] at hJ
                clear hB hc2
                go_wp2_with (at_mapUpdate; refine wpList_seen rfl _ _ _ rfl rfl HI4.out.seen X c2 rfl hXl _ rfl (by first | rfl | (unfold wrap64; omega)) hlook (by omega) ?_; intro wm hsm hum; have HIm := Lib.hid (HI4.out.mark hsm hum); clear hsm hum hlook)
                have hbl := blanks_c R s q4 (by omega) wm HIm.out.rd
                go_wp2_with fail
                refine hbl.mono ?_; rintro e w5 ⟨rfl, q5, hpq5, hqs5, hdq5, hsr5, hu5⟩
                have HI5 := Lib.hid (HIm.out.move hu5 hsr5)
                rw [HR4.out, ← hdq5] at hJ
                clear hbl hsr5 hu5 hdq5 HIm HI4 hc0 hc1 hcp
                obtain ⟨l5, hl5⟩ : ∃ x, s.data.toList.drop q5 = x := ⟨_, rfl⟩
                rw [hl5] at hJ
                cases l5 with
                | nil =>
                  have HJ2 := Lib.hid (show JR.bad 3 s.size = res from hJ)
                  have hpk := peek_e R s q5 hl5 w5 HI5.out.rd
                  clear hJ hl5
                  go_wp2_with fail
                  refine hpk.mono ?_; rintro e w6 ⟨rfl, hqx, hu⟩
                  have HQ := Lib.hid (And.intro hqx (HI5.out.upd.trans hu))
                  clear hpk hqx hu
                  unfold noV
                  go_wp2
                  exact ⟨rfl, pj_bad HJ2.out HQ.out.1 ((Upd.of_below HB1.out (some R)).trans HQ.out.2)⟩
                | cons c5 r5 =>
                  obtain ⟨hq6, hd6, hl6⟩ := drop_parts hl5
                  simp only at hJ
                  rw [hl6] at hJ
                  have hpk := peek_l R s q5 c5 r5 hl5 w5 HI5.out.rd
                  clear hl5 hl6
                  by_cases n58 : c5 = 58
                  · simp only [if_pos n58] at hJ
                    subst n58
                    go_wp2_with fail
                    refine hpk.mono ?_; rintro e w6 ⟨rfl, m6, rfl⟩
                    have HI6 := Lib.hid (HI5.out.below (below_drewN' w5 m6))
                    clear hpk HI5
                    generalize w5.drewN m6 = W6 at *
                    have h1 := HI6.out.rd.c1
                    have f1 := HI6.out.rd.f1
                    simp only at h1
                    have HI7 := Lib.hid (HI6.out.move (Upd.of_setCell W6 ⟨R, 1, none⟩ (.int .i64 ((q5 : Int) + 1))) (HI6.out.rd.one rfl hq6))
                    have hbl := blanks_c R s (q5 + 1) (by omega) _ HI7.out.rd
                    go_wp2_with fail
                    refine hbl.mono ?_; rintro e w7 ⟨rfl, q7, hpq7, hqs7, hdq7, hsr7, hu7⟩
                    have HI8 := Lib.hid (HI7.out.move hu7 hsr7)
                    rw [← hd6, ← hdq7] at hJ
                    clear hbl hsr7 hu7 hdq7 HI6 HI7 h1 f1
                    have hnV : Value.ownBlock (.slice na ns.length nc) ≠ some (w.heap.size + 1) := fun e => (HI8.out.nf _ e).2.1 rfl
                    obtain ⟨⟨_, _, _, d3, _⟩, _, _, _, t3, _⟩ := cellsOf5 HI8.out.blk
                    have hbs := (Below.refl w7.heap.size w7).alloc (Nat.le_refl _) (.cells #[.string X] 9)
                    have d3a := cell_below hbs d3
                    go_wp2_with (at_builtin; refine wpList_app strTy rfl _ _ rfl _ ns.length _ rfl (HI8.out.nrow.below hbs) ⟨w7.heap.size, 0, none⟩ 1 1 [.string X] rfl rfl (World.news_of_block (heap_alloc_new w7 (.cells #[.string X] 9))) (by simp [Value.oneCell']) (by unfold maxLen; omega) (by omega) ?_; intro nv' wn hrow hu; have hat := HI8.out.at hbs hu hnV; obtain ⟨⟨_, _, _, d3b, _⟩, _, _, _, t3b, _⟩ := cellsOf5 hat; have HIn := Lib.hid (HI8.out.name hbs hrow hu); obtain ⟨g7, c7, hv7, _⟩ := hrow.form; subst hv7; clear hat hrow hu hbs)
                    clear d3 t3 d3a d3b t3b hnV HI8
                    generalize World.setCell wn _ _ = WN at *
                    obtain ⟨ai, ci, rfl, _⟩ := HIn.out.irow.form
                    have hnl3 : (ns ++ [X]).length = is.length + 1 := by rw [List.length_append]; simp only [List.length_cons, List.length_nil]; omega
                    have HNL := Lib.hid hnl3
                    clear hnl3
                    have hdr := Lib.hid (Below.drew (Below.refl WN.heap.size WN))
                    have HId := Lib.hid (HIn.out.below hdr.out)
                    have hcall := fun (d' : Int) (hd' : d' = 64 - k) => HIH.out R q7 WN.drew hR HId.out.rd (tabs_upd HT1.out HId.out.upd (by omega)) (HE1.out.upd HId.out.upd (by omega)) d' hd'
                    obtain ⟨⟨b0, b1, b2, b3, b4⟩, g0, g1, g2, g3, g4⟩ := cellsOf5 HIn.out.blk
                    have hiV : Value.ownBlock (.slice ai is.length ci) ≠ some (w.heap.size + 1) := fun e => (HIn.out.fi _ e).2.1 rfl
                    have hVR : R ≠ w.heap.size + 1 := by omega
                    have hqq : q + 1 ≤ q7 := by omega
                    have hwd : wrap64 (63 - (k : Int) + 1) = 63 - (k : Int) + 1 := by unfold wrap64; omega
                    cases hjv : jval s.size k (s.data.toList.drop q7) with
                    | bad er pl =>
                      rw [hjv] at hJ hcall
                      have HJ2 := Lib.hid (show JR.bad er pl = res from hJ)
                      clear hJ hjv
                      go_wp2
                      go_region_law (first
                        | (go_simp; go_at_call 43; refine (hcall _ (by simp [IntKind.wrap, IntKind.signed, IntKind.bits]; omega)).mono ?_; rintro e wv ⟨rfl, ⟨q9, hq9⟩, hu9⟩; have HQ := Lib.hid (And.intro hq9 (HId.out.upd.trans hu9)); clear hq9 hu9; unfold noV; refine wpAny_out (P := Tryd.prog) ⟨#[], []⟩ wv ?_))
                      all_goals exact ⟨rfl, pj_bad HJ2.out HQ.out.1 ((Upd.of_below HB1.out (some R)).trans HQ.out.2)⟩
                    | ok t r9 =>
                      rw [hjv] at hJ hcall
                      have HJ2 := Lib.hid (show jitems s.size (jval s.size k) true f r9 (ns ++ [X]) (is ++ [t]) = res from hJ)
                      clear hJ hjv
                      go_wp2
                      go_region_law (first
                        | (refine step_app valTy (by rfl) _ _ (by rfl) (.slice ai is.length ci) is.length xs (by rfl) (HIv.out.irow.below ((Below.refl _ _).alloc (Nat.le_refl _) _)) (some ⟨wv.heap.size, 0, none⟩) 1 1 [.int .i64 t.kind, .int .i64 t.int, .string t.text, .slice tan t.names.length tcn, .slice tai t.items.length tci] (by rfl) (by rfl) (by simp) (fun a ha => by cases ha; exact World.news_of_block (heap_alloc_new wv _)) (by simp [Value.oneCell']) (by unfold maxLen; omega) (by omega) ?_;
                           intro iv' w3 hrow hu3; have hat := HIv.out.at ((Below.refl _ _).alloc (Nat.le_refl _) _) hu3 hiV; obtain ⟨⟨_, _, _, _, e43⟩, _, _, _, _, f43⟩ := cellsOf5 hat; clear hat;
                           have HI3 := Lib.hid (HIv.out.item HId.out HUV.out hrepv ((Below.refl _ _).alloc (Nat.le_refl _) _) hrow hu3); obtain ⟨g9, c9, hv9, _⟩ := hrow.form; subst hv9; clear hrow hu3 hrepv)
                        | (go_simp; go_at_call 43; refine (hcall _ (by simp [IntKind.wrap, IntKind.signed, IntKind.bits]; omega)).mono ?_; rintro e wv ⟨q9, vv, rfl, ⟨tan, tcn, tai, tci, rfl, hrepv⟩, hr9, hpq9, hqs9, hsr9, hu9⟩; have HIv := Lib.hid (HId.out.move hu9 hsr9); have HUV := Lib.hid hu9; have HR9 := Lib.hid hr9; have e41 := (cellsOf5 HIv.out.blk).1.2.2.2.2; have e42 := cell_below ((Below.refl wv.heap.size wv).alloc (Nat.le_refl _) (.cells #[.int .i64 t.kind, .int .i64 t.int, .string t.text, .slice tan t.names.length tcn, .slice tai t.items.length tci] 28)) e41; clear hsr9 hu9 hr9))
                      all_goals clear e41 e42 e43 f43 b0 b1 b2 b3 b4 g0 g1 g2 g3 g4 hcall
                      all_goals go_wp2
                      all_goals go_roundg (gk - 1)
                      all_goals first | omega | exact ⟨q9, f, ns ++ [X], is ++ [t], _, _, _, HI3, by rw [HNL.out, List.length_append]; rfl, by rw [List.length_append]; simp only [List.length_cons, List.length_nil]; omega, hqs9, m_ltO hgk hqq hpq9 hqs9, m_lt2O hfu hqq hpq9 hqs9, by rw [← HR9.out]; exact HJ2⟩
                  · simp only [if_neg n58] at hJ
                    have HJ2 := Lib.hid (show JR.bad 10 q5 = res from hJ)
                    have g2 : ((c5.toNat : Int) == 58) = false := byte_ne (d := 58) n58
                    have g3 : ((c5.toNat : Int) != 58) = true := by simp only [bne, g2]; rfl
                    clear hJ n58
                    go_wp2_with fail
                    refine hpk.mono ?_; rintro e w6 ⟨rfl, m6, rfl⟩
                    have HI6 := Lib.hid (HI5.out.below (below_drewN' w5 m6))
                    clear hpk HI5
                    generalize w5.drewN m6 = W6 at *
                    have h1 := HI6.out.rd.c1
                    simp only at h1
                    have hfl := pfail_c R s ⟨q5, 0, 0⟩ 10 q5 W6 HI6.out.rd
                    go_wp2_with fail
                    refine hfl.mono ?_; rintro e w7 ⟨rfl, hqx, hu⟩
                    have HQ := Lib.hid (And.intro hqx (HI6.out.upd.trans hu))
                    clear hfl hqx hu
                    unfold noV
                    go_wp2
                    exact ⟨rfl, pj_bad HJ2.out HQ.out.1 ((Upd.of_below HB1.out (some R)).trans HQ.out.2)⟩
          · rw [if_neg n34] at hJ
            have HJ2 := Lib.hid (show JR.bad 10 q2 = res from hJ)
            have g2 : ((c.toNat : Int) == 34) = false := byte_ne (d := 34) n34
            have g3 : ((c.toNat : Int) != 34) = true := by simp only [bne, g2]; rfl
            clear hJ hl2 n34
            go_wp2_with fail
            refine hpk.mono ?_; rintro e w3 ⟨rfl, m, rfl⟩
            have HI3 := Lib.hid (HI2.out.below (below_drewN' w2 m))
            clear hpk HI2
            generalize w2.drewN m = W3 at *
            have h1 := HI3.out.rd.c1
            simp only at h1
            have hfl := pfail_c R s ⟨q2, 0, 0⟩ 10 q2 W3 HI3.out.rd
            go_wp2_with fail
            refine hfl.mono ?_; rintro e w4 ⟨rfl, hqx, hu⟩
            have HQ := Lib.hid (And.intro hqx (HI3.out.upd.trans hu))
            clear hfl hqx hu
            unfold noV
            go_wp2
            exact ⟨rfl, pj_bad HJ2.out HQ.out.1 ((Upd.of_below HB1.out (some R)).trans HQ.out.2)⟩
end Go.Proofs.YtbkbokfegjodnaaDoor
namespace Go.Proofs.YtbkbokfegjodnaaDoor
open Go.RowKit
theorem word_atO {S p q a : Nat} {r t : List UInt8} (hr : r.length = S - (p + 1)) (ht : t.length = S - q) (h : t.length + a ≤ r.length + 1) (ha : 1 ≤ a) (hp : p < S) (hq : q ≤ S) : p + 1 ≤ q := by omega
theorem len_atO {s : ByteArray} {q : Nat} {t : List UInt8} (h : t = s.data.toList.drop q) : t.length = s.size - q := by
  rw [h, List.length_drop, Array.length_toList]; rfl
set_option maxRecDepth 20000 in
set_option maxHeartbeats 16000000 in
theorem value_stepO (s : ByteArray) (hs : s.size < 1099511627776) (k : Nat) (hk : k ≤ 64) (ih : ∀ k', k = k' + 1 → JvalSaidO s k') : JvalSaidO s k := by
  intro R p w hR h hT hE d hd
  subst hd
  have hb1 : Below w.heap.size w (w.alloc (.cells #[.int .i64 0, .int .i64 0, .string ⟨#[]⟩, .slice none 0 0, .slice none 0 0] 28)) := (Below.refl _ _).alloc (Nat.le_refl _) _
  have hrd := h.below hb1
  have hRw : R ≠ w.heap.size := by have := h.lt; omega
  have HT1 := Lib.hid (tabs_upd hT (Upd.of_below hb1 (some R)) (by omega))
  have HE1 := Lib.hid (hE.below hb1)
  have HB1 := Lib.hid hb1
  have HIH := Lib.hid ih
  have HZ0 := Lib.hid (heap_alloc_new w (.cells #[.int .i64 0, .int .i64 0, .string ⟨#[]⟩, .slice none 0 0, .slice none 0 0] 28))
  obtain ⟨res, hres⟩ : ∃ res, jval s.size k (s.data.toList.drop p) = res := ⟨_, rfl⟩
  rw [hres]
  rw [jval_head] at hres
  obtain ⟨l, hl⟩ : ∃ x, s.data.toList.drop p = x := ⟨_, rfl⟩
  rw [hl] at hres
  have HRES := Lib.hid hres
  clear hres h hb1 ih hT hE
  cases l with
  | nil =>
    have HJ2 := Lib.hid (show JR.bad 3 s.size = res from HRES.out)
    have hpk := peek_e R s p hl _ hrd
    clear HRES hl hrd HIH
    go_enter Tryd.func43, Tryd.ntmps43
    go_wp2_with fail
    refine hpk.mono ?_; rintro e w2 ⟨rfl, hqx, hu⟩
    have HQ := Lib.hid (And.intro hqx hu)
    clear hpk hqx hu
    unfold noV
    go_wp2
    exact ⟨rfl, pj_bad HJ2.out HQ.out.1 ((Upd.of_below HB1.out (some R)).trans HQ.out.2)⟩
  | cons c r =>
    obtain ⟨hp1, hd1, hl1⟩ := drop_parts hl
    have hJ := HRES.out
    rw [jhead, hl1] at hJ
    have hrl : r.length = s.size - (p + 1) := len_atO hd1.symm
    have hpk := peek_l R s p c r hl _ hrd
    have HL := Lib.hid hl
    have HD1 := Lib.hid hd1
    clear HRES hl hl1 hd1
    go_enter Tryd.func43, Tryd.ntmps43
    go_wp2_with fail
    refine hpk.mono ?_; rintro e w2 ⟨rfl, m, rfl⟩
    have HS := Lib.hid (hrd.same (w' := (w.alloc (.cells #[.int .i64 0, .int .i64 0, .string ⟨#[]⟩, .slice none 0 0, .slice none 0 0] 28)).drewN m) rfl)
    have HU := Lib.hid (Upd.of_below (below_drewN' (w.alloc (.cells #[.int .i64 0, .int .i64 0, .string ⟨#[]⟩, .slice none 0 0, .slice none 0 0] 28)) m) (some R))
    have HZ := Lib.hid (show ((w.alloc (.cells #[.int .i64 0, .int .i64 0, .string ⟨#[]⟩, .slice none 0 0, .slice none 0 0] 28)).drewN m).heap[w.heap.size]? = some (.cells #[.int .i64 0, .int .i64 0, .string ⟨#[]⟩, .slice none 0 0, .slice none 0 0] 28 (0, 0)) from HZ0.out)
    have HTW := Lib.hid (tabs_upd HT1.out HU.out (by omega))
    have HEW := Lib.hid (HE1.out.upd HU.out (by omega))
    clear hpk hrd HZ0
    generalize (w.alloc (.cells #[.int .i64 0, .int .i64 0, .string ⟨#[]⟩, .slice none 0 0, .slice none 0 0] 28)).drewN m = W at *
    by_cases n110 : c = 110
    · as_aux_lemma =>
      have hJ := (if_pos n110).symm.trans hJ
      subst n110
      have hwd := word_c R s ⟨#[110, 117, 108, 108]⟩ p (by omega) (by decide) W HS.out
      rw [HL.out, show (⟨#[110, 117, 108, 108]⟩ : ByteArray).data.toList = [110, 117, 108, 108] from rfl] at hwd
      cases hjw : jword s.size [110, 117, 108, 108] (110 :: r) with
      | bad er pl =>
        rw [hjw] at hJ hwd
        have HJ2 := Lib.hid (show JR.bad er pl = res from hJ)
        clear hJ hjw
        go_wp2_with fail
        refine hwd.mono ?_; rintro e w3 ⟨rfl, ⟨qx, hqx⟩, hu⟩
        have HQ := Lib.hid (And.intro hqx (HU.out.trans hu))
        clear hwd hqx hu
        unfold noV
        go_wp2
        exact ⟨rfl, pj_bad HJ2.out HQ.out.1 ((Upd.of_below HB1.out (some R)).trans HQ.out.2)⟩
      | ok u q =>
        have hlen := jword_len _ _ _ _ _ hjw
        simp only [List.length_cons, List.length_nil] at hlen
        rw [hjw] at hJ hwd
        have HJ2 := Lib.hid (show JR.ok (jnil 0) q = res from hJ)
        clear hJ hjw
        go_wp2_with fail
        refine hwd.mono ?_; rintro e w3 ⟨q3, v, rfl, rfl, hr3, hpq3, hqs3, hsr3, hu3⟩
        have hle : p + 1 ≤ q3 := word_atO (a := 4) hrl (len_atO hr3) (by omega) (by decide) hp1 hqs3
        have HZ3 := Lib.hid ((hu3.block (k := w.heap.size) (by have := cell_lt (cellsOf5 HZ.out).1.1; exact this) (fun e => hRw (Option.some.inj e))).trans HZ.out)
        obtain ⟨⟨z0, z1, z2, z3, z4⟩, y0, y1, y2, y3, y4⟩ := cellsOf5 HZ3.out
        have HR3 := Lib.hid (And.intro hsr3 (HU.out.trans hu3))
        have HR3r := Lib.hid hr3
        clear hwd hr3 hsr3 hu3 HZ hlen
        go_wp2
        (try simp only [Exit.inBlock, Exit.then])
        refine bodyPost_ret (results_cell_row rfl _ _ w.heap.size 28 _ (0, 0) _ (by rfl) (set5 HZ3.out) Tryd.underlying28 rfl (by kernel_rfl)) rfl ?_
        have hU := ((Upd.of_below HB1.out (some R)).trans HR3.out.2).trans_below (below_set5 (c0 := .int .i64 0) (c1 := .int .i64 0) (c2 := .string ⟨#[]⟩) (c3 := .slice none 0 0) (c4 := .slice none 0 0) (Below.refl w.heap.size w3) (Nat.le_refl _))
        exact pj_ok (a := jnil 0) (q := q3) (by rw [← HR3r.out]; exact HJ2.out) ⟨none, 0, none, 0, rfl, repO_flat 0 0 ⟨#[]⟩ (by omega) (by omega) (Nat.zero_le _) _ _⟩ (by omega) (HR3.out.1.after (other_set5 hRw)) hU
    have hJ := (if_neg n110).symm.trans hJ
    have m110 : ((c.toNat : Int) == 110) = false := byte_ne (d := 110) n110
    by_cases n116 : c = 116
    · as_aux_lemma =>
      have hJ := (if_pos n116).symm.trans hJ
      subst n116
      have hwd := word_c R s ⟨#[116, 114, 117, 101]⟩ p (by omega) (by decide) W HS.out
      rw [HL.out, show (⟨#[116, 114, 117, 101]⟩ : ByteArray).data.toList = [116, 114, 117, 101] from rfl] at hwd
      cases hjw : jword s.size [116, 114, 117, 101] (116 :: r) with
      | bad er pl =>
        rw [hjw] at hJ hwd
        have HJ2 := Lib.hid (show JR.bad er pl = res from hJ)
        clear hJ hjw
        go_wp2_with fail
        refine hwd.mono ?_; rintro e w3 ⟨rfl, ⟨qx, hqx⟩, hu⟩
        have HQ := Lib.hid (And.intro hqx (HU.out.trans hu))
        clear hwd hqx hu
        unfold noV
        go_wp2
        exact ⟨rfl, pj_bad HJ2.out HQ.out.1 ((Upd.of_below HB1.out (some R)).trans HQ.out.2)⟩
      | ok u q =>
        have hlen := jword_len _ _ _ _ _ hjw
        simp only [List.length_cons, List.length_nil] at hlen
        rw [hjw] at hJ hwd
        have HJ2 := Lib.hid (show JR.ok (jnil 2) q = res from hJ)
        clear hJ hjw
        go_wp2_with fail
        refine hwd.mono ?_; rintro e w3 ⟨q3, v, rfl, rfl, hr3, hpq3, hqs3, hsr3, hu3⟩
        have hle : p + 1 ≤ q3 := word_atO (a := 4) hrl (len_atO hr3) (by omega) (by decide) hp1 hqs3
        have HZ3 := Lib.hid ((hu3.block (k := w.heap.size) (by have := cell_lt (cellsOf5 HZ.out).1.1; exact this) (fun e => hRw (Option.some.inj e))).trans HZ.out)
        obtain ⟨⟨z0, z1, z2, z3, z4⟩, y0, y1, y2, y3, y4⟩ := cellsOf5 HZ3.out
        have HR3 := Lib.hid (And.intro hsr3 (HU.out.trans hu3))
        have HR3r := Lib.hid hr3
        clear hwd hr3 hsr3 hu3 HZ hlen
        go_wp2_with fail
        refine (flagT_c _).mono ?_; rintro e w4 ⟨rfl, hb4⟩
        have hlt4 := cell_lt z0
        have HZ4 := Lib.hid ((hb4.block w.heap.size hlt4).trans HZ3.out)
        clear z0 z1 z2 z3 z4 y0 y1 y2 y3 y4
        obtain ⟨⟨z0, z1, z2, z3, z4⟩, y0, y1, y2, y3, y4⟩ := cellsOf5 HZ4.out
        have HR4 := Lib.hid (And.intro (HR3.out.1.below hb4) (HR3.out.2.trans (Upd.of_below hb4 _)))
        clear hb4 HR3 HZ3
        go_wp2
        (try simp only [Exit.inBlock, Exit.then])
        refine bodyPost_ret (results_cell_row rfl _ _ w.heap.size 28 _ (0, 0) _ (by rfl) (set5 HZ4.out) Tryd.underlying28 rfl (by kernel_rfl)) rfl ?_
        have hU := ((Upd.of_below HB1.out (some R)).trans HR4.out.2).trans_below (below_set5 (c0 := .int .i64 2) (c1 := .int .i64 0) (c2 := .string ⟨#[]⟩) (c3 := .slice none 0 0) (c4 := .slice none 0 0) (Below.refl w.heap.size w4) (Nat.le_refl _))
        exact pj_ok (a := jnil 2) (q := q3) (by rw [← HR3r.out]; exact HJ2.out) ⟨none, 0, none, 0, rfl, repO_flat 2 0 ⟨#[]⟩ (by omega) (by omega) (Nat.zero_le _) _ _⟩ (by omega) (HR4.out.1.after (other_set5 hRw)) hU
    have hJ := (if_neg n116).symm.trans hJ
    have m116 : ((c.toNat : Int) == 116) = false := byte_ne (d := 116) n116
    by_cases n102 : c = 102
    · as_aux_lemma =>
      have hJ := (if_pos n102).symm.trans hJ
      subst n102
      have hwd := word_c R s ⟨#[102, 97, 108, 115, 101]⟩ p (by omega) (by decide) W HS.out
      rw [HL.out, show (⟨#[102, 97, 108, 115, 101]⟩ : ByteArray).data.toList = [102, 97, 108, 115, 101] from rfl] at hwd
      cases hjw : jword s.size [102, 97, 108, 115, 101] (102 :: r) with
      | bad er pl =>
        rw [hjw] at hJ hwd
        have HJ2 := Lib.hid (show JR.bad er pl = res from hJ)
        clear hJ hjw
        go_wp2_with fail
        refine hwd.mono ?_; rintro e w3 ⟨rfl, ⟨qx, hqx⟩, hu⟩
        have HQ := Lib.hid (And.intro hqx (HU.out.trans hu))
        clear hwd hqx hu
        unfold noV
        go_wp2
        exact ⟨rfl, pj_bad HJ2.out HQ.out.1 ((Upd.of_below HB1.out (some R)).trans HQ.out.2)⟩
      | ok u q =>
        have hlen := jword_len _ _ _ _ _ hjw
        simp only [List.length_cons, List.length_nil] at hlen
        rw [hjw] at hJ hwd
        have HJ2 := Lib.hid (show JR.ok (jnil 1) q = res from hJ)
        clear hJ hjw
        go_wp2_with fail
        refine hwd.mono ?_; rintro e w3 ⟨q3, v, rfl, rfl, hr3, hpq3, hqs3, hsr3, hu3⟩
        have hle : p + 1 ≤ q3 := word_atO (a := 5) hrl (len_atO hr3) (by omega) (by decide) hp1 hqs3
        have HZ3 := Lib.hid ((hu3.block (k := w.heap.size) (by have := cell_lt (cellsOf5 HZ.out).1.1; exact this) (fun e => hRw (Option.some.inj e))).trans HZ.out)
        obtain ⟨⟨z0, z1, z2, z3, z4⟩, y0, y1, y2, y3, y4⟩ := cellsOf5 HZ3.out
        have HR3 := Lib.hid (And.intro hsr3 (HU.out.trans hu3))
        have HR3r := Lib.hid hr3
        clear hwd hr3 hsr3 hu3 HZ hlen
        go_wp2_with fail
        refine (flagF_c _).mono ?_; rintro e w4 ⟨rfl, hb4⟩
        have hlt4 := cell_lt z0
        have HZ4 := Lib.hid ((hb4.block w.heap.size hlt4).trans HZ3.out)
        clear z0 z1 z2 z3 z4 y0 y1 y2 y3 y4
        obtain ⟨⟨z0, z1, z2, z3, z4⟩, y0, y1, y2, y3, y4⟩ := cellsOf5 HZ4.out
        have HR4 := Lib.hid (And.intro (HR3.out.1.below hb4) (HR3.out.2.trans (Upd.of_below hb4 _)))
        clear hb4 HR3 HZ3
        go_wp2
        (try simp only [Exit.inBlock, Exit.then])
        refine bodyPost_ret (results_cell_row rfl _ _ w.heap.size 28 _ (0, 0) _ (by rfl) (set5 HZ4.out) Tryd.underlying28 rfl (by kernel_rfl)) rfl ?_
        have hU := ((Upd.of_below HB1.out (some R)).trans HR4.out.2).trans_below (below_set5 (c0 := .int .i64 1) (c1 := .int .i64 0) (c2 := .string ⟨#[]⟩) (c3 := .slice none 0 0) (c4 := .slice none 0 0) (Below.refl w.heap.size w4) (Nat.le_refl _))
        exact pj_ok (a := jnil 1) (q := q3) (by rw [← HR3r.out]; exact HJ2.out) ⟨none, 0, none, 0, rfl, repO_flat 1 0 ⟨#[]⟩ (by omega) (by omega) (Nat.zero_le _) _ _⟩ (by omega) (HR4.out.1.after (other_set5 hRw)) hU
    have hJ := (if_neg n102).symm.trans hJ
    have m102 : ((c.toNat : Int) == 102) = false := byte_ne (d := 102) n102
    by_cases n45 : c = 45
    · as_aux_lemma =>
      have hJ := (if_pos (Or.inl n45)).symm.trans hJ
      subst n45
      have hnm := num_c R (Nat.lt_of_lt_of_le (by decide) hR) s p 45 r HL.out (by omega) W HS.out HEW.out
      unfold numGood at hnm
      cases hjn : jnum s.size (45 :: r) with
      | bad er pl =>
        rw [hjn] at hJ hnm
        have HJ2 := Lib.hid (show JR.bad er pl = res from hJ)
        clear hJ hjn
        go_wp2_with fail
        refine hnm.mono ?_; rintro e w3 ⟨rfl, ⟨qx, hqx⟩, hu⟩
        have HQ := Lib.hid (And.intro hqx (HU.out.trans hu))
        clear hnm hqx hu
        unfold noV
        go_wp2
        exact ⟨rfl, pj_bad HJ2.out HQ.out.1 ((Upd.of_below HB1.out (some R)).trans HQ.out.2)⟩
      | ok n q =>
        have hlen := jnum_len hjn
        rw [hjn] at hJ hnm
        have HJ2 := Lib.hid (show JR.ok (.mk 3 n ⟨#[]⟩ [] []) q = res from hJ)
        clear hJ hjn
        go_wp2_with fail
        refine hnm.mono ?_; rintro e w3 ⟨q3, v, rfl, ⟨rfl, hn1, hn2⟩, hr3, hpq3, hqs3, hsr3, hu3⟩
        have hle : p + 1 ≤ q3 := word_atO (a := 1) hrl (len_atO hr3) (by omega) (by decide) hp1 hqs3
        have HZ3 := Lib.hid ((hu3.block (k := w.heap.size) (by have := cell_lt (cellsOf5 HZ.out).1.1; exact this) (fun e => hRw (Option.some.inj e))).trans HZ.out)
        obtain ⟨⟨z0, z1, z2, z3, z4⟩, y0, y1, y2, y3, y4⟩ := cellsOf5 HZ3.out
        have HR3 := Lib.hid (And.intro hsr3 (HU.out.trans hu3))
        have HR3r := Lib.hid hr3
        clear hnm hr3 hsr3 hu3 HZ hlen
        go_wp2
        (try simp only [Exit.inBlock, Exit.then])
        refine bodyPost_ret (results_cell_row rfl _ _ w.heap.size 28 _ (0, 0) _ (by rfl) (set5 HZ3.out) Tryd.underlying28 rfl (by kernel_rfl)) rfl ?_
        have hU := ((Upd.of_below HB1.out (some R)).trans HR3.out.2).trans_below (below_set5 (c0 := .int .i64 3) (c1 := .int .i64 n) (c2 := .string ⟨#[]⟩) (c3 := .slice none 0 0) (c4 := .slice none 0 0) (Below.refl w.heap.size w3) (Nat.le_refl _))
        exact pj_ok (a := .mk 3 n ⟨#[]⟩ [] []) (q := q3) (by rw [← HR3r.out]; exact HJ2.out) ⟨none, 0, none, 0, rfl, repO_flat 3 n ⟨#[]⟩ (by omega) ⟨hn1, hn2⟩ (Nat.zero_le _) _ _⟩ (by omega) (HR3.out.1.after (other_set5 hRw)) hU
    have m45 : ((c.toNat : Int) == 45) = false := byte_ne (d := 45) n45
    cases hdg : isDg c with
    | true => as_aux_lemma =>
      have HDG := Lib.hid (fun (W : World) => by have := digit_c c W; rw [hdg] at this; exact this)
      have hJ := (if_pos (Or.inr hdg)).symm.trans hJ
      have hnm := num_c R (Nat.lt_of_lt_of_le (by decide) hR) s p c r HL.out (by omega) W HS.out HEW.out
      unfold numGood at hnm
      cases hjn : jnum s.size (c :: r) with
      | bad er pl =>
        rw [hjn] at hJ hnm
        have HJ2 := Lib.hid (show JR.bad er pl = res from hJ)
        clear hJ hjn
        go_wp2_with (first | fail | (go_at_call 62; refine (HDG.out _).mono ?_; rintro e wd ⟨rfl, hwd⟩; rw [hwd]; clear hwd))
        refine hnm.mono ?_; rintro e w3 ⟨rfl, ⟨qx, hqx⟩, hu⟩
        have HQ := Lib.hid (And.intro hqx (HU.out.trans hu))
        clear hnm hqx hu
        unfold noV
        go_wp2
        exact ⟨rfl, pj_bad HJ2.out HQ.out.1 ((Upd.of_below HB1.out (some R)).trans HQ.out.2)⟩
      | ok n q =>
        have hlen := jnum_len hjn
        rw [hjn] at hJ hnm
        have HJ2 := Lib.hid (show JR.ok (.mk 3 n ⟨#[]⟩ [] []) q = res from hJ)
        clear hJ hjn
        go_wp2_with (first | fail | (go_at_call 62; refine (HDG.out _).mono ?_; rintro e wd ⟨rfl, hwd⟩; rw [hwd]; clear hwd))
        refine hnm.mono ?_; rintro e w3 ⟨q3, v, rfl, ⟨rfl, hn1, hn2⟩, hr3, hpq3, hqs3, hsr3, hu3⟩
        have hle : p + 1 ≤ q3 := word_atO (a := 1) hrl (len_atO hr3) (by omega) (by decide) hp1 hqs3
        have HZ3 := Lib.hid ((hu3.block (k := w.heap.size) (by have := cell_lt (cellsOf5 HZ.out).1.1; exact this) (fun e => hRw (Option.some.inj e))).trans HZ.out)
        obtain ⟨⟨z0, z1, z2, z3, z4⟩, y0, y1, y2, y3, y4⟩ := cellsOf5 HZ3.out
        have HR3 := Lib.hid (And.intro hsr3 (HU.out.trans hu3))
        have HR3r := Lib.hid hr3
        clear hnm hr3 hsr3 hu3 HZ hlen
        go_wp2
        (try simp only [Exit.inBlock, Exit.then])
        refine bodyPost_ret (results_cell_row rfl _ _ w.heap.size 28 _ (0, 0) _ (by rfl) (set5 HZ3.out) Tryd.underlying28 rfl (by kernel_rfl)) rfl ?_
        have hU := ((Upd.of_below HB1.out (some R)).trans HR3.out.2).trans_below (below_set5 (c0 := .int .i64 3) (c1 := .int .i64 n) (c2 := .string ⟨#[]⟩) (c3 := .slice none 0 0) (c4 := .slice none 0 0) (Below.refl w.heap.size w3) (Nat.le_refl _))
        exact pj_ok (a := .mk 3 n ⟨#[]⟩ [] []) (q := q3) (by rw [← HR3r.out]; exact HJ2.out) ⟨none, 0, none, 0, rfl, repO_flat 3 n ⟨#[]⟩ (by omega) ⟨hn1, hn2⟩ (Nat.zero_le _) _ _⟩ (by omega) (HR3.out.1.after (other_set5 hRw)) hU
    | false =>
    have hJ := (if_neg (fun h => Or.elim h n45 (fun e => by rw [hdg] at e; cases e))).symm.trans hJ
    have HDG := Lib.hid (fun (W : World) => by have := digit_c c W; rw [hdg] at this; exact this)
    clear hdg
    by_cases n34 : c = 34
    · as_aux_lemma =>
      have hJ := (if_pos n34).symm.trans hJ
      subst n34
      have htx := text_c R (by omega) s p 34 r HL.out (by omega) W HS.out HTW.out
      unfold txtGood at htx
      cases hjt : jtext s.size (r.length + 1) r [] with
      | bad er pl =>
        rw [hjt] at htx hJ
        have HJ2 := Lib.hid (show JR.bad er pl = res from hJ)
        clear hJ hjt
        go_wp2_with (first | fail | (go_at_call 62; refine (HDG.out _).mono ?_; rintro e wd ⟨rfl, hwd⟩; rw [hwd]; clear hwd))
        refine htx.mono ?_; rintro e w3 ⟨rfl, ⟨qx, hqx⟩, hu⟩
        have HQ := Lib.hid (And.intro hqx (HU.out.trans hu))
        clear htx hqx hu
        unfold noV
        go_wp2
        exact ⟨rfl, pj_bad HJ2.out HQ.out.1 ((Upd.of_below HB1.out (some R)).trans HQ.out.2)⟩
      | ok x q =>
        rw [hjt] at htx hJ
        have HJ2 := Lib.hid (show JR.ok (.mk 4 0 ⟨x.toArray⟩ [] []) q = res from hJ)
        clear hJ hjt
        go_wp2_with (first | fail | (go_at_call 62; refine (HDG.out _).mono ?_; rintro e wd ⟨rfl, hwd⟩; rw [hwd]; clear hwd))
        refine htx.mono ?_; rintro e w3 ⟨q3, v, rfl, ⟨rfl, hxl⟩, hr3, hpq3, hqs3, hsr3, hu3⟩
        have hVlt : w.heap.size < W.heap.size := cell_lt (cellsOf5 HZ.out).1.1
        have HZ3 := Lib.hid ((hu3.block (k := w.heap.size) hVlt (fun e => hRw (Option.some.inj e))).trans HZ.out)
        obtain ⟨⟨z0, z1, z2, z3, z4⟩, y0, y1, y2, y3, y4⟩ := cellsOf5 HZ3.out
        have HR3 := Lib.hid (And.intro hsr3 (HU.out.trans hu3))
        have HR3r := Lib.hid hr3
        have hXs : (⟨x.toArray⟩ : ByteArray).size ≤ maxLen := by show x.toArray.size ≤ maxLen; unfold maxLen; simp; omega
        clear htx hr3 hsr3 hu3 HZ
        generalize (⟨x.toArray⟩ : ByteArray) = X at *
        go_wp2_with fail
        refine (rdWord_c X _).mono ?_; rintro e w4 ⟨rfl, hb4⟩
        have hlt4 := cell_lt z0
        have HZ4 := Lib.hid ((hb4.block w.heap.size hlt4).trans HZ3.out)
        clear z0 z1 z2 z3 z4 y0 y1 y2 y3 y4
        obtain ⟨⟨z0, z1, z2, z3, z4⟩, y0, y1, y2, y3, y4⟩ := cellsOf5 HZ4.out
        have HR4 := Lib.hid (And.intro (HR3.out.1.below hb4) (HR3.out.2.trans (Upd.of_below hb4 _)))
        clear hb4 HR3 HZ3
        go_wp2
        (try simp only [Exit.inBlock, Exit.then])
        refine bodyPost_ret (results_cell_row rfl _ _ w.heap.size 28 _ (0, 0) _ (by rfl) (set5 HZ4.out) Tryd.underlying28 rfl (by kernel_rfl)) rfl ?_
        have hU := ((Upd.of_below HB1.out (some R)).trans HR4.out.2).trans_below (below_set5 (c0 := .int .i64 4) (c1 := .int .i64 0) (c2 := .string X) (c3 := .slice none 0 0) (c4 := .slice none 0 0) (Below.refl w.heap.size w4) (Nat.le_refl _))
        exact pj_ok (a := .mk 4 0 X [] []) (q := q3) (by rw [← HR3r.out]; exact HJ2.out) ⟨none, 0, none, 0, rfl, repO_flat 4 0 X (by omega) (by omega) hXs _ _⟩ (by omega) (HR4.out.1.after (other_set5 hRw)) hU
    have hJ := (if_neg n34).symm.trans hJ
    have m34 : ((c.toNat : Int) == 34) = false := byte_ne (d := 34) n34
    by_cases n91 : c = 91
    · as_aux_lemma =>
      have hJ := (if_pos n91).symm.trans hJ
      subst n91
      cases k with
      | zero =>
        have HJ2 := Lib.hid (show JR.bad 17 p = res from by rw [← hJ]; show _ = JR.bad 17 (s.size - (r.length + 1)); congr 1; omega)
        have h1 := HS.out.c1
        simp only at h1
        have hfl := pfail_c R s ⟨p, 0, 0⟩ 17 p W HS.out
        clear hJ
        go_wp2_with (first | fail | (go_at_call 62; refine (HDG.out _).mono ?_; rintro e wd ⟨rfl, hwd⟩; rw [hwd]; clear hwd))
        refine hfl.mono ?_; rintro e w3 ⟨rfl, hqx, hu⟩
        have HQ := Lib.hid (And.intro hqx (HU.out.trans hu))
        clear hfl hqx hu
        unfold noV
        go_wp2
        exact ⟨rfl, pj_bad HJ2.out HQ.out.1 ((Upd.of_below HB1.out (some R)).trans HQ.out.2)⟩
      | succ k =>
        have hJ2 : jitems s.size (jval s.size k) false (r.length + 1) r [] [] = res := hJ
        have hit := fun (d : Int) (hd : d = 63 - k) => list_cO s hs k (by omega) (HIH.out k rfl) R hR p 91 r HL.out W HS.out HTW.out HEW.out d hd
        have hdd : ¬ (64 : Int) ≤ 64 - ((k + 1 : Nat) : Int) := by omega
        have hdd2 : ¬ (64 : Int) ≤ 64 - ((k : Int) + 1) := by omega
        clear hJ
        cases hji : jitems s.size (jval s.size k) false (r.length + 1) r [] [] with
        | bad er pl =>
          rw [hji] at hJ2
          simp only [hji] at hit
          have HJ2 := Lib.hid hJ2
          clear hJ2 hji
          go_wp2_with (first | fail | (go_at_call 62; refine (HDG.out _).mono ?_; rintro e wd ⟨rfl, hwd⟩; rw [hwd]; clear hwd))
          refine (hit _ (by omega)).mono ?_; rintro e w3 ⟨rfl, ⟨qx, hqx⟩, hu⟩
          have HQ := Lib.hid (And.intro hqx (HU.out.trans hu))
          clear hit hqx hu
          unfold noV
          go_wp2
          exact ⟨rfl, pj_bad HJ2.out HQ.out.1 ((Upd.of_below HB1.out (some R)).trans HQ.out.2)⟩
        | ok t q =>
          rw [hji] at hJ2
          simp only [hji] at hit
          have HJ2 := Lib.hid hJ2
          clear hJ2 hji
          go_wp2_with (first | fail | (go_at_call 62; refine (HDG.out _).mono ?_; rintro e wd ⟨rfl, hwd⟩; rw [hwd]; clear hwd))
          refine (hit _ (by omega)).mono ?_; rintro e w3 ⟨q3, v, rfl, ⟨tan, tcn, tai, tci, rfl, hrep⟩, hr3, hpq3, hqs3, hsr3, hu3⟩
          have hVlt : w.heap.size < W.heap.size := cell_lt (cellsOf5 HZ.out).1.1
          have HZ3 := Lib.hid ((hu3.block (k := w.heap.size) hVlt (fun e => hRw (Option.some.inj e))).trans HZ.out)
          obtain ⟨⟨z0, z1, z2, z3, z4⟩, y0, y1, y2, y3, y4⟩ := cellsOf5 HZ3.out
          have HR3 := Lib.hid (And.intro hsr3 (HU.out.trans hu3))
          have HR3r := Lib.hid hr3
          have HREP := Lib.hid hrep
          clear hit hr3 hsr3 hu3 HZ hrep
          go_wp2
          (try simp only [Exit.inBlock, Exit.then])
          refine bodyPost_ret (results_cell_row rfl _ _ w.heap.size 28 _ (0, 0) _ (by rfl) (set5 HZ3.out) Tryd.underlying28 rfl (by kernel_rfl)) rfl ?_
          have hU := ((Upd.of_below HB1.out (some R)).trans HR3.out.2).trans_below (below_set5 (c0 := .int .i64 t.kind) (c1 := .int .i64 t.int) (c2 := .string t.text) (c3 := .slice tan t.names.length tcn) (c4 := .slice tai t.items.length tci) (Below.refl w.heap.size w3) (Nat.le_refl _))
          exact pj_ok (a := t) (q := q3) (by rw [← HR3r.out]; exact HJ2.out) ⟨tan, tcn, tai, tci, rfl, RepO.kept (fun b hlt hb => ⟨by omega, other_set5 (by omega)⟩) _ _ HREP.out⟩ (by omega) (HR3.out.1.after (other_set5 hRw)) hU
    have hJ := (if_neg n91).symm.trans hJ
    have m91 : ((c.toNat : Int) == 91) = false := byte_ne (d := 91) n91
    by_cases n123 : c = 123
    · as_aux_lemma =>
      have hJ := (if_pos n123).symm.trans hJ
      subst n123
      cases k with
      | zero =>
        have HJ2 := Lib.hid (show JR.bad 17 p = res from by rw [← hJ]; show _ = JR.bad 17 (s.size - (r.length + 1)); congr 1; omega)
        have h1 := HS.out.c1
        simp only at h1
        have hfl := pfail_c R s ⟨p, 0, 0⟩ 17 p W HS.out
        clear hJ
        go_wp2_with (first | fail | (go_at_call 62; refine (HDG.out _).mono ?_; rintro e wd ⟨rfl, hwd⟩; rw [hwd]; clear hwd))
        refine hfl.mono ?_; rintro e w3 ⟨rfl, hqx, hu⟩
        have HQ := Lib.hid (And.intro hqx (HU.out.trans hu))
        clear hfl hqx hu
        unfold noV
        go_wp2
        exact ⟨rfl, pj_bad HJ2.out HQ.out.1 ((Upd.of_below HB1.out (some R)).trans HQ.out.2)⟩
      | succ k =>
        have hJ2 : jitems s.size (jval s.size k) true (r.length + 1) r [] [] = res := hJ
        have hit := fun (d : Int) (hd : d = 63 - k) => object_cO s hs k (by omega) (HIH.out k rfl) R hR p 123 r HL.out W HS.out HTW.out HEW.out d hd
        have hdd : ¬ (64 : Int) ≤ 64 - ((k + 1 : Nat) : Int) := by omega
        have hdd2 : ¬ (64 : Int) ≤ 64 - ((k : Int) + 1) := by omega
        clear hJ
        cases hji : jitems s.size (jval s.size k) true (r.length + 1) r [] [] with
        | bad er pl =>
          rw [hji] at hJ2
          simp only [hji] at hit
          have HJ2 := Lib.hid hJ2
          clear hJ2 hji
          go_wp2_with (first | fail | (go_at_call 62; refine (HDG.out _).mono ?_; rintro e wd ⟨rfl, hwd⟩; rw [hwd]; clear hwd))
          refine (hit _ (by omega)).mono ?_; rintro e w3 ⟨rfl, ⟨qx, hqx⟩, hu⟩
          have HQ := Lib.hid (And.intro hqx (HU.out.trans hu))
          clear hit hqx hu
          unfold noV
          go_wp2
          exact ⟨rfl, pj_bad HJ2.out HQ.out.1 ((Upd.of_below HB1.out (some R)).trans HQ.out.2)⟩
        | ok t q =>
          rw [hji] at hJ2
          simp only [hji] at hit
          have HJ2 := Lib.hid hJ2
          clear hJ2 hji
          go_wp2_with (first | fail | (go_at_call 62; refine (HDG.out _).mono ?_; rintro e wd ⟨rfl, hwd⟩; rw [hwd]; clear hwd))
          refine (hit _ (by omega)).mono ?_; rintro e w3 ⟨q3, v, rfl, ⟨tan, tcn, tai, tci, rfl, hrep⟩, hr3, hpq3, hqs3, hsr3, hu3⟩
          have hVlt : w.heap.size < W.heap.size := cell_lt (cellsOf5 HZ.out).1.1
          have HZ3 := Lib.hid ((hu3.block (k := w.heap.size) hVlt (fun e => hRw (Option.some.inj e))).trans HZ.out)
          obtain ⟨⟨z0, z1, z2, z3, z4⟩, y0, y1, y2, y3, y4⟩ := cellsOf5 HZ3.out
          have HR3 := Lib.hid (And.intro hsr3 (HU.out.trans hu3))
          have HR3r := Lib.hid hr3
          have HREP := Lib.hid hrep
          clear hit hr3 hsr3 hu3 HZ hrep
          go_wp2
          (try simp only [Exit.inBlock, Exit.then])
          refine bodyPost_ret (results_cell_row rfl _ _ w.heap.size 28 _ (0, 0) _ (by rfl) (set5 HZ3.out) Tryd.underlying28 rfl (by kernel_rfl)) rfl ?_
          have hU := ((Upd.of_below HB1.out (some R)).trans HR3.out.2).trans_below (below_set5 (c0 := .int .i64 t.kind) (c1 := .int .i64 t.int) (c2 := .string t.text) (c3 := .slice tan t.names.length tcn) (c4 := .slice tai t.items.length tci) (Below.refl w.heap.size w3) (Nat.le_refl _))
          exact pj_ok (a := t) (q := q3) (by rw [← HR3r.out]; exact HJ2.out) ⟨tan, tcn, tai, tci, rfl, RepO.kept (fun b hlt hb => ⟨by omega, other_set5 (by omega)⟩) _ _ HREP.out⟩ (by omega) (HR3.out.1.after (other_set5 hRw)) hU
    have hJ := (if_neg n123).symm.trans hJ
    have m123 : ((c.toNat : Int) == 123) = false := byte_ne (d := 123) n123
    as_aux_lemma =>
    have HJ2 := Lib.hid (show JR.bad 10 p = res from hJ)
    have h1 := HS.out.c1
    simp only at h1
    have hfl := pfail_c R s ⟨p, 0, 0⟩ 10 p W HS.out
    clear hJ
    go_wp2_with (first | fail | (go_at_call 62; refine (HDG.out _).mono ?_; rintro e wd ⟨rfl, hwd⟩; rw [hwd]; clear hwd))
    refine hfl.mono ?_; rintro e w3 ⟨rfl, hqx, hu⟩
    have HQ := Lib.hid (And.intro hqx (HU.out.trans hu))
    clear hfl hqx hu
    unfold noV
    go_wp2
    exact ⟨rfl, pj_bad HJ2.out HQ.out.1 ((Upd.of_below HB1.out (some R)).trans HQ.out.2)⟩
theorem value_allO (s : ByteArray) (hs : s.size < 1099511627776) : ∀ (k : Nat), k ≤ 64 → JvalSaidO s k
  | 0, _ => value_stepO s hs 0 (by omega) (fun k' h => by cases h)
  | k + 1, hk => value_stepO s hs (k + 1) hk (fun k' h => by cases h; exact value_allO s hs k (by omega))
end Go.Proofs.YtbkbokfegjodnaaDoor
namespace Go.Proofs.YtbkbokfegjodnaaDoor
open Go.RowKit
/-- what Parse answers -/
def ParsePostO (s : ByteArray) (w : World) (r : Ending) (w' : World) : Prop :=
  ∃ (t : JV) (an : Option Addr) (cn : Nat) (ai : Option Addr) (ci : Nat) (e pl : Nat), r = .returned (.tuple #[.agg #[.int .i64 t.kind, .int .i64 t.int, .string t.text, .slice an t.names.length cn, .slice ai t.items.length ci], .int .i64 e, .int .i64 pl]) ∧
    RepO w' (fun b => w.heap.size ≤ b) t [.int .i64 t.kind, .int .i64 t.int, .string t.text, .slice an t.names.length cn, .slice ai t.items.length ci] ∧ Below w.heap.size w w' ∧
    (match jparse s.data.toList with | .ok v _ => t = v ∧ e = 0 ∧ pl = 0 | .bad e' p' => t = jnil 0 ∧ e = e' ∧ pl = p')
theorem toList_lenO (s : ByteArray) : s.data.toList.length = s.size := Array.length_toList
theorem block_allocO {w : World} {o p : Obj} {k : Nat} (h : w.heap[k]? = some o) : (w.alloc p).heap[k]? = some o :=
  (((Below.refl w.heap.size w).alloc (Nat.le_refl _) p).block k (Array.getElem?_eq_some_iff.1 h).1).trans h
theorem new_blockO (w : World) (c : Array Value) (T : TypeId) : (w.alloc (.cells c T)).heap[w.heap.size]? = some (.cells c T (0, 0)) := heap_alloc_new w _
/-- the four boxes and the reader of Parse -/
def BoxesO (w w1 : World) (c0 c1 c2 c3 c4 x y : Value) : Prop :=
  w1.heap[w.heap.size]? = some (.cells #[c0, c1, c2, c3, c4] 28 (0, 0)) ∧ w1.heap[w.heap.size + 1]? = some (.cells #[x] 23 (0, 0)) ∧ w1.heap[w.heap.size + 2]? = some (.cells #[y] 3 (0, 0)) ∧
    w1.cell? ⟨w.heap.size + 4, 0, none⟩ = some (.pointer (some ⟨w.heap.size + 3, 0, none⟩))
theorem BoxesO.upd {w w1 w2 : World} {c0 c1 c2 c3 c4 x y : Value} (h : BoxesO w w1 c0 c1 c2 c3 c4 x y) (hu : Upd w1 w2 (some (w.heap.size + 3)) (some (w.heap.size + 3))) : BoxesO w w2 c0 c1 c2 c3 c4 x y := by
  obtain ⟨h0, h1, h2, h3⟩ := h
  have ne : ∀ {k : Nat}, k ≠ w.heap.size + 3 → (some (w.heap.size + 3) : Option Nat) ≠ some k := fun h e => h (Option.some.inj e).symm
  have l0 := (Array.getElem?_eq_some_iff.1 h0).1
  have l1 := (Array.getElem?_eq_some_iff.1 h1).1
  have l2 := (Array.getElem?_eq_some_iff.1 h2).1
  have l3 : w.heap.size + 4 < w1.heap.size := cell_lt h3
  exact ⟨(hu.block l0 (ne (by omega))).trans h0, (hu.block l1 (ne (by omega))).trans h1, (hu.block l2 (ne (by omega))).trans h2, (World.cell?_of_block (w := w1) (hu.block l3 (ne (k := w.heap.size + 4) (by omega)))).trans h3⟩
theorem BoxesO.set {w w1 : World} {c0 c1 c2 c3 c4 x y d0 d1 d2 d3 d4 : Value} (h : BoxesO w w1 c0 c1 c2 c3 c4 x y) :
    BoxesO w (((((w1.setCell ⟨w.heap.size, 0, none⟩ d0).setCell ⟨w.heap.size, 1, none⟩ d1).setCell ⟨w.heap.size, 2, none⟩ d2).setCell ⟨w.heap.size, 3, none⟩ d3).setCell ⟨w.heap.size, 4, none⟩ d4) d0 d1 d2 d3 d4 x y :=
  ⟨set5 h.1, (other_set5 (by omega)).trans h.2.1, (other_set5 (by omega)).trans h.2.2.1, (World.cell?_of_block (w := w1) (other_set5 (by simp))).trans h.2.2.2⟩
theorem boxes_newO (w : World) (s : ByteArray) : BoxesO w (((((w.alloc (.cells #[.int .i64 0, .int .i64 0, .string ⟨#[]⟩, .slice none 0 0, .slice none 0 0] 28)).alloc (.cells #[.int .i64 0] 23)).alloc (.cells #[.int .i64 0] 3)).alloc (.cells #[.string s, .int .i64 0, .int .i64 0, .int .i64 0] 55)).alloc (.cells #[.pointer (some ⟨w.heap.size + 1 + 1 + 1, 0, none⟩)] 53)) (.int .i64 0) (.int .i64 0) (.string ⟨#[]⟩) (.slice none 0 0) (.slice none 0 0) (.int .i64 0) (.int .i64 0) ∧ SrAt (((((w.alloc (.cells #[.int .i64 0, .int .i64 0, .string ⟨#[]⟩, .slice none 0 0, .slice none 0 0] 28)).alloc (.cells #[.int .i64 0] 23)).alloc (.cells #[.int .i64 0] 3)).alloc (.cells #[.string s, .int .i64 0, .int .i64 0, .int .i64 0] 55)).alloc (.cells #[.pointer (some ⟨w.heap.size + 1 + 1 + 1, 0, none⟩)] 53)) (w.heap.size + 3) s ⟨0, 0, 0⟩ ∧ Below w.heap.size w (((((w.alloc (.cells #[.int .i64 0, .int .i64 0, .string ⟨#[]⟩, .slice none 0 0, .slice none 0 0] 28)).alloc (.cells #[.int .i64 0] 23)).alloc (.cells #[.int .i64 0] 3)).alloc (.cells #[.string s, .int .i64 0, .int .i64 0, .int .i64 0] 55)).alloc (.cells #[.pointer (some ⟨w.heap.size + 1 + 1 + 1, 0, none⟩)] 53)) := by
  have h0 := new_blockO w #[.int .i64 0, .int .i64 0, .string ⟨#[]⟩, .slice none 0 0, .slice none 0 0] 28
  have h1 := new_blockO (w.alloc (.cells #[.int .i64 0, .int .i64 0, .string ⟨#[]⟩, .slice none 0 0, .slice none 0 0] 28)) #[.int .i64 0] 23
  have h2 := new_blockO ((w.alloc (.cells #[.int .i64 0, .int .i64 0, .string ⟨#[]⟩, .slice none 0 0, .slice none 0 0] 28)).alloc (.cells #[.int .i64 0] 23)) #[.int .i64 0] 3
  have h4 := new_blockO ((((w.alloc (.cells #[.int .i64 0, .int .i64 0, .string ⟨#[]⟩, .slice none 0 0, .slice none 0 0] 28)).alloc (.cells #[.int .i64 0] 23)).alloc (.cells #[.int .i64 0] 3)).alloc (.cells #[.string s, .int .i64 0, .int .i64 0, .int .i64 0] 55)) #[.pointer (some ⟨w.heap.size + 1 + 1 + 1, 0, none⟩)] 53
  have hr := sr_new (w := (((w.alloc (.cells #[.int .i64 0, .int .i64 0, .string ⟨#[]⟩, .slice none 0 0, .slice none 0 0] 28)).alloc (.cells #[.int .i64 0] 23)).alloc (.cells #[.int .i64 0] 3))) (s := s) (T := 55)
  simp only [World.size_alloc] at h1 h2 h4 hr
  refine ⟨⟨block_allocO (block_allocO (block_allocO (block_allocO h0))), block_allocO (block_allocO (block_allocO h1)), block_allocO (block_allocO h2), cell_of_row _ _ _ _ _ _ h4⟩, hr.below ((Below.refl _ _).alloc (Nat.le_refl _) _), ?_⟩
  exact (((((Below.refl _ _).alloc (Nat.le_refl _) _).alloc (by simp) _).alloc (by simp; omega) _).alloc (by simp; omega) _).alloc (by simp; omega) _
/-- memory behind the last stores -/
theorem storedO {w w1 : World} {c0 c1 c2 c3 c4 x y d0 d1 d2 d3 d4 e pl : Value} (hb : Below w.heap.size w w1) (h0 : w1.heap[w.heap.size]? = some (.cells #[c0, c1, c2, c3, c4] 28 (0, 0))) (h1 : w1.heap[w.heap.size + 1]? = some (.cells #[x] 23 (0, 0))) (h2 : w1.heap[w.heap.size + 2]? = some (.cells #[y] 3 (0, 0))) :
    (((((((w1.setCell ⟨w.heap.size, 0, none⟩ d0).setCell ⟨w.heap.size, 1, none⟩ d1).setCell ⟨w.heap.size, 2, none⟩ d2).setCell ⟨w.heap.size, 3, none⟩ d3).setCell ⟨w.heap.size, 4, none⟩ d4).setCell ⟨w.heap.size + 1, 0, none⟩ e).setCell ⟨w.heap.size + 2, 0, none⟩ pl).heap[w.heap.size]? = some (.cells #[d0, d1, d2, d3, d4] 28 (0, 0)) ∧ (((((((w1.setCell ⟨w.heap.size, 0, none⟩ d0).setCell ⟨w.heap.size, 1, none⟩ d1).setCell ⟨w.heap.size, 2, none⟩ d2).setCell ⟨w.heap.size, 3, none⟩ d3).setCell ⟨w.heap.size, 4, none⟩ d4).setCell ⟨w.heap.size + 1, 0, none⟩ e).setCell ⟨w.heap.size + 2, 0, none⟩ pl).cell? ⟨w.heap.size + 1, 0, none⟩ = some e ∧ (((((((w1.setCell ⟨w.heap.size, 0, none⟩ d0).setCell ⟨w.heap.size, 1, none⟩ d1).setCell ⟨w.heap.size, 2, none⟩ d2).setCell ⟨w.heap.size, 3, none⟩ d3).setCell ⟨w.heap.size, 4, none⟩ d4).setCell ⟨w.heap.size + 1, 0, none⟩ e).setCell ⟨w.heap.size + 2, 0, none⟩ pl).cell? ⟨w.heap.size + 1 + 1, 0, none⟩ = some pl ∧ Below w.heap.size w (((((((w1.setCell ⟨w.heap.size, 0, none⟩ d0).setCell ⟨w.heap.size, 1, none⟩ d1).setCell ⟨w.heap.size, 2, none⟩ d2).setCell ⟨w.heap.size, 3, none⟩ d3).setCell ⟨w.heap.size, 4, none⟩ d4).setCell ⟨w.heap.size + 1, 0, none⟩ e).setCell ⟨w.heap.size + 2, 0, none⟩ pl) ∧ (∀ b, b ≠ w.heap.size → b ≠ w.heap.size + 1 → b ≠ w.heap.size + 2 → (((((((w1.setCell ⟨w.heap.size, 0, none⟩ d0).setCell ⟨w.heap.size, 1, none⟩ d1).setCell ⟨w.heap.size, 2, none⟩ d2).setCell ⟨w.heap.size, 3, none⟩ d3).setCell ⟨w.heap.size, 4, none⟩ d4).setCell ⟨w.heap.size + 1, 0, none⟩ e).setCell ⟨w.heap.size + 2, 0, none⟩ pl).heap[b]? = w1.heap[b]?) := by
  have k0 := set5 (c0 := d0) (c1 := d1) (c2 := d2) (c3 := d3) (c4 := d4) h0
  have ko := fun b (hb : b ≠ w.heap.size) => other_set5 (w := w1) (B := w.heap.size) (b := b) (c0 := d0) (c1 := d1) (c2 := d2) (c3 := d3) (c4 := d4) hb
  have k1 := (ko (w.heap.size + 1) (by omega)).trans h1
  have k2 := (ko (w.heap.size + 2) (by omega)).trans h2
  have hb := below_set5 (c0 := d0) (c1 := d1) (c2 := d2) (c3 := d3) (c4 := d4) hb (Nat.le_refl w.heap.size)
  generalize ((((w1.setCell ⟨w.heap.size, 0, none⟩ d0).setCell ⟨w.heap.size, 1, none⟩ d1).setCell ⟨w.heap.size, 2, none⟩ d2).setCell ⟨w.heap.size, 3, none⟩ d3).setCell ⟨w.heap.size, 4, none⟩ d4 = W at *
  refine ⟨?_, ?_, ?_, (hb.setCell (by simp) _).setCell (by simp) _, ?_⟩
  · rw [heap_setCell_other _ _ _ _ (by simp), heap_setCell_other _ _ _ _ (by simp)]; exact k0
  · rw [setO (by simp)]
    exact setS (cell_of_row _ _ 0 _ _ _ k1)
  · exact setS (a := ⟨w.heap.size + 2, 0, none⟩) (by rw [setO (by simp)]; exact cell_of_row _ _ 0 _ _ _ k2)
  · intro b e0 e1 e2
    rw [heap_setCell_other _ _ _ _ e2, heap_setCell_other _ _ _ _ e1]; exact ko b e0
theorem caughtO {w w1 : World} {c0 c1 c2 c3 c4 x y d0 d1 d2 d3 d4 e pl : Value} (hb : Below w.heap.size w w1) (h0 : w1.heap[w.heap.size]? = some (.cells #[c0, c1, c2, c3, c4] 28 (0, 0))) (h1 : w1.heap[w.heap.size + 1]? = some (.cells #[x] 23 (0, 0))) (h2 : w1.heap[w.heap.size + 2]? = some (.cells #[y] 3 (0, 0))) :
    (World.drew (((((((w1.setCell ⟨w.heap.size, 0, none⟩ d0).setCell ⟨w.heap.size, 1, none⟩ d1).setCell ⟨w.heap.size, 2, none⟩ d2).setCell ⟨w.heap.size, 3, none⟩ d3).setCell ⟨w.heap.size, 4, none⟩ d4).setCell ⟨w.heap.size + 1, 0, none⟩ e).setCell ⟨w.heap.size + 2, 0, none⟩ pl)).heap[w.heap.size]? = some (.cells #[d0, d1, d2, d3, d4] 28 (0, 0)) ∧ (World.drew (((((((w1.setCell ⟨w.heap.size, 0, none⟩ d0).setCell ⟨w.heap.size, 1, none⟩ d1).setCell ⟨w.heap.size, 2, none⟩ d2).setCell ⟨w.heap.size, 3, none⟩ d3).setCell ⟨w.heap.size, 4, none⟩ d4).setCell ⟨w.heap.size + 1, 0, none⟩ e).setCell ⟨w.heap.size + 2, 0, none⟩ pl)).cell? ⟨w.heap.size + 1, 0, none⟩ = some e ∧ (World.drew (((((((w1.setCell ⟨w.heap.size, 0, none⟩ d0).setCell ⟨w.heap.size, 1, none⟩ d1).setCell ⟨w.heap.size, 2, none⟩ d2).setCell ⟨w.heap.size, 3, none⟩ d3).setCell ⟨w.heap.size, 4, none⟩ d4).setCell ⟨w.heap.size + 1, 0, none⟩ e).setCell ⟨w.heap.size + 2, 0, none⟩ pl)).cell? ⟨w.heap.size + 1 + 1, 0, none⟩ = some pl ∧ Below w.heap.size w (World.drew (((((((w1.setCell ⟨w.heap.size, 0, none⟩ d0).setCell ⟨w.heap.size, 1, none⟩ d1).setCell ⟨w.heap.size, 2, none⟩ d2).setCell ⟨w.heap.size, 3, none⟩ d3).setCell ⟨w.heap.size, 4, none⟩ d4).setCell ⟨w.heap.size + 1, 0, none⟩ e).setCell ⟨w.heap.size + 2, 0, none⟩ pl)) := by
  obtain ⟨g1, g2, g3, g4, -⟩ := storedO (d0 := d0) (d1 := d1) (d2 := d2) (d3 := d3) (d4 := d4) (e := e) (pl := pl) hb h0 h1 h2
  generalize ((((((w1.setCell ⟨w.heap.size, 0, none⟩ d0).setCell ⟨w.heap.size, 1, none⟩ d1).setCell ⟨w.heap.size, 2, none⟩ d2).setCell ⟨w.heap.size, 3, none⟩ d3).setCell ⟨w.heap.size, 4, none⟩ d4).setCell ⟨w.heap.size + 1, 0, none⟩ e).setCell ⟨w.heap.size + 2, 0, none⟩ pl = W at *
  exact ⟨g1, g2, g3, g4.drew⟩
set_option maxHeartbeats 4000000 in
theorem parse_longO (s : ByteArray) (hs : 65536 < s.size) (w : World) : Calls Tryd.prog 16 #[.string s] w (ParsePostO s w) := by
  have hl : (65536 : Int) < s.size := by omega
  have hj : jparse s.data.toList = .bad 1 0 := by unfold jparse; rw [toList_lenO, if_pos hs]
  have HJ := Lib.hid hj
  clear hj
  have h0 := new_blockO w #[.int .i64 0, .int .i64 0, .string ⟨#[]⟩, .slice none 0 0, .slice none 0 0] 28
  have h1 := new_blockO (w.alloc (.cells #[.int .i64 0, .int .i64 0, .string ⟨#[]⟩, .slice none 0 0, .slice none 0 0] 28)) #[.int .i64 1] 23
  have h2 := new_blockO ((w.alloc (.cells #[.int .i64 0, .int .i64 0, .string ⟨#[]⟩, .slice none 0 0, .slice none 0 0] 28)).alloc (.cells #[.int .i64 1] 23)) #[.int .i64 0] 3
  simp only [World.size_alloc] at h1 h2
  have H0 := Lib.hid (block_allocO (p := .cells #[.int .i64 0] 3) (block_allocO (p := .cells #[.int .i64 1] 23) h0))
  have H1 := Lib.hid (block_allocO (p := .cells #[.int .i64 0] 3) h1)
  have H2 := Lib.hid h2
  clear h0 h1 h2
  go_enter_defers Tryd.func16, Tryd.ntmps16
  go_wp2
  refine ⟨_, results_cell3 rfl _ _ w.heap.size (w.heap.size + 1) (w.heap.size + 1 + 1) 28 _ (0, 0) _ _ _ _ _ (by rfl) (by rfl) (by rfl) H0.out (cell_of_row _ _ _ _ _ _ H1.out) (cell_of_row _ _ _ _ _ _ H2.out) Tryd.underlying28 rfl (by kernel_rfl) Tryd.underlying23 rfl Tryd.underlying3 rfl, ?_⟩
  exact ⟨jnil 0, none, 0, none, 0, 1, 0, rfl, repO_flat 0 0 ⟨#[]⟩ (by omega) (by omega) (Nat.zero_le _) _ _, (((Below.refl _ _).alloc (Nat.le_refl _) _).alloc (by simp) _).alloc (by simp; omega) _, by rw [HJ.out]; exact ⟨rfl, rfl, rfl⟩⟩
set_option maxRecDepth 20000 in
set_option maxHeartbeats 8000000 in
theorem parse_cO (s : ByteArray) (w : World) (hw : 4 ≤ w.heap.size) (hT : Lib.Utf8Tabs 0 1 w) (hE : ErrV w) : Calls Tryd.prog 16 #[.string s] w (ParsePostO s w) := by
  by_cases hs : 65536 < s.size
  · exact parse_longO s hs w
  have hl : ¬ (65536 : Int) < s.size := by omega
  have hjp : jparse s.data.toList = (match jval s.size 64 (jbl s.data.toList) with | .bad e p => .bad e p | .ok v r => match jbl r with | [] => .ok v [] | _ :: r2 => .bad 4 (s.size - (r2.length + 1))) := by
    unfold jparse; rw [toList_lenO, if_neg hs]; rfl
  have hmf : ∀ (fn : Fn) (first cap : Array Value) (w : World), (Instr.makeFunc fn first cap).run Tryd.prog w = .ok (.func fn first cap) w := fun _ _ _ _ => rfl
  obtain ⟨hbx, hsr, hbl⟩ := boxes_newO w s
  have hb0 := blanks_c (w.heap.size + 3) s 0 (by omega) _ hsr
  have hww := hbl.size
  have HT0 := Lib.hid (tabs_upd hT (Upd.of_below hbl (some (w.heap.size + 3))) (by omega))
  have HE0 := Lib.hid (hE.below hbl)
  have HB0 := Lib.hid hbx
  have HG0 := Lib.hid hbl
  have HJP := Lib.hid hjp
  have hz5 : w.heap.size + 4 < (((((w.alloc (.cells #[.int .i64 0, .int .i64 0, .string ⟨#[]⟩, .slice none 0 0, .slice none 0 0] 28)).alloc (.cells #[.int .i64 0] 23)).alloc (.cells #[.int .i64 0] 3)).alloc (.cells #[.string s, .int .i64 0, .int .i64 0, .int .i64 0] 55)).alloc (.cells #[.pointer (some ⟨w.heap.size + 1 + 1 + 1, 0, none⟩)] 53)).heap.size := cell_lt hbx.2.2.2
  clear hbx hsr hbl hT hE hjp
  go_enter_defers Tryd.func16, Tryd.ntmps16
  go_wp2_with fail
  refine hb0.mono ?_; rintro e w1 ⟨rfl, q, hpq, hqs, hdq, hsr1, hu1⟩
  have hs1 : w.heap.size + 4 < w1.heap.size := Nat.lt_of_lt_of_le hz5 hu1.grown.size
  have HB1 := Lib.hid (HB0.out.upd hu1)
  have HG1 := Lib.hid (HG0.out.trans (hu1.below hww (fun g hg => by have := Option.some.inj hg; omega)))
  have hval := value_allO s (by omega) 64 (Nat.le_refl _) (w.heap.size + 3) q w1 (by omega) hsr1 (tabs_upd HT0.out hu1 (by omega)) (HE0.out.upd hu1 (by omega)) 0 (by decide)
  have hJ := HJP.out
  rw [show jbl s.data.toList = s.data.toList.drop q from by rw [hdq, List.drop_zero]] at hJ
  have c5 : w1.cell? ⟨w.heap.size + 1 + 1 + 1 + 1, 0, none⟩ = some (.pointer (some ⟨w.heap.size + 1 + 1 + 1, 0, none⟩)) := HB1.out.2.2.2
  clear hb0 hdq hsr1 hu1 hz5 hww HT0 HE0 HB0 HG0 HJP
  cases hjv : jval s.size 64 (s.data.toList.drop q) with
  | bad er pl =>
    rw [hjv] at hval hJ
    have HJ2 := Lib.hid (show jparse s.data.toList = JR.bad er pl from hJ)
    clear hJ hjv
    go_wp2_with fail
    refine hval.mono ?_; rintro e w3 ⟨rfl, ⟨qx, hqx⟩, hu3⟩
    have HB3 := Lib.hid (HB1.out.upd hu3)
    have HG3 := Lib.hid (HG1.out.trans (hu3.below (by omega) (fun g hg => by have := Option.some.inj hg; omega)))
    have HQ := Lib.hid (And.intro hqx True.intro)
    clear hval hqx hu3 c5 HB1 HG1
    unfold noV
    go_wp2
    refine leaves_cons (f := 41) (args := #[.pointer (some ⟨w.heap.size + 1 + 1 + 1 + 1, 0, none⟩), .pointer (some ⟨w.heap.size, 0, none⟩), .pointer (some ⟨w.heap.size + 1, 0, none⟩), .pointer (some ⟨w.heap.size + 1 + 1, 0, none⟩)]) (by simp) (by simp [go_sem]) ?_
    refine (catch_p w.heap.size (w.heap.size + 3) s ⟨qx, er, pl⟩ _ _ _ _ _ _ _ _ _ _ HB3.out.1 HB3.out.2.1 HB3.out.2.2.1 HB3.out.2.2.2 HQ.out.1).mono ?_
    rintro e u' w9 ⟨rfl, rfl, hw9⟩
    obtain ⟨g1, g2, g3, g4⟩ := caughtO (w := w) (d0 := .int .i64 0) (d1 := .int .i64 0) (d2 := .string ⟨#[]⟩) (d3 := .slice none 0 0) (d4 := .slice none 0 0) (e := .int .i64 er) (pl := .int .i64 pl) HG3.out HB3.out.1 HB3.out.2.1 HB3.out.2.2.1
    subst hw9
    show Leaves _ _ _ _ _ (settle _) _
    simp only [settle]
    refine ⟨_, results_cell3 rfl _ _ w.heap.size (w.heap.size + 1) (w.heap.size + 1 + 1) 28 _ (0, 0) _ _ _ _ _ (by rfl) (by rfl) (by rfl) g1 g2 g3 Tryd.underlying28 rfl (by kernel_rfl) Tryd.underlying23 rfl Tryd.underlying3 rfl, ?_⟩
    exact ⟨jnil 0, none, 0, none, 0, er, pl, rfl, repO_flat 0 0 ⟨#[]⟩ (by omega) (by omega) (Nat.zero_le _) _ _, g4, by rw [HJ2.out]; exact ⟨rfl, rfl, rfl⟩⟩
  | ok t r2 =>
    rw [hjv] at hval hJ
    simp only at hJ
    clear hjv
    go_wp2_with fail
    refine hval.mono ?_; rintro e w3 ⟨q3, v, rfl, ⟨tan, tcn, tai, tci, rfl, hrep⟩, hr3, hpq3, hqs3, hsr3, hu3⟩
    have hb3 := HB1.out.upd hu3
    have HG3' := Lib.hid (HG1.out.trans (hu3.below (by omega) (fun g hg => by have := Option.some.inj hg; omega)))
    have hs3 : w.heap.size + 4 < w3.heap.size := Nat.lt_of_lt_of_le hs1 hu3.grown.size
    obtain ⟨⟨z0, z1, z2, z3, z4⟩, y0, y1, y2, y3, y4⟩ := cellsOf5 hb3.1
    have c5' : w3.cell? ⟨w.heap.size + 1 + 1 + 1 + 1, 0, none⟩ = some (.pointer (some ⟨w.heap.size + 1 + 1 + 1, 0, none⟩)) := hb3.2.2.2
    have hbl2 := blanks_c (w.heap.size + 3) s q3 (by omega) _ (hsr3.after (other_set5 (B := w.heap.size) (c0 := .int .i64 t.kind) (c1 := .int .i64 t.int) (c2 := .string t.text) (c3 := .slice tan t.names.length tcn) (c4 := .slice tai t.items.length tci) (by omega)))
    have HB3' := Lib.hid hb3
    have HREP := Lib.hid hrep
    rw [hr3] at hJ
    clear hval c5 hb3 hrep hr3 hsr3 hu3 HB1 HG1
    go_wp2_with fail
    refine hbl2.mono ?_; rintro e w6 ⟨rfl, q6, hpq6, hqs6, hdq6, hsr6, hu6⟩
    have hb6 := HB3'.out.set.upd hu6
    have hG6 := (below_set5 (c0 := .int .i64 t.kind) (c1 := .int .i64 t.int) (c2 := .string t.text) (c3 := .slice tan t.names.length tcn) (c4 := .slice tai t.items.length tci) HG3'.out (Nat.le_refl w.heap.size)).trans (hu6.below (by simp; omega) (fun g hg => by have := Option.some.inj hg; omega))
    have hR6 : RepO w6 (fun b => w.heap.size ≤ b ∧ b ≠ w.heap.size ∧ b ≠ w.heap.size + 1 ∧ b ≠ w.heap.size + 2) t [.int .i64 t.kind, .int .i64 t.int, .string t.text, .slice tan t.names.length tcn, .slice tai t.items.length tci] :=
      RepO.kept (fun b hlt hb => ⟨by omega, (hu6.block (by simp; exact hlt) (fun e => by have := Option.some.inj e; omega)).trans (other_set5 (by omega))⟩) _ _ HREP.out
    have HB6 := Lib.hid hb6
    have HG6 := Lib.hid hG6
    have HR6 := Lib.hid hR6
    have HS6 := Lib.hid hsr6
    have c5 : w6.cell? ⟨w.heap.size + 1 + 1 + 1 + 1, 0, none⟩ = some (.pointer (some ⟨w.heap.size + 1 + 1 + 1, 0, none⟩)) := hb6.2.2.2
    have r1 : w6.cell? ⟨w.heap.size + 1 + 1 + 1, 1, none⟩ = some (.int .i64 q6) := hsr6.c1
    have hs6 : w.heap.size + 4 < w6.heap.size := cell_lt c5
    rw [← hdq6] at hJ
    clear c5' z0 z1 z2 z3 z4 y0 y1 y2 y3 y4 hbl2 hu6 hdq6 hsr6 hb6 hG6 hR6 HB3' HG3' HREP
    by_cases hq : q6 < s.size
    · obtain ⟨x, r, hx⟩ : ∃ x r, s.data.toList.drop q6 = x :: r := ⟨_, _, rest_cons hq⟩
      have hpl := (drop_parts hx).2.2
      rw [hx] at hJ
      have HJ2 := Lib.hid (show jparse s.data.toList = JR.bad 4 q6 from by rw [hJ]; show JR.bad 4 (s.size - (r.length + 1)) = _; rw [hpl])
      have hq2 : (q6 : Int) < s.size := by omega
      have hfl := fun (W : World) (hW : SrAt W (w.heap.size + 3) s ⟨q6, 0, 0⟩) => pfail_c (w.heap.size + 3) s ⟨q6, 0, 0⟩ 4 q6 W hW
      clear hJ hx hpl
      go_wp2_with fail
      first | (go_region_law (first
        | (go_simp; go_at_call 44; refine (hfl w6.drew (HS6.out.same (w' := w6.drew) rfl)).mono ?_; rintro e w3 ⟨rfl, hqx, hu3'⟩; have hu3 := (Upd.of_below (Below.drew (Below.refl w6.heap.size w6)) (some (w.heap.size + 3))).trans hu3'; clear hu3'; have HB3 := Lib.hid (HB6.out.upd hu3); have HG3 := Lib.hid (HG6.out.trans (hu3.below (by omega) (fun g hg => by have := Option.some.inj hg; omega))); have HQ := Lib.hid (And.intro hqx True.intro); clear hqx hu3; unfold noV; refine wpAny_out (P := Tryd.prog) ⟨#[], []⟩ w3 ?_))) | fail
      all_goals (
        refine leaves_cons (f := 41) (args := #[.pointer (some ⟨w.heap.size + 1 + 1 + 1 + 1, 0, none⟩), .pointer (some ⟨w.heap.size, 0, none⟩), .pointer (some ⟨w.heap.size + 1, 0, none⟩), .pointer (some ⟨w.heap.size + 1 + 1, 0, none⟩)]) (by simp) (by simp [go_sem]) ?_
        refine (catch_p w.heap.size (w.heap.size + 3) s ⟨q6, 4, q6⟩ _ _ _ _ _ _ _ _ _ _ HB3.out.1 HB3.out.2.1 HB3.out.2.2.1 HB3.out.2.2.2 HQ.out.1).mono ?_
        rintro e u' w9 ⟨rfl, rfl, hw9⟩
        obtain ⟨g1, g2, g3, g4⟩ := caughtO (w := w) (d0 := .int .i64 0) (d1 := .int .i64 0) (d2 := .string ⟨#[]⟩) (d3 := .slice none 0 0) (d4 := .slice none 0 0) (e := .int .i64 4) (pl := .int .i64 q6) HG3.out HB3.out.1 HB3.out.2.1 HB3.out.2.2.1
        subst hw9
        show Leaves _ _ _ _ _ (settle _) _
        simp only [settle]
        refine ⟨_, results_cell3 rfl _ _ w.heap.size (w.heap.size + 1) (w.heap.size + 1 + 1) 28 _ (0, 0) _ _ _ _ _ (by rfl) (by rfl) (by rfl) g1 g2 g3 Tryd.underlying28 rfl (by kernel_rfl) Tryd.underlying23 rfl Tryd.underlying3 rfl, ?_⟩
        exact ⟨jnil 0, none, 0, none, 0, 4, q6, rfl, repO_flat 0 0 ⟨#[]⟩ (by omega) (by omega) (Nat.zero_le _) _ _, g4, by rw [HJ2.out]; exact ⟨rfl, rfl, rfl⟩⟩)
    · have hjn : s.data.toList.drop q6 = [] := rest_nil hq
      rw [hjn] at hJ
      have HJ2 := Lib.hid (show jparse s.data.toList = JR.ok t [] from hJ)
      have hq2 : ¬ (q6 : Int) < s.size := by omega
      obtain ⟨⟨z0, z1, z2, z3, z4⟩, y0, y1, y2, y3, y4⟩ := cellsOf5 HB6.out.1
      have e0 : w6.cell? ⟨w.heap.size + 1, 0, none⟩ = some (.int .i64 0) := cell_of_row _ _ 0 _ _ _ HB6.out.2.1
      have e1 : w6.frozen? ⟨w.heap.size + 1, 0, none⟩ = false := frozen_of_row _ _ 0 _ _ HB6.out.2.1
      have p0 : w6.cell? ⟨w.heap.size + 1 + 1, 0, none⟩ = some (.int .i64 0) := cell_of_row _ _ 0 _ _ _ HB6.out.2.2.1
      have p1 : w6.frozen? ⟨w.heap.size + 1 + 1, 0, none⟩ = false := frozen_of_row _ _ 0 _ _ HB6.out.2.2.1
      clear hJ hjn
      go_wp2
      refine leaves_cons (f := 41) (args := #[.pointer (some ⟨w.heap.size + 1 + 1 + 1 + 1, 0, none⟩), .pointer (some ⟨w.heap.size, 0, none⟩), .pointer (some ⟨w.heap.size + 1, 0, none⟩), .pointer (some ⟨w.heap.size + 1 + 1, 0, none⟩)]) (by simp) (by simp [go_sem]) ?_
      refine (catch_r _ _ _ _ _).mono ?_
      rintro e u' w9 ⟨rfl, rfl, hw9⟩
      obtain ⟨g1, g2, g3, g4, g5⟩ := storedO (w := w) (d0 := .int .i64 t.kind) (d1 := .int .i64 t.int) (d2 := .string t.text) (d3 := .slice tan t.names.length tcn) (d4 := .slice tai t.items.length tci) (e := .int .i64 0) (pl := .int .i64 0) HG6.out HB6.out.1 HB6.out.2.1 HB6.out.2.2.1
      subst hw9
      show Leaves _ _ _ _ _ (settle _) _
      simp only [settle]
      refine ⟨_, results_cell3 rfl _ _ w.heap.size (w.heap.size + 1) (w.heap.size + 1 + 1) 28 _ (0, 0) _ _ _ _ _ (by rfl) (by rfl) (by rfl) g1 g2 g3 Tryd.underlying28 rfl (by kernel_rfl) Tryd.underlying23 rfl Tryd.underlying3 rfl, ?_⟩
      exact ⟨t, tan, tcn, tai, tci, 0, 0, rfl, RepO.kept (fun b hlt hb => ⟨hb.1, g5 b hb.2.1 hb.2.2.1 hb.2.2.2⟩) _ _ HR6.out, g4, by rw [HJ2.out]; exact ⟨rfl, rfl, rfl⟩⟩

end Go.Proofs.YtbkbokfegjodnaaDoor
