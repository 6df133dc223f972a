/- The walk of the document reader's list. Conditions: a text has less than 2 to the 40 bytes. -/
import Derived.Test.YtbkbokfegjodnaaDoorDitd
import Derived.Deep.RegionHeld3
namespace Go.Proofs.YtbkbokfegjodnaaDoor
open Go.RowKit
/-- what value comes to: a tree of new memory; where there was no fault, the one that was read -/
def DvPost (R : Nat) (s : ByteArray) (p : Nat) (w : World) (res : JR JV) (e : Ending) (w' : World) : Prop :=
  ∃ (t : JV) (an : Option Addr) (cn : Nat) (ai : Option Addr) (ci : Nat), e = .returned (.agg #[.int .i64 t.kind, .int .i64 t.int, .string t.text, .slice an t.names.length cn, .slice ai t.items.length ci]) ∧
    Rep w' (fun b => w.heap.size ≤ b) t [.int .i64 t.kind, .int .i64 t.int, .string t.text, .slice an t.names.length cn, .slice ai t.items.length ci] ∧ Upd w w' (some R) (some R) ∧
    match res with
    | .ok u r => t = u ∧ ∃ q, RestAt s q r ∧ p ≤ q ∧ q ≤ s.size ∧ SrAt w' R s ⟨q, 0, 0⟩
    | .bad er pl => FltAt w' R s er pl
def DvalSaid (s : ByteArray) (k : Nat) : Prop := ∀ (R p : Nat) (w : World), SrAt w R s ⟨p, 0, 0⟩ → ∀ (d : Int), d = 64 - k →
    Calls Tryd.prog 46 #[.pointer (some ⟨R, 0, none⟩), .int .i64 d] w (DvPost R s p w (jval s.size k (s.data.toList.drop p)))
theorem jhead_nil {N : Nat} {deep : Bool → List UInt8 → JR JV} : jhead N deep [] = .bad 3 N := rfl
theorem jval_nil {N k : Nat} : jval N k [] = .bad 3 N := by cases k <;> rfl
/-- the items of a list from a place on -/
def Dits (s : ByteArray) (k : Nat) (q f : Nat) (is : List JV) : JR JV :=
  match jval s.size k (s.data.toList.drop q) with
  | .bad e p => .bad e p
  | .ok v r4 => jitems s.size (jval s.size k) false f r4 [] (is ++ [v])
theorem jitems_more {N : Nat} {val : List UInt8 → JR JV} {f : Nat} {r : List UInt8} {is : List JV} (h : is ≠ []) :
    jitems N val false (f + 1) r [] is = match jmore N false 93 r with | .bad e p => .bad e p | .ok false r2 => .ok (.mk 5 0 ⟨#[]⟩ [] is) r2 | .ok true r2 => match val r2 with | .bad e p => .bad e p | .ok v r4 => jitems N val false f r4 [] (is ++ [v]) := by
  rw [jitems]
  rw [show is.isEmpty = false by cases is; exact absurd rfl h; rfl]
  simp only [Bool.false_eq_true, if_false]
  cases jmore N false 93 r with
  | bad e p => rfl
  | ok b r2 => cases b <;> rfl
set_option maxRecDepth 20000 in
set_option maxHeartbeats 8000000 in
theorem dlist_c (s : ByteArray) (hs : s.size < 1099511627776) (k : Nat) (hk : k < 64) (ih : DvalSaid s k) (R p : Nat) (c0 : UInt8) (l : List UInt8) (hl : s.data.toList.drop p = c0 :: l) (w : World) (h : SrAt w R s ⟨p, 0, 0⟩) (d : Int) (hd : d = 63 - k) :
    Calls Tryd.prog 71 #[.pointer (some ⟨R, 0, none⟩), .int .i64 d] w (DvPost R s p w (jitems s.size (jval s.size k) false (l.length + 1) l [] [])) := by
  subst hd
  have hb1 : Below w.heap.size w (w.alloc (.cells #[.int .i64 0, .int .i64 0, .string ⟨#[]⟩, .slice none 0 0, .slice none 0 0] 28)) := (Below.refl _ _).alloc (Nat.le_refl _) _
  have hrd := h.below hb1
  have hRl := h.lt
  have HIH := Lib.hid ih
  have HB1 := Lib.hid hb1
  have hz0 := heap_alloc_new w (.cells #[.int .i64 0, .int .i64 0, .string ⟨#[]⟩, .slice none 0 0, .slice none 0 0] 28)
  have HZ0 := Lib.hid hz0
  obtain ⟨hpp, hdp, _⟩ := drop_parts hl
  have hll : l.length = s.size - (p + 1) := by rw [← hdp, List.length_drop, Array.length_toList]; rfl
  obtain ⟨res, hres⟩ : ∃ res, jitems s.size (jval s.size k) false (l.length + 1) l [] [] = res := ⟨_, rfl⟩
  rw [hres]
  rw [jitems] at hres
  simp only [List.isEmpty_nil, Bool.false_eq_true, if_false] at hres
  have HRES := Lib.hid hres
  clear h hb1 ih hz0 hres
  generalize hw1 : (w.alloc (.cells #[.int .i64 0, .int .i64 0, .string ⟨#[]⟩, .slice none 0 0, .slice none 0 0] 28)) = w1 at *
  have hs1 : w1.heap.size = w.heap.size + 1 := by rw [← hw1]; simp
  have START := Lib.hid (show Itd w1 R w1.heap.size 5 [] [] (.slice none 0 0) (.slice none 0 0) [] (w1.alloc (.cells #[.int .i64 5, .int .i64 0, .string ⟨#[]⟩, .slice none 0 0, .slice none 0 0] 28)) ∧ SrAt (w1.alloc (.cells #[.int .i64 5, .int .i64 0, .string ⟨#[]⟩, .slice none 0 0, .slice none 0 0] 28)) R s ⟨p, 0, 0⟩ from by
    have hbS : Below w1.heap.size w1 (w1.alloc (.cells #[.int .i64 5, .int .i64 0, .string ⟨#[]⟩, .slice none 0 0, .slice none 0 0] 28)) := (Below.refl _ _).alloc (Nat.le_refl _) _
    have hzS : (w1.alloc (.cells #[.int .i64 5, .int .i64 0, .string ⟨#[]⟩, .slice none 0 0, .slice none 0 0] 28)).heap[w1.heap.size]? = some (.cells #[.int .i64 5, .int .i64 0, .string ⟨#[]⟩, .slice none 0 0, .slice none 0 0] 28 (0, 0)) := heap_alloc_new w1 _
    exact ⟨⟨hrd.lt, Upd.of_below hbS _, Nat.le_refl _, hzS, row_nil _ _ _, row_nil _ _ _, fun g hg => (by cases hg), fun g hg => (by cases hg), rfl⟩, hrd.below hbS⟩)
  have hRw : R ≠ w.heap.size := by omega
  have hVR : R ≠ w.heap.size + 1 := by omega
  have HEM := Lib.hid (dempty_c R s p 93 c0 l hl (by omega) _ START.out.2)
  clear hrd hl hdp
  subst hw1
  simp only [World.size_alloc] at START
  go_enter Tryd.func71, Tryd.ntmps71
  go_wp2_with fail
  refine HEM.out.mono ?_; rintro e we he
  have hRES := HRES.out
  cases hm : jmore s.size true 93 l with
  | bad er pl =>
    rw [hm] at he
    simp only [hm] at hRES
    obtain ⟨v, rfl, rfl, hf, hu⟩ := he
    have HI := Lib.hid (START.out.1.move hu)
    have HF := Lib.hid hf
    have HB := Lib.hid hRES
    clear hf hu hRES HEM START HRES
    have hz := (HI.out.upd.block (k := w.heap.size) (by simp) (fun e => hRw (Option.some.inj e))).trans HZ0.out
    obtain ⟨⟨z0, z1, z2, z3, z4⟩, y0, y1, y2, y3, y4⟩ := cellsOf5 hz
    obtain ⟨⟨c0, c1, c2, c3, c4⟩, _⟩ := cellsOf5 HI.out.blk
    have HZ := Lib.hid hz
    clear hz
    go_wp2
    (try simp only [Exit.inBlock, Exit.then])
    refine bodyPost_ret (results_cell_row rfl _ _ w.heap.size 28 _ (0, 0) _ (by rfl) (set5 HZ.out) Tryd.underlying28 rfl (by kernel_rfl)) rfl ?_
    have hU := ((Upd.of_below HB1.out (some R)).trans HI.out.upd).trans_below (below_set5 (c0 := .int .i64 5) (c1 := .int .i64 0) (c2 := .string ⟨#[]⟩) (c3 := .slice none 0 0) (c4 := .slice none 0 0) (Below.refl w.heap.size we) (Nat.le_refl _))
    exact ⟨.mk 5 0 ⟨#[]⟩ [] [], none, 0, none, 0, rfl, rep_flat 5 0 ⟨#[]⟩ (by omega) (by omega) (by decide) _ _, hU, by rw [← HB.out]; exact HF.out.after (other_set5 hRw)⟩
  | ok b r2 =>
    rw [hm] at he
    simp only [hm] at hRES
    obtain ⟨q, v, rfl, rfl, hr2, hpq, hqs, hsr, hu⟩ := he
    have HI := Lib.hid (START.out.1.move hu)
    have HS := Lib.hid hsr
    have HR2 := Lib.hid hr2
    cases b with
    | false =>
      have HB := Lib.hid (show JR.ok (JV.mk 5 0 ⟨#[]⟩ [] []) r2 = res from hRES)
      clear hsr hu hRES HEM START HRES hr2
      have hz := (HI.out.upd.block (k := w.heap.size) (by simp) (fun e => hRw (Option.some.inj e))).trans HZ0.out
      obtain ⟨⟨z0, z1, z2, z3, z4⟩, y0, y1, y2, y3, y4⟩ := cellsOf5 hz
      obtain ⟨⟨c0, c1, c2, c3, c4⟩, _⟩ := cellsOf5 HI.out.blk
      have HZ := Lib.hid hz
      clear hz
      go_wp2
      (try simp only [Exit.inBlock, Exit.then])
      refine bodyPost_ret (results_cell_row rfl _ _ w.heap.size 28 _ (0, 0) _ (by rfl) (set5 HZ.out) Tryd.underlying28 rfl (by kernel_rfl)) rfl ?_
      have hU := ((Upd.of_below HB1.out (some R)).trans HI.out.upd).trans_below (below_set5 (c0 := .int .i64 5) (c1 := .int .i64 0) (c2 := .string ⟨#[]⟩) (c3 := .slice none 0 0) (c4 := .slice none 0 0) (Below.refl w.heap.size we) (Nat.le_refl _))
      exact ⟨.mk 5 0 ⟨#[]⟩ [] [], none, 0, none, 0, rfl, rep_flat 5 0 ⟨#[]⟩ (by omega) (by omega) (by decide) _ _, hU, by rw [← HB.out]; exact ⟨rfl, q, .inl HR2.out.symm, by omega, hqs, HS.out.after (other_set5 hRw)⟩⟩
    | true =>
      have HB := Lib.hid (show Dits s k q l.length [] = res by unfold Dits; rw [← hr2]; exact hRES)
      clear hsr hu hRES HEM START HRES hr2 HR2 hm
      go_wp2
      go_loopg [] (s.size + 1) (fun gk wr => ∃ (q f : Nat) (is : List JV) (nv iv : Value) (xs : List Value), Hid (Itd (w.alloc (.cells #[.int .i64 0, .int .i64 0, .string ⟨#[]⟩, .slice none 0 0, .slice none 0 0] 28)) R (w.heap.size + 1) 5 [] is nv iv xs wr) ∧ Hid (SrAt wr R s ⟨q, 0, 0⟩) ∧ p ≤ q ∧ q ≤ s.size ∧ s.size - q < gk ∧ is.length ≤ q ∧ s.size - q ≤ f ∧ Hid (Dits s k q f is = res))
      case atStart => exact ⟨q, l.length, [], _, _, [], HI, HS, by omega, hqs, by omega, Nat.zero_le _, by omega, HB⟩
      case round =>
        clear HI HS HB
        obtain ⟨q, f, is, nv, iv, xs, HI, HS, hpq, hqs, hgk, hil, hf, HB⟩ := hrel
        have hdr := Lib.hid (Below.drew (Below.refl wr.heap.size wr))
        have HId := Lib.hid (HI.out.below hdr.out)
        have hcall := fun (d' : Int) (hd' : d' = 64 - k) => HIH.out R q wr.drew (HS.out.below hdr.out) d' hd'
        obtain ⟨⟨b0, b1, b2, b3, b4⟩, g0, g1, g2, g3, g4⟩ := cellsOf5 HI.out.blk
        have hiV : iv.ownBlock ≠ some (w.heap.size + 1) := fun e => (HI.out.fi _ e).2 rfl
        have hwd : wrap64 (63 - (k : Int) + 1) = 63 - (k : Int) + 1 := by unfold wrap64; omega
        have hB := HB.out
        unfold Dits at hB
        obtain ⟨rv, hrv⟩ : ∃ x, jval s.size k (s.data.toList.drop q) = x := ⟨_, rfl⟩
        rw [hrv] at hB
        have HBV := Lib.hid hB
        have HRV := Lib.hid hrv
        rw [hrv] at hcall
        clear HB hB hrv
        go_wp2_with fail
        go_region_law (first
            | (refine step_app valTy (by rfl) _ _ (by rfl) iv is.length xs (by rfl) (HIv.out.irow.below ((Below.refl _ _).alloc (Nat.le_refl _) _)) (some ⟨wv.heap.size, 0, none⟩) 1 1 [.int .i64 t.kind, .int .i64 t.int, .string t.text, .slice tan t.names.length tcn, .slice tai t.items.length tci] (by rfl) (by rfl) (by simp) (fun a ha => by cases ha; exact World.news_of_block (heap_alloc_new wv _)) (by simp [Value.oneCell']) (by unfold maxLen; omega) (by omega) ?_; intro iv' w3 hrow hu3; have hat := HIv.out.at ((Below.refl _ _).alloc (Nat.le_refl _) _) hu3 hiV; obtain ⟨⟨_, _, _, _, e43⟩, _, _, _, _, f43⟩ := cellsOf5 hat; clear hat; have HI3 := Lib.hid (HIv.out.item HId.out hrepv ((Below.refl _ _).alloc (Nat.le_refl _) _) hrow hu3); obtain ⟨g9, c9, hv9, _⟩ := hrow.form; subst hv9; clear hrow hu3 hrepv)
            | (go_simp; go_at_call 46; refine (hcall _ (by simp [IntKind.wrap, IntKind.signed, IntKind.bits]; omega)).mono ?_; rintro e wv ⟨t, tan, tcn, tai, tci, rfl, hrepv, hu4, hres4⟩; have HIv := Lib.hid (HId.out.move hu4); have HRES4 := Lib.hid hres4; have e41 := (cellsOf5 HIv.out.blk).1.2.2.2.2; have e42 := cell_below ((Below.refl wv.heap.size wv).alloc (Nat.le_refl _) (.cells #[.int .i64 t.kind, .int .i64 t.int, .string t.text, .slice tan t.names.length tcn, .slice tai t.items.length tci] 28)) e41; clear hu4 hres4))
        all_goals clear e41 e42 e43 f43 b0 b1 b2 b3 b4 g0 g1 g2 g3 g4 hcall
        all_goals go_wp2_with fail
        all_goals (
          have HI4 := Lib.hid HI3.out.1
          have HRB := Lib.hid HI3.out.2
          have hres4 := HRES4.out
          clear HI3 HRES4 HIv HId
          generalize w3.setCell ⟨w.heap.size + 1, 4, none⟩ (.slice g9 (is.length + 1) c9) = wI at *
          generalize (Value.slice g9 (is.length + 1) c9) = ivI at *
          cases rv with
          | bad er pl =>
            have HF := Lib.hid ((show FltAt wv R s er pl from hres4).after HRB.out)
            have HB := Lib.hid (show JR.bad er pl = res from HBV.out)
            refine (dcomma_bad R s er pl 93 wI HF.out).mono ?_; rintro e wz ⟨rfl, m, rfl⟩
            have HI5 := Lib.hid (HI4.out.below (below_drewN' wI m))
            have HF5 := Lib.hid (HF.out.same (w' := wI.drewN m) rfl)
            clear HI4 HF hres4 HBV HRV
            generalize wI.drewN m = wz at *
            obtain ⟨nsX, hnsX⟩ : ∃ x, ([] : List ByteArray) = x := ⟨_, rfl⟩
            obtain ⟨isX, hisX⟩ : ∃ x, (is ++ [t]) = x := ⟨_, rfl⟩
            rw [hnsX, hisX] at HI5
            have hz := (HI5.out.upd.block (k := w.heap.size) (by simp) (fun e => hRw (Option.some.inj e))).trans HZ0.out
            obtain ⟨⟨z0, z1, z2, z3, z4⟩, y0, y1, y2, y3, y4⟩ := cellsOf5 hz
            obtain ⟨⟨c0, c1, c2, c3, c4⟩, _⟩ := cellsOf5 HI5.out.blk
            have HNI := Lib.hid (And.intro hnsX hisX)
            clear hnsX hisX
            obtain ⟨an, cn, ai, ci, rfl, rfl, hrep⟩ := HI5.out.done (by omega)
            have HREP := Lib.hid hrep
            have HZ := Lib.hid hz
            clear hz hrep
            go_wp2
            (try simp only [Exit.inBlock, Exit.then])
            refine bodyPost_ret (results_cell_row rfl _ _ w.heap.size 28 _ (0, 0) _ (by rfl) (set5 HZ.out) Tryd.underlying28 rfl (by kernel_rfl)) rfl ?_
            have hU := ((Upd.of_below HB1.out (some R)).trans HI5.out.upd).trans_below (below_set5 (c0 := .int .i64 5) (c1 := .int .i64 0) (c2 := .string ⟨#[]⟩) (c3 := .slice an nsX.length cn) (c4 := .slice ai isX.length ci) (Below.refl w.heap.size wz) (Nat.le_refl _))
            exact ⟨.mk 5 0 ⟨#[]⟩ nsX isX, an, cn, ai, ci, rfl, Rep.kept (fun b hlt hb => ⟨by have := hb.1; simp only [World.size_alloc] at this; omega, other_set5 (by have := hb.1; simp only [World.size_alloc] at this; omega)⟩) _ _ HREP.out, hU, by rw [← HB.out]; exact HF5.out.after (other_set5 hRw)⟩
          | ok u r4 =>
            obtain ⟨hu, q4, hra, hq4, hq4s, hS4⟩ := hres4
            subst hu
            have HS4 := Lib.hid (hS4.after HRB.out)
            have hlt : q < s.size := by
              rcases Nat.lt_or_ge q s.size with h | h
              · exact h
              · have := HRV.out; rw [rest_nil (Nat.not_lt.2 h), jval_nil] at this; cases this
            obtain ⟨f, rfl⟩ : ∃ f', f = f' + 1 := ⟨f - 1, by omega⟩
            have hB : jitems s.size (jval s.size k) false (f + 1) r4 [] (is ++ [t]) = res := HBV.out
            rw [jitems_more (by simp)] at hB
            have hcom := dcomma_c R s q4 93 (by decide) (by omega) wI HS4.out
            rw [jmore_bl hra.bl] at hcom
            clear hS4 HBV HRV hra
            cases hm : jmore s.size false 93 r4 with
            | bad er pl =>
              rw [hm] at hcom hB
              have HB := Lib.hid (show JR.bad er pl = res from hB)
              refine hcom.mono ?_; rintro e wz ⟨rfl, hf, hu⟩
              have HI5 := Lib.hid (HI4.out.move hu)
              have HF5 := Lib.hid hf
              clear hcom hB hm hf hu HI4 HS4
              obtain ⟨nsX, hnsX⟩ : ∃ x, ([] : List ByteArray) = x := ⟨_, rfl⟩
              obtain ⟨isX, hisX⟩ : ∃ x, (is ++ [t]) = x := ⟨_, rfl⟩
              rw [hnsX, hisX] at HI5
              have hz := (HI5.out.upd.block (k := w.heap.size) (by simp) (fun e => hRw (Option.some.inj e))).trans HZ0.out
              obtain ⟨⟨z0, z1, z2, z3, z4⟩, y0, y1, y2, y3, y4⟩ := cellsOf5 hz
              obtain ⟨⟨c0, c1, c2, c3, c4⟩, _⟩ := cellsOf5 HI5.out.blk
              have HNI := Lib.hid (And.intro hnsX hisX)
              clear hnsX hisX
              obtain ⟨an, cn, ai, ci, rfl, rfl, hrep⟩ := HI5.out.done (by omega)
              have HREP := Lib.hid hrep
              have HZ := Lib.hid hz
              clear hz hrep
              go_wp2
              (try simp only [Exit.inBlock, Exit.then])
              refine bodyPost_ret (results_cell_row rfl _ _ w.heap.size 28 _ (0, 0) _ (by rfl) (set5 HZ.out) Tryd.underlying28 rfl (by kernel_rfl)) rfl ?_
              have hU := ((Upd.of_below HB1.out (some R)).trans HI5.out.upd).trans_below (below_set5 (c0 := .int .i64 5) (c1 := .int .i64 0) (c2 := .string ⟨#[]⟩) (c3 := .slice an nsX.length cn) (c4 := .slice ai isX.length ci) (Below.refl w.heap.size wz) (Nat.le_refl _))
              exact ⟨.mk 5 0 ⟨#[]⟩ nsX isX, an, cn, ai, ci, rfl, Rep.kept (fun b hlt hb => ⟨by have := hb.1; simp only [World.size_alloc] at this; omega, other_set5 (by have := hb.1; simp only [World.size_alloc] at this; omega)⟩) _ _ HREP.out, hU, by rw [← HB.out]; exact HF5.out.after (other_set5 hRw)⟩
            | ok bb r5 =>
              rw [hm] at hcom hB
              refine hcom.mono ?_; rintro e wz ⟨q5, rfl, hra5, htr, hq5, hq5s, hs5, hu⟩
              have HI5 := Lib.hid (HI4.out.move hu)
              have HS5 := Lib.hid hs5
              clear hcom hm hs5 hu HI4 HS4
              cases bb with
              | false =>
                have HB := Lib.hid (show JR.ok (JV.mk 5 0 ⟨#[]⟩ [] (is ++ [t])) r5 = res from hB)
                have HRA := Lib.hid hra5
                clear hB hra5 htr
                obtain ⟨nsX, hnsX⟩ : ∃ x, ([] : List ByteArray) = x := ⟨_, rfl⟩
                obtain ⟨isX, hisX⟩ : ∃ x, (is ++ [t]) = x := ⟨_, rfl⟩
                rw [hnsX, hisX] at HI5
                have hz := (HI5.out.upd.block (k := w.heap.size) (by simp) (fun e => hRw (Option.some.inj e))).trans HZ0.out
                obtain ⟨⟨z0, z1, z2, z3, z4⟩, y0, y1, y2, y3, y4⟩ := cellsOf5 hz
                obtain ⟨⟨c0, c1, c2, c3, c4⟩, _⟩ := cellsOf5 HI5.out.blk
                have HNI := Lib.hid (And.intro hnsX hisX)
                clear hnsX hisX
                obtain ⟨an, cn, ai, ci, rfl, rfl, hrep⟩ := HI5.out.done (by omega)
                have HREP := Lib.hid hrep
                have HZ := Lib.hid hz
                clear hz hrep
                go_wp2
                (try simp only [Exit.inBlock, Exit.then])
                refine bodyPost_ret (results_cell_row rfl _ _ w.heap.size 28 _ (0, 0) _ (by rfl) (set5 HZ.out) Tryd.underlying28 rfl (by kernel_rfl)) rfl ?_
                have hU := ((Upd.of_below HB1.out (some R)).trans HI5.out.upd).trans_below (below_set5 (c0 := .int .i64 5) (c1 := .int .i64 0) (c2 := .string ⟨#[]⟩) (c3 := .slice an nsX.length cn) (c4 := .slice ai isX.length ci) (Below.refl w.heap.size wz) (Nat.le_refl _))
                exact ⟨.mk 5 0 ⟨#[]⟩ nsX isX, an, cn, ai, ci, rfl, Rep.kept (fun b hlt hb => ⟨by have := hb.1; simp only [World.size_alloc] at this; omega, other_set5 (by have := hb.1; simp only [World.size_alloc] at this; omega)⟩) _ _ HREP.out, hU, by rw [← HB.out]; exact ⟨by rw [HNI.out.1, HNI.out.2], q5, HRA.out, by omega, hq5s, HS5.out.after (other_set5 hRw)⟩⟩
              | true =>
                have HB := Lib.hid (show Dits s k q5 f (is ++ [t]) = res by unfold Dits; rw [htr rfl]; exact hB)
                clear hB hra5 htr
                go_wp2
                go_roundg (gk - 1)
                case measure => omega
                case rel => exact ⟨q5, f, is ++ [t], nv, ivI, _, HI5, HS5, by omega, hq5s, by omega, by rw [List.length_append]; simp; omega, by omega, HB⟩)
end Go.Proofs.YtbkbokfegjodnaaDoor
