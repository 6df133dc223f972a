/- The walk of the document reader's object. Conditions: a text has less than 2 to the 40 bytes. -/
import Derived.Test.YtbkbokfegjodnaaDoorDmode
namespace Go.Proofs.YtbkbokfegjodnaaDoor
open Go.RowKit
/-- the members of an object from a place on -/
def Dmem (s : ByteArray) (k : Nat) (q f : Nat) (ns : List ByteArray) (is : List JV) : JR JV :=
  match jname s.size ns (s.data.toList.drop q) with
  | .bad e p => .bad e p
  | .ok x r3 => match jval s.size k r3 with
    | .bad e p => .bad e p
    | .ok v r4 => jitems s.size (jval s.size k) true f r4 (ns ++ [x]) (is ++ [v])
theorem jitems6_more {N : Nat} {val : List UInt8 → JR JV} {f : Nat} {r : List UInt8} {ns : List ByteArray} {is : List JV} (h : is ≠ []) :
    jitems N val true (f + 1) r ns is = match jmore N false 125 r with | .bad e p => .bad e p | .ok false r2 => .ok (.mk 6 0 ⟨#[]⟩ ns is) r2 | .ok true r2 => match jname N ns r2 with | .bad e p => .bad e p | .ok x r3 => match val r3 with | .bad e p => .bad e p | .ok v r4 => jitems N val true f r4 (ns ++ [x]) (is ++ [v]) := by
  rw [jitems]
  rw [show is.isEmpty = false by cases is; exact absurd rfl h; rfl]
  simp only [if_true]
  cases jmore N false 125 r with
  | bad e p => rfl
  | ok b r2 => cases b <;> rfl
set_option maxHeartbeats 1000000 in
/-- value at a fault -/
theorem dvalue_bad (R : Nat) (s : ByteArray) (er pl : Nat) (d : Int) (w : World) (h : FltAt w R s er pl) :
    Calls Tryd.prog 46 #[.pointer (some ⟨R, 0, none⟩), .int .i64 d] w fun e w' => ∃ (t : JV) (an : Option Addr) (cn : Nat) (ai : Option Addr) (ci : Nat), e = .returned (.agg #[.int .i64 t.kind, .int .i64 t.int, .string t.text, .slice an t.names.length cn, .slice ai t.items.length ci]) ∧
    Rep w' (fun b => w.heap.size ≤ b) t [.int .i64 t.kind, .int .i64 t.int, .string t.text, .slice an t.names.length cn, .slice ai t.items.length ci] ∧ Upd w w' (some R) (some R) ∧ FltAt w' R s er pl := by
  have hb1 : Below w.heap.size w (w.alloc (.cells #[.int .i64 0, .int .i64 0, .string ⟨#[]⟩, .slice none 0 0, .slice none 0 0] 28)) := (Below.refl _ _).alloc (Nat.le_refl _) _
  have hz := heap_alloc_new w (.cells #[.int .i64 0, .int .i64 0, .string ⟨#[]⟩, .slice none 0 0, .slice none 0 0] 28)
  have hrd := h.below hb1
  have hnx := dnext_bad R s er pl (w.alloc (.cells #[.int .i64 0, .int .i64 0, .string ⟨#[]⟩, .slice none 0 0, .slice none 0 0] 28)) hrd
  have HB := Lib.hid (And.intro hrd hb1)
  have HZ := Lib.hid hz
  obtain ⟨⟨z0, z1, z2, z3, z4⟩, y0, y1, y2, y3, y4⟩ := cellsOf5 hz
  clear h hb1 hrd hz
  go_enter Tryd.func46, Tryd.ntmps46
  go_wp2_with fail
  refine hnx.mono ?_; rintro e w1 ⟨rfl, rfl⟩
  clear hnx
  go_wp2
  (try simp only [Exit.inBlock, Exit.then])
  refine bodyPost_ret (results_cell_row rfl _ _ w.heap.size 28 _ (0, 0) _ (by rfl) (by first | exact HZ.out | exact set5 HZ.out) Tryd.underlying28 rfl (by kernel_rfl)) rfl ?_
  first
    | exact ⟨jnil 0, none, 0, none, 0, rfl, rep_flat 0 0 ⟨#[]⟩ (by omega) (by omega) (by decide) _ _, Upd.of_below HB.out.2 _, HB.out.1⟩
    | exact ⟨jnil 0, none, 0, none, 0, rfl, rep_flat 0 0 ⟨#[]⟩ (by omega) (by omega) (by decide) _ _, Upd.of_below (below_set5 HB.out.2 (Nat.le_refl _)) _, HB.out.1.after (other_set5 (by have := HB.out.1.lt; simp at this ⊢; omega))⟩
/-- what comes of a value in a mode -/
def DvM (R : Nat) (s : ByteArray) (p : Nat) (t : JV) (w' : World) : JR JV → Prop
  | .ok u r => t = u ∧ ∃ q, RestAt s q r ∧ p ≤ q ∧ q ≤ s.size ∧ SrAt w' R s ⟨q, 0, 0⟩
  | .bad er pl => FltAt w' R s er pl
theorem DvM.after {R : Nat} {s : ByteArray} {p : Nat} {t : JV} {w w' : World} : ∀ {rv : JR JV}, DvM R s p t w rv → w'.heap[R]? = w.heap[R]? → DvM R s p t w' rv
  | .ok _ _, ⟨h1, q, h2, h3, h4, h5⟩, hR => ⟨h1, q, h2, h3, h4, h5.after hR⟩
  | .bad _ _, h, hR => FltAt.after h hR
def DvR (R : Nat) (s : ByteArray) (p : Nat) (w : World) (rv : JR JV) (e : Ending) (w' : World) : Prop :=
  ∃ (t : JV) (an : Option Addr) (cn : Nat) (ai : Option Addr) (ci : Nat), e = .returned (.agg #[.int .i64 t.kind, .int .i64 t.int, .string t.text, .slice an t.names.length cn, .slice ai t.items.length ci]) ∧
    Rep w' (fun b => w.heap.size ≤ b) t [.int .i64 t.kind, .int .i64 t.int, .string t.text, .slice an t.names.length cn, .slice ai t.items.length ci] ∧ Upd w w' (some R) (some R) ∧ DvM R s p t w' rv
theorem dvR_of {R : Nat} {s : ByteArray} {p q : Nat} (hp : p ≤ q) {w : World} {rv : JR JV} {e : Ending} {w' : World} (h : DvPost R s q w rv e w') : DvR R s p w rv e w' := by
  obtain ⟨t, an, cn, ai, ci, h1, h2, h3, h4⟩ := h
  refine ⟨t, an, cn, ai, ci, h1, h2, h3, ?_⟩
  cases rv with
  | ok u r =>
    obtain ⟨h5, q', h6, h7, h8, h9⟩ := h4
    exact ⟨h5, q', h6, Nat.le_trans hp h7, h8, h9⟩
  | bad er pl => exact h4
theorem dvalue_m {R : Nat} {s : ByteArray} {k : Nat} (ih : DvalSaid s k) (p : Nat) {w : World} (m : DM) (h : DMAt w R s m) (hp : ∀ q, m = .on q → p ≤ q) (d : Int) (hd : d = 64 - k) :
    Calls Tryd.prog 46 #[.pointer (some ⟨R, 0, none⟩), .int .i64 d] w (DvR R s p w (resM (jval s.size k) s m)) := by
  cases m with
  | on q => exact (ih R q w h d hd).mono fun e w' h4 => dvR_of (hp q rfl) h4
  | flt er pl =>
    refine (dvalue_bad R s er pl d w h).mono fun e w' h4 => ?_
    obtain ⟨t, an, cn, ai, ci, h1, h2, h3, h5⟩ := h4
    exact ⟨t, an, cn, ai, ci, h1, h2, h3, h5⟩
set_option maxRecDepth 20000 in
set_option maxHeartbeats 16000000 in
theorem dobject_c (s : ByteArray) (hs : s.size < 1099511627776) (k : Nat) (hk : k < 64) (ih : DvalSaid s k) (R p : Nat) (c0 : UInt8) (l : List UInt8) (hl : s.data.toList.drop p = c0 :: l) (w : World) (h : SrAt w R s ⟨p, 0, 0⟩) (d : Int) (hd : d = 63 - k) :
    Calls Tryd.prog 72 #[.pointer (some ⟨R, 0, none⟩), .int .i64 d] w (DvPost R s p w (jitems s.size (jval s.size k) true (l.length + 1) l [] [])) := by
  subst hd
  have hb1 : Below w.heap.size w (w.alloc (.cells #[.int .i64 0, .int .i64 0, .string ⟨#[]⟩, .slice none 0 0, .slice none 0 0] 28)) := (Below.refl _ _).alloc (Nat.le_refl _) _
  have hrd := h.below hb1
  have hRl := h.lt
  have HIH := Lib.hid ih
  have HB1 := Lib.hid hb1
  have hz0 := heap_alloc_new w (.cells #[.int .i64 0, .int .i64 0, .string ⟨#[]⟩, .slice none 0 0, .slice none 0 0] 28)
  have HZ0 := Lib.hid hz0
  obtain ⟨hpp, hdp, _⟩ := drop_parts hl
  have hll : l.length = s.size - (p + 1) := by rw [← hdp, List.length_drop, Array.length_toList]; rfl
  obtain ⟨res, hres⟩ : ∃ res, jitems s.size (jval s.size k) true (l.length + 1) l [] [] = res := ⟨_, rfl⟩
  rw [hres]
  rw [jitems] at hres
  simp only [List.isEmpty_nil, if_true] at hres
  have HRES := Lib.hid hres
  clear h hb1 ih hz0 hres
  generalize hw1 : (w.alloc (.cells #[.int .i64 0, .int .i64 0, .string ⟨#[]⟩, .slice none 0 0, .slice none 0 0] 28)) = w1 at *
  have hs1 : w1.heap.size = w.heap.size + 1 := by rw [← hw1]; simp
  have START := Lib.hid (show Itd w1 R w1.heap.size 6 [] [] (.slice none 0 0) (.slice none 0 0) [] (w1.alloc (.cells #[.int .i64 6, .int .i64 0, .string ⟨#[]⟩, .slice none 0 0, .slice none 0 0] 28)) ∧ SrAt (w1.alloc (.cells #[.int .i64 6, .int .i64 0, .string ⟨#[]⟩, .slice none 0 0, .slice none 0 0] 28)) R s ⟨p, 0, 0⟩ from by
    have hbS : Below w1.heap.size w1 (w1.alloc (.cells #[.int .i64 6, .int .i64 0, .string ⟨#[]⟩, .slice none 0 0, .slice none 0 0] 28)) := (Below.refl _ _).alloc (Nat.le_refl _) _
    have hzS : (w1.alloc (.cells #[.int .i64 6, .int .i64 0, .string ⟨#[]⟩, .slice none 0 0, .slice none 0 0] 28)).heap[w1.heap.size]? = some (.cells #[.int .i64 6, .int .i64 0, .string ⟨#[]⟩, .slice none 0 0, .slice none 0 0] 28 (0, 0)) := heap_alloc_new w1 _
    exact ⟨⟨hrd.lt, Upd.of_below hbS _, Nat.le_refl _, hzS, row_nil _ _ _, row_nil _ _ _, fun g hg => (by cases hg), fun g hg => (by cases hg), rfl⟩, hrd.below hbS⟩)
  have hRw : R ≠ w.heap.size := by omega
  have hVR : R ≠ w.heap.size + 1 := by omega
  have HEM := Lib.hid (dempty_c R s p 125 c0 l hl (by omega) _ START.out.2)
  clear hrd hl hdp
  subst hw1
  simp only [World.size_alloc] at START
  go_enter Tryd.func72, Tryd.ntmps72
  go_wp2_with fail
  refine HEM.out.mono ?_; rintro e we he
  have hRES := HRES.out
  cases hm : jmore s.size true 125 l with
  | bad er pl =>
    rw [hm] at he
    simp only [hm] at hRES
    obtain ⟨v, rfl, rfl, hf, hu⟩ := he
    have HI := Lib.hid (START.out.1.move hu)
    have HF := Lib.hid hf
    have HB := Lib.hid hRES
    clear hf hu hRES HEM START HRES
    have hz := (HI.out.upd.block (k := w.heap.size) (by simp) (fun e => hRw (Option.some.inj e))).trans HZ0.out
    obtain ⟨⟨z0, z1, z2, z3, z4⟩, y0, y1, y2, y3, y4⟩ := cellsOf5 hz
    obtain ⟨⟨c0, c1, c2, c3, c4⟩, _⟩ := cellsOf5 HI.out.blk
    have HZ := Lib.hid hz
    clear hz
    go_wp2
    (try simp only [Exit.inBlock, Exit.then])
    refine bodyPost_ret (results_cell_row rfl _ _ w.heap.size 28 _ (0, 0) _ (by rfl) (set5 HZ.out) Tryd.underlying28 rfl (by kernel_rfl)) rfl ?_
    have hU := ((Upd.of_below HB1.out (some R)).trans HI.out.upd).trans_below (below_set5 (c0 := .int .i64 6) (c1 := .int .i64 0) (c2 := .string ⟨#[]⟩) (c3 := .slice none 0 0) (c4 := .slice none 0 0) (Below.refl w.heap.size we) (Nat.le_refl _))
    exact ⟨.mk 6 0 ⟨#[]⟩ [] [], none, 0, none, 0, rfl, rep_flat 6 0 ⟨#[]⟩ (by omega) (by omega) (by decide) _ _, hU, by rw [← HB.out]; exact HF.out.after (other_set5 hRw)⟩
  | ok b r2 =>
    rw [hm] at he
    simp only [hm] at hRES
    obtain ⟨q, v, rfl, rfl, hr2, hpq, hqs, hsr, hu⟩ := he
    have HI := Lib.hid (START.out.1.move hu)
    have HS := Lib.hid hsr
    have HR2 := Lib.hid hr2
    cases b with
    | false =>
      have HB := Lib.hid (show JR.ok (JV.mk 6 0 ⟨#[]⟩ [] []) r2 = res from hRES)
      clear hsr hu hRES HEM START HRES hr2
      have hz := (HI.out.upd.block (k := w.heap.size) (by simp) (fun e => hRw (Option.some.inj e))).trans HZ0.out
      obtain ⟨⟨z0, z1, z2, z3, z4⟩, y0, y1, y2, y3, y4⟩ := cellsOf5 hz
      obtain ⟨⟨c0, c1, c2, c3, c4⟩, _⟩ := cellsOf5 HI.out.blk
      have HZ := Lib.hid hz
      clear hz
      go_wp2
      (try simp only [Exit.inBlock, Exit.then])
      refine bodyPost_ret (results_cell_row rfl _ _ w.heap.size 28 _ (0, 0) _ (by rfl) (set5 HZ.out) Tryd.underlying28 rfl (by kernel_rfl)) rfl ?_
      have hU := ((Upd.of_below HB1.out (some R)).trans HI.out.upd).trans_below (below_set5 (c0 := .int .i64 6) (c1 := .int .i64 0) (c2 := .string ⟨#[]⟩) (c3 := .slice none 0 0) (c4 := .slice none 0 0) (Below.refl w.heap.size we) (Nat.le_refl _))
      exact ⟨.mk 6 0 ⟨#[]⟩ [] [], none, 0, none, 0, rfl, rep_flat 6 0 ⟨#[]⟩ (by omega) (by omega) (by decide) _ _, hU, by rw [← HB.out]; exact ⟨rfl, q, .inl HR2.out.symm, by omega, hqs, HS.out.after (other_set5 hRw)⟩⟩
    | true =>
      have HB := Lib.hid (show Dmem s k q l.length [] [] = res by unfold Dmem; rw [← hr2]; exact hRES)
      clear hsr hu hRES HEM START HRES hr2 HR2 hm
      go_wp2
      go_loopg [6, 7, 8, 9] (s.size + 1) (fun gk _ _ _ _ wr => ∃ (q f : Nat) (ns : List ByteArray) (is : List JV) (nv iv : Value) (xs : List Value), Hid (Itd (w.alloc (.cells #[.int .i64 0, .int .i64 0, .string ⟨#[]⟩, .slice none 0 0, .slice none 0 0] 28)) R (w.heap.size + 1) 6 ns is nv iv xs wr) ∧ Hid (SrAt wr R s ⟨q, 0, 0⟩) ∧ p ≤ q ∧ q ≤ s.size ∧ s.size - q < gk ∧ is.length ≤ q ∧ ns.length ≤ q ∧ s.size - q ≤ f ∧ Hid (Dmem s k q f ns is = res))
      case atStart => exact ⟨q, l.length, [], [], _, _, [], HI, HS, by omega, hqs, by omega, Nat.zero_le _, Nat.zero_le _, by omega, HB⟩
      case round =>
        clear HI HS HB
        obtain ⟨q, f, ns, is, nv, iv, xs, HI, HS, hpq, hqs, hgk, hil, hnl, hf, HB⟩ := hrel
        have hB := HB.out
        unfold Dmem at hB
        have HBD := Lib.hid hB
        obtain ⟨lx, hlx⟩ : ∃ x, s.data.toList.drop q = x := ⟨_, rfl⟩
        rw [hlx] at hB
        have h1 := HS.out.c1
        simp only at h1
        clear HB
        cases lx with
        | nil =>
          have HB := Lib.hid (show JR.bad 3 s.size = res from hB)
          have hpk := dnext_e R s q hlx wr HS.out
          clear hB hlx
          go_wp2_with fail
          refine hpk.mono ?_; rintro e wz ⟨rfl, hr, hu⟩
          have k2 := hr.c2
          have HI5 := Lib.hid (HI.out.move hu)
          have HF5 := Lib.hid hr
          clear hpk hr hu HI HS h1
          obtain ⟨nsX, hnsX⟩ : ∃ x, ns = x := ⟨_, rfl⟩
          obtain ⟨isX, hisX⟩ : ∃ x, is = x := ⟨_, rfl⟩
          rw [hnsX, hisX] at HI5
          have hz := (HI5.out.upd.block (k := w.heap.size) (by simp) (fun e => hRw (Option.some.inj e))).trans HZ0.out
          obtain ⟨⟨z0, z1, z2, z3, z4⟩, y0, y1, y2, y3, y4⟩ := cellsOf5 hz
          obtain ⟨⟨c0, c1, c2, c3, c4⟩, _⟩ := cellsOf5 HI5.out.blk
          have HNI := Lib.hid (And.intro hnsX hisX)
          clear hnsX hisX
          obtain ⟨an, cn, ai, ci, rfl, rfl, hrep⟩ := HI5.out.done (by omega)
          have HREP := Lib.hid hrep
          have HZ := Lib.hid hz
          clear hz hrep
          go_wp2
          (try simp only [Exit.inBlock, Exit.then])
          refine bodyPost_ret (results_cell_row rfl _ _ w.heap.size 28 _ (0, 0) _ (by rfl) (set5 HZ.out) Tryd.underlying28 rfl (by kernel_rfl)) rfl ?_
          have hU := ((Upd.of_below HB1.out (some R)).trans HI5.out.upd).trans_below (below_set5 (c0 := .int .i64 6) (c1 := .int .i64 0) (c2 := .string ⟨#[]⟩) (c3 := .slice an nsX.length cn) (c4 := .slice ai isX.length ci) (Below.refl w.heap.size wz) (Nat.le_refl _))
          exact ⟨.mk 6 0 ⟨#[]⟩ nsX isX, an, cn, ai, ci, rfl, Rep.kept (fun b hlt hb => ⟨by have := hb.1; simp only [World.size_alloc] at this; omega, other_set5 (by have := hb.1; simp only [World.size_alloc] at this; omega)⟩) _ _ HREP.out, hU, by rw [← HB.out]; exact HF5.out.after (other_set5 hRw)⟩
        | cons c r =>
          obtain ⟨hlt, hdr1, hrl⟩ := drop_parts hlx
          have hpk := dnext_l R s q c r hlx wr HS.out
          have HL := Lib.hid hlx
          rw [jname] at hB
          simp only [hrl] at hB
          clear hlx
          go_wp2_with fail
          refine hpk.mono ?_; rintro e wq ⟨rfl, m, rfl⟩
          have HI1 := Lib.hid (HI.out.below (below_drewN' wr m))
          have HS1 := Lib.hid (HS.out.same (w' := wr.drewN m) rfl)
          clear hpk HI HS h1
          generalize wr.drewN m = W at *
          have h1 := HS1.out.c1
          have h2 := HS1.out.c2
          simp only at h1 h2
          by_cases h34 : c = 34
          case neg =>
            have HB := Lib.hid (show JR.bad 10 q = res from by rw [if_neg h34] at hB; exact hB)
            have m34 : ((c.toNat : Int) != 34) = true := bne_of (byte_ne (d := 34) h34)
            have hfl := dfail_c R s q 10 q (by decide) W HS1.out
            clear hB h34 h2
            go_wp2_with fail
            refine hfl.mono ?_; rintro e wz ⟨rfl, hr, hu⟩
            have k2 := hr.c2
            have HI5 := Lib.hid (HI1.out.move hu)
            have HF5 := Lib.hid hr
            clear hfl hr hu HI1 HS1 h1
            obtain ⟨nsX, hnsX⟩ : ∃ x, ns = x := ⟨_, rfl⟩
            obtain ⟨isX, hisX⟩ : ∃ x, is = x := ⟨_, rfl⟩
            rw [hnsX, hisX] at HI5
            have hz := (HI5.out.upd.block (k := w.heap.size) (by simp) (fun e => hRw (Option.some.inj e))).trans HZ0.out
            obtain ⟨⟨z0, z1, z2, z3, z4⟩, y0, y1, y2, y3, y4⟩ := cellsOf5 hz
            obtain ⟨⟨c0, c1, c2, c3, c4⟩, _⟩ := cellsOf5 HI5.out.blk
            have HNI := Lib.hid (And.intro hnsX hisX)
            clear hnsX hisX
            obtain ⟨an, cn, ai, ci, rfl, rfl, hrep⟩ := HI5.out.done (by omega)
            have HREP := Lib.hid hrep
            have HZ := Lib.hid hz
            clear hz hrep
            go_wp2
            (try simp only [Exit.inBlock, Exit.then])
            refine bodyPost_ret (results_cell_row rfl _ _ w.heap.size 28 _ (0, 0) _ (by rfl) (set5 HZ.out) Tryd.underlying28 rfl (by kernel_rfl)) rfl ?_
            have hU := ((Upd.of_below HB1.out (some R)).trans HI5.out.upd).trans_below (below_set5 (c0 := .int .i64 6) (c1 := .int .i64 0) (c2 := .string ⟨#[]⟩) (c3 := .slice an nsX.length cn) (c4 := .slice ai isX.length ci) (Below.refl w.heap.size wz) (Nat.le_refl _))
            exact ⟨.mk 6 0 ⟨#[]⟩ nsX isX, an, cn, ai, ci, rfl, Rep.kept (fun b hlt hb => ⟨by have := hb.1; simp only [World.size_alloc] at this; omega, other_set5 (by have := hb.1; simp only [World.size_alloc] at this; omega)⟩) _ _ HREP.out, hU, by rw [← HB.out]; exact HF5.out.after (other_set5 hRw)⟩
          case pos =>
          have m34 : ((c.toNat : Int) != 34) = false := bne_of' (byte_eq (d := 34) h34)
          have hx := dtext_c R s q c r HL.out (by omega) W HS1.out
          have HQ := Lib.hid (show s.data.toList.drop q = 34 :: r by rw [HL.out, h34])
          clear h34 hB
          go_wp2_with fail
          refine hx.mono ?_; rintro e w2 hxx
          obtain ⟨v, md1, rfl, HT1, hm1, hu1⟩ := dtext_m hxx
          have HI2 := Lib.hid (HI1.out.move hu1.out)
          have HM1 := hm1
          clear hx hxx h1 h2 hm1 hu1 HI1 HS1 m34
          obtain ⟨an, cn, hnv, hcn, hst⟩ := HI2.out.nrow.strs (ok := fun _ => True) (fun _ _ => trivial)
          have hhas := refHas_c ns v an cn (by omega) w2 hst
          subst hnv
          have k2 := HM1.out.c2
          obtain ⟨⟨b0, b1, b2, b3, b4⟩, _⟩ := cellsOf5 HI2.out.blk
          go_upto_region 11 with fail
          go_cut [52] from 14 to 101 (fun b wx => b = .bool (dupB ns v md1) ∧ Hid (Below w2.heap.size w2 wx))
          case first =>
            cases md1 with
            | flt er pl =>
              have hz : ((er : Int) == 0) = false := by have := FltAt.ne HM1.out; rw [beq_eq_false_iff_ne]; omega
              have k2' : w2.cell? ⟨R, 2, none⟩ = some (.int .i64 (er : Int)) := k2
              clear k2
              go_wp2_with fail
              go_meet
              exact ⟨rfl, Lib.hid (Below.refl _ _)⟩
            | on q1 =>
              have k2' : w2.cell? ⟨R, 2, none⟩ = some (.int .i64 0) := k2
              clear k2
              go_wp2_with fail
              refine hhas.mono ?_; rintro e w3 ⟨rfl, hb3⟩
              go_wp2_with fail
              go_meet
              exact ⟨rfl, Lib.hid hb3⟩
          case rest =>
          obtain ⟨rfl, hb3⟩ := hcut
          have HI3 := Lib.hid (HI2.out.below hb3.out)
          have HM2 := Lib.hid (HM1.out.below hb3.out)
          clear hb3 HI2 HM1 hhas hst k2 b0 b1 b2 b3 b4
          generalize wc = w3 at *
          go_upto_if 52 with fail
          go_cut [] from 14 to 101 (fun wx => ∃ md2, Hid (DupM ns v q md1 md2) ∧ Hid (DMAt wx R s md2) ∧ Hid (Upd w3 wx (some R) (some R)))
          case first =>
            obtain ⟨db, hdb⟩ : ∃ b, dupB ns v md1 = b := ⟨_, rfl⟩
            have HDB := Lib.hid hdb
            rw [hdb]
            clear hdb
            cases db with
            | true =>
              cases md1 with
              | flt er pl => have := HDB.out; simp [dupB] at this
              | on q1 =>
                go_wp2_with fail
                refine (dfail_c R s q1 16 q (by decide) w3 HM2.out).mono ?_; rintro e w4 ⟨rfl, hr4, hu4⟩
                go_wp2_with fail
                go_meet
                exact ⟨.flt 16 q, Lib.hid (by unfold DupM; rw [HDB.out]; rfl), Lib.hid hr4, Lib.hid hu4⟩
            | false =>
              go_wp2_with fail
              go_meet
              exact ⟨md1, Lib.hid (by unfold DupM; rw [HDB.out]; rfl), HM2, Lib.hid (Upd.refl _ _)⟩
          case rest =>
          obtain ⟨md2, HD2, HM3, hu3⟩ := hcut
          have HI4 := Lib.hid (HI3.out.move hu3.out)
          clear hu3 HI3 HM2
          generalize wc = w4 at *
          go_wp2_with fail
          refine (dblanks_m R s hs w4 md2 HM3.out).mono ?_; rintro e w5 ⟨rfl, md3, hd3, hm3, hu5⟩
          have HD3 := Lib.hid hd3
          have HM4 := Lib.hid hm3
          have HI5 := Lib.hid (HI4.out.move hu5)
          clear hd3 hm3 hu5 HI4 HM3
          go_wp2_with fail
          refine (dnext_m R s w5 md3 HM4.out).mono ?_; rintro e w6 ⟨c2, ok2, md4, rfl, HD4, HM5, hu6⟩
          have HI6 := Lib.hid (HI5.out.move hu6.out)
          clear hu6 HI5 HM4
          go_upto_region 15 with fail
          go_cut [67] from 14 to 101 (fun b wx => b = .bool (ok2 && (c2 != 58)) ∧ w6 = wx)
          case first =>
            cases ok2 with
            | true =>
              go_wp2_with fail
              go_meet
              exact ⟨rfl, rfl⟩
            | false =>
              go_wp2_with fail
              go_meet
              exact ⟨rfl, rfl⟩
          case rest =>
          obtain ⟨rfl, rfl⟩ := hcut
          go_upto_if 67 with fail
          go_cut [] from 14 to 101 (fun wx => ∃ md5, Hid (ColM c2 ok2 md4 md5) ∧ Hid (DMAt wx R s md5) ∧ Hid (Upd w6 wx (some R) (some R)))
          case first =>
            obtain ⟨db, hdb⟩ : ∃ b, (ok2 && (c2 != 58)) = b := ⟨_, rfl⟩
            have HDB := Lib.hid hdb
            rw [hdb]
            clear hdb
            cases db with
            | true =>
              cases md4 with
              | flt er pl =>
                have hok : ok2 = false := by
                  have := HD4.out
                  cases md3 with
                  | flt _ _ => exact this.1
                  | on q3 =>
                    have this : NxL s q3 c2 ok2 (.flt er pl) (s.data.toList.drop q3) := this
                    revert this
                    cases s.data.toList.drop q3 with
                    | nil => exact fun h => h.1
                    | cons x l => exact fun h => by cases h.2.2
                have := HDB.out
                rw [hok] at this
                cases this
              | on q4 =>
                have g1 := SrAt.c1 HM5.out
                simp only at g1
                go_wp2_with fail
                refine (dfail_c R s q4 10 q4 (by decide) w6 HM5.out).mono ?_; rintro e w7 ⟨rfl, hr7, hu7⟩
                go_wp2_with fail
                go_meet
                exact ⟨.flt 10 q4, Lib.hid (by unfold ColM; rw [HDB.out]; rfl), Lib.hid hr7, Lib.hid hu7⟩
            | false =>
              go_wp2_with fail
              go_meet
              exact ⟨md4, Lib.hid (by
                cases md4 with
                | flt er pl => rfl
                | on q4 => unfold ColM; rw [HDB.out]; rfl), HM5, Lib.hid (Upd.refl _ _)⟩
          case rest =>
          obtain ⟨md5, HD5, HM6, hu7⟩ := hcut
          have HI7 := Lib.hid (HI6.out.move hu7.out)
          clear hu7 HI6 HM5
          generalize wc = w7 at *
          have hlt5 : ∀ p, md5 = .on p → p < s.size := fun p e => by
            exact col_lt HD4.out HD5.out p e
          obtain ⟨z, g1, gf, gz⟩ := HM6.out.c1
          have HM8 := Lib.hid (HM6.out.go hs z (fun p e => ⟨gz p e, hlt5 p e⟩))
          have HI8 := Lib.hid (HI7.out.move (Upd.of_setCell w7 ⟨R, 1, none⟩ (.int .i64 (wrap64 (z + 1)))))
          clear HI7 HM6 gz hlt5
          go_wp2_with fail
          refine (dblanks_m R s hs _ md5.succ HM8.out).mono ?_; rintro e W3 ⟨rfl, md6, hd6, hm6, hu8⟩
          obtain ⟨hres6, hlt6⟩ := mem_res (val := jval s.size k) (rest := fun x u r4 => jitems s.size (jval s.size k) true f r4 (ns ++ [x]) (is ++ [u])) HQ.out HT1.out HD2.out HD3.out HD4.out HD5.out hd6
          have HI3 := Lib.hid (HI8.out.move hu8)
          have HM3 := Lib.hid hm6
          have HB := Lib.hid (hres6.symm.trans HBD.out)
          clear hd6 hm6 hu8 HI8 HM8 g1 gf hres6 HQ HT1 HD2 HD3 HD4 HD5 HBD
          obtain ⟨⟨b0, b1, b2, b3, b4⟩, g0, g1, g2, g3, g4⟩ := cellsOf5 HI3.out.blk
          have hnV : (Value.slice an ns.length cn).ownBlock ≠ some (w.heap.size + 1) := fun e => (HI3.out.nf _ e).2.1 rfl
          go_wp2_with (at_builtin; refine wpList_app strTy rfl _ _ rfl (Value.slice an ns.length cn) ns.length (ns.map Value.string) rfl (HI3.out.nrow.below ((Below.refl _ _).alloc (Nat.le_refl _) _)) ⟨W3.heap.size, 0, none⟩ 1 1 [.string v] rfl rfl (World.news_of_block (heap_alloc_new W3 _)) (by simp [Value.oneCell']) (by unfold maxLen; omega) (by omega) ?_; intro nv' wa hr8 hu8; have hat := HI3.out.at ((Below.refl _ _).alloc (Nat.le_refl _) _) hu8 hnV; obtain ⟨⟨_, _, _, e33, _⟩, _, _, _, f33, _⟩ := cellsOf5 hat; clear hat; have HN := Lib.hid (HI3.out.name ((Below.refl _ _).alloc (Nat.le_refl _) _) hr8 hu8); obtain ⟨g8, c8, hv8, _⟩ := hr8.form; subst hv8; clear hr8 hu8)
          have HI7 := Lib.hid HN.out.1
          have HM7 := Lib.hid (HM3.out.after HN.out.2)
          clear HN HI3 HM3 b0 b1 b2 b3 b4 g0 g1 g2 g3 g4 e33 f33 hnV
          generalize wa.setCell ⟨w.heap.size + 1, 3, none⟩ (.slice g8 (ns.length + 1) c8) = W7 at *
          generalize (Value.slice g8 (ns.length + 1) c8) = nvN at *
          have hnl2 : (ns ++ [v]).length = ns.length + 1 := by simp
          obtain ⟨ns2, hns2⟩ : ∃ y, ns ++ [v] = y := ⟨_, rfl⟩
          rw [hns2] at HI7 hnl2
          have hdr := Lib.hid (Below.drew (Below.refl W7.heap.size W7))
          have HId := Lib.hid (HI7.out.below hdr.out)
          obtain ⟨⟨b0, b1, b2, b3, b4⟩, g0, g1, g2, g3, g4⟩ := cellsOf5 HI7.out.blk
          have hiV : iv.ownBlock ≠ some (w.heap.size + 1) := fun e => (HI7.out.fi _ e).2 rfl
          have hwd : wrap64 (63 - (k : Int) + 1) = 63 - (k : Int) + 1 := by unfold wrap64; omega
          have hcall := fun (d' : Int) (hd' : d' = 64 - k) => dvalue_m HIH.out (q + 1) md6 (HM7.out.below hdr.out) (fun p e => (hlt6 p e).1) d' hd'
          obtain ⟨rv, hrv⟩ : ∃ x, resM (jval s.size k) s md6 = x := ⟨_, rfl⟩
          have hB := HB.out
          rw [hrv] at hcall hB
          have HBV := Lib.hid hB
          clear hB hrv HB HM7 hlt6
          go_upto_region 20 with fail
          go_cut [] from 14 to 101 (fun wx => ∃ (t : JV) (iv' : Value) (xs' : List Value), Hid (Itd (w.alloc (.cells #[.int .i64 0, .int .i64 0, .string ⟨#[]⟩, .slice none 0 0, .slice none 0 0] 28)) R (w.heap.size + 1) 6 ns2 (is ++ [t]) nvN iv' xs' wx) ∧ Hid (DvM R s (q + 1) t wx rv))
          case first =>
            go_region_law (first
                | (refine step_app valTy (by rfl) _ _ (by rfl) iv is.length xs (by rfl) (HIv.out.irow.below ((Below.refl _ _).alloc (Nat.le_refl _) _)) (some ⟨wv.heap.size, 0, none⟩) 1 1 [.int .i64 t.kind, .int .i64 t.int, .string t.text, .slice tan t.names.length tcn, .slice tai t.items.length tci] (by rfl) (by rfl) (by simp) (fun a ha => by cases ha; exact World.news_of_block (heap_alloc_new wv _)) (by simp [Value.oneCell']) (by unfold maxLen; omega) (by omega) ?_; intro iv' wb hrow hu9; have hat := HIv.out.at ((Below.refl _ _).alloc (Nat.le_refl _) _) hu9 hiV; obtain ⟨⟨_, _, _, _, e43⟩, _, _, _, _, f43⟩ := cellsOf5 hat; clear hat; have HI8 := Lib.hid (HIv.out.item HId.out hrepv ((Below.refl _ _).alloc (Nat.le_refl _) _) hrow hu9); obtain ⟨g9, c9, hv9, _⟩ := hrow.form; subst hv9; clear hrow hu9 hrepv)
                | (go_simp; go_at_call 46; refine (hcall _ (by simp [IntKind.wrap, IntKind.signed, IntKind.bits]; omega)).mono ?_; rintro e wv ⟨t, tan, tcn, tai, tci, rfl, hrepv, hu4, hres4⟩; have HIv := Lib.hid (HId.out.move hu4); have HRES4 := Lib.hid hres4; have e41 := (cellsOf5 HIv.out.blk).1.2.2.2.2; have e42 := cell_below ((Below.refl wv.heap.size wv).alloc (Nat.le_refl _) (.cells #[.int .i64 t.kind, .int .i64 t.int, .string t.text, .slice tan t.names.length tcn, .slice tai t.items.length tci] 28)) e41; clear hu4 hres4))
            all_goals clear e41 e42 e43 f43 b0 b1 b2 b3 b4 g0 g1 g2 g3 g4 hcall
            all_goals go_wp2_with fail
            all_goals go_meet
            all_goals exact ⟨t, _, _, Lib.hid HI8.out.1, Lib.hid (DvM.after HRES4.out HI8.out.2)⟩
          case rest =>
          obtain ⟨t, ivI, xsI, HI9, HRES4⟩ := hcut
          clear HI7 HId hdr HIH hcall hiV hwd b0 b1 b2 b3 b4 g0 g1 g2 g3 g4
          generalize wc = wI at *
          go_wp2_with fail
          have hres4 := HRES4.out
          have hBV := HBV.out
          clear HBV HRES4
          cases rv with
          | bad er pl =>
            have HF := Lib.hid (show FltAt wI R s er pl from hres4)
            have HB := Lib.hid (show JR.bad er pl = res from hBV)
            refine (dcomma_bad R s er pl 125 wI HF.out).mono ?_; rintro e wz ⟨rfl, m, rfl⟩
            have HI5 := Lib.hid (HI9.out.below (below_drewN' wI m))
            have HF5 := Lib.hid (HF.out.same (w' := wI.drewN m) rfl)
            clear HI9 HF hres4 hBV
            generalize wI.drewN m = wz at *
            obtain ⟨nsX, hnsX⟩ : ∃ x, ns2 = x := ⟨_, rfl⟩
            obtain ⟨isX, hisX⟩ : ∃ x, (is ++ [t]) = x := ⟨_, rfl⟩
            rw [hnsX, hisX] at HI5
            have hz := (HI5.out.upd.block (k := w.heap.size) (by simp) (fun e => hRw (Option.some.inj e))).trans HZ0.out
            obtain ⟨⟨z0, z1, z2, z3, z4⟩, y0, y1, y2, y3, y4⟩ := cellsOf5 hz
            obtain ⟨⟨c0, c1, c2, c3, c4⟩, _⟩ := cellsOf5 HI5.out.blk
            have HNI := Lib.hid (And.intro hnsX hisX)
            clear hnsX hisX
            obtain ⟨an, cn, ai, ci, rfl, rfl, hrep⟩ := HI5.out.done (by omega)
            have HREP := Lib.hid hrep
            have HZ := Lib.hid hz
            clear hz hrep
            go_wp2
            (try simp only [Exit.inBlock, Exit.then])
            refine bodyPost_ret (results_cell_row rfl _ _ w.heap.size 28 _ (0, 0) _ (by rfl) (set5 HZ.out) Tryd.underlying28 rfl (by kernel_rfl)) rfl ?_
            have hU := ((Upd.of_below HB1.out (some R)).trans HI5.out.upd).trans_below (below_set5 (c0 := .int .i64 6) (c1 := .int .i64 0) (c2 := .string ⟨#[]⟩) (c3 := .slice an nsX.length cn) (c4 := .slice ai isX.length ci) (Below.refl w.heap.size wz) (Nat.le_refl _))
            exact ⟨.mk 6 0 ⟨#[]⟩ nsX isX, an, cn, ai, ci, rfl, Rep.kept (fun b hlt hb => ⟨by have := hb.1; simp only [World.size_alloc] at this; omega, other_set5 (by have := hb.1; simp only [World.size_alloc] at this; omega)⟩) _ _ HREP.out, hU, by rw [← HB.out]; exact HF5.out.after (other_set5 hRw)⟩
          | ok u r4 =>
            obtain ⟨hu, q5, hra, hq5, hq5s, hS5⟩ := hres4
            subst hu
            have HS5 := Lib.hid hS5
            obtain ⟨f, rfl⟩ : ∃ f', f = f' + 1 := ⟨f - 1, by omega⟩
            have hB : jitems s.size (jval s.size k) true (f + 1) r4 (ns ++ [v]) (is ++ [t]) = res := hBV
            rw [hns2, jitems6_more (by simp)] at hB
            have hcom := dcomma_c R s q5 125 (by decide) (by omega) wI HS5.out
            rw [jmore_bl hra.bl] at hcom
            clear hS5 hBV hra
            cases hm : jmore s.size false 125 r4 with
            | bad er pl =>
              rw [hm] at hcom hB
              have HB := Lib.hid (show JR.bad er pl = res from hB)
              refine hcom.mono ?_; rintro e wz ⟨rfl, hf9, hu⟩
              have HI5 := Lib.hid (HI9.out.move hu)
              have HF5 := Lib.hid hf9
              clear hcom hB hm hf9 hu HI9 HS5
              obtain ⟨nsX, hnsX⟩ : ∃ x, ns2 = x := ⟨_, rfl⟩
              obtain ⟨isX, hisX⟩ : ∃ x, (is ++ [t]) = x := ⟨_, rfl⟩
              rw [hnsX, hisX] at HI5
              have hz := (HI5.out.upd.block (k := w.heap.size) (by simp) (fun e => hRw (Option.some.inj e))).trans HZ0.out
              obtain ⟨⟨z0, z1, z2, z3, z4⟩, y0, y1, y2, y3, y4⟩ := cellsOf5 hz
              obtain ⟨⟨c0, c1, c2, c3, c4⟩, _⟩ := cellsOf5 HI5.out.blk
              have HNI := Lib.hid (And.intro hnsX hisX)
              clear hnsX hisX
              obtain ⟨an, cn, ai, ci, rfl, rfl, hrep⟩ := HI5.out.done (by omega)
              have HREP := Lib.hid hrep
              have HZ := Lib.hid hz
              clear hz hrep
              go_wp2
              (try simp only [Exit.inBlock, Exit.then])
              refine bodyPost_ret (results_cell_row rfl _ _ w.heap.size 28 _ (0, 0) _ (by rfl) (set5 HZ.out) Tryd.underlying28 rfl (by kernel_rfl)) rfl ?_
              have hU := ((Upd.of_below HB1.out (some R)).trans HI5.out.upd).trans_below (below_set5 (c0 := .int .i64 6) (c1 := .int .i64 0) (c2 := .string ⟨#[]⟩) (c3 := .slice an nsX.length cn) (c4 := .slice ai isX.length ci) (Below.refl w.heap.size wz) (Nat.le_refl _))
              exact ⟨.mk 6 0 ⟨#[]⟩ nsX isX, an, cn, ai, ci, rfl, Rep.kept (fun b hlt hb => ⟨by have := hb.1; simp only [World.size_alloc] at this; omega, other_set5 (by have := hb.1; simp only [World.size_alloc] at this; omega)⟩) _ _ HREP.out, hU, by rw [← HB.out]; exact HF5.out.after (other_set5 hRw)⟩
            | ok bb r5 =>
              rw [hm] at hcom hB
              refine hcom.mono ?_; rintro e wz ⟨q6, rfl, hra5, htr, hq6, hq6s, hs6, hu⟩
              have HI5 := Lib.hid (HI9.out.move hu)
              have HS6 := Lib.hid hs6
              clear hcom hm hs6 hu HI9 HS5
              cases bb with
              | false =>
                have HB := Lib.hid (show JR.ok (JV.mk 6 0 ⟨#[]⟩ ns2 (is ++ [t])) r5 = res from hB)
                have HRA := Lib.hid hra5
                clear hB hra5 htr
                obtain ⟨nsX, hnsX⟩ : ∃ x, ns2 = x := ⟨_, rfl⟩
                obtain ⟨isX, hisX⟩ : ∃ x, (is ++ [t]) = x := ⟨_, rfl⟩
                rw [hnsX, hisX] at HI5
                have hz := (HI5.out.upd.block (k := w.heap.size) (by simp) (fun e => hRw (Option.some.inj e))).trans HZ0.out
                obtain ⟨⟨z0, z1, z2, z3, z4⟩, y0, y1, y2, y3, y4⟩ := cellsOf5 hz
                obtain ⟨⟨c0, c1, c2, c3, c4⟩, _⟩ := cellsOf5 HI5.out.blk
                have HNI := Lib.hid (And.intro hnsX hisX)
                clear hnsX hisX
                obtain ⟨an, cn, ai, ci, rfl, rfl, hrep⟩ := HI5.out.done (by omega)
                have HREP := Lib.hid hrep
                have HZ := Lib.hid hz
                clear hz hrep
                go_wp2
                (try simp only [Exit.inBlock, Exit.then])
                refine bodyPost_ret (results_cell_row rfl _ _ w.heap.size 28 _ (0, 0) _ (by rfl) (set5 HZ.out) Tryd.underlying28 rfl (by kernel_rfl)) rfl ?_
                have hU := ((Upd.of_below HB1.out (some R)).trans HI5.out.upd).trans_below (below_set5 (c0 := .int .i64 6) (c1 := .int .i64 0) (c2 := .string ⟨#[]⟩) (c3 := .slice an nsX.length cn) (c4 := .slice ai isX.length ci) (Below.refl w.heap.size wz) (Nat.le_refl _))
                exact ⟨.mk 6 0 ⟨#[]⟩ nsX isX, an, cn, ai, ci, rfl, Rep.kept (fun b hlt hb => ⟨by have := hb.1; simp only [World.size_alloc] at this; omega, other_set5 (by have := hb.1; simp only [World.size_alloc] at this; omega)⟩) _ _ HREP.out, hU, by rw [← HB.out]; exact ⟨by rw [HNI.out.1, HNI.out.2], q6, HRA.out, by omega, hq6s, HS6.out.after (other_set5 hRw)⟩⟩
              | true =>
                have HB := Lib.hid (show Dmem s k q6 f ns2 (is ++ [t]) = res by unfold Dmem; rw [htr rfl]; exact hB)
                clear hB hra5 htr
                go_wp2
                go_roundg (gk - 1)
                case measure => omega
                case rel => exact ⟨q6, f, ns2, is ++ [t], nvN, ivI, _, HI5, HS6, by omega, hq6s, by omega, by rw [List.length_append]; simp; omega, by omega, by omega, HB⟩
end Go.Proofs.YtbkbokfegjodnaaDoor
