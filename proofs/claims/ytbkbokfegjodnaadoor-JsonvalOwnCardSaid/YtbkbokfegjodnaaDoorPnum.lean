/- The walk of the reader's number. Conditions: strconv.ErrRange holds an error; a text has less than 2 to the 44 bytes. -/
import Derived.Test.YtbkbokfegjodnaaDoorRda
import Derived.Test.YtbkbokfegjodnaaDoorMemory
import Derived.Test.YtbkbokfegjodnaaDoorShelf
import Derived.Deep.DeepCutAuto
import Derived.Deep.CutRange
namespace Go.Proofs.YtbkbokfegjodnaaDoor
open Go.RowKit
/-- the library's variable of the error of range holds an error -/
def ErrV (w : World) : Prop := ∃ tp pv T fr, w.heap[3]? = some (.cells #[.iface tp pv] T fr)
theorem ErrV.lt {w : World} (h : ErrV w) : 3 < w.heap.size := by
  obtain ⟨_, _, _, _, h⟩ := h
  exact (Array.getElem?_eq_some_iff.1 h).1
theorem ErrV.upd {w w' : World} {R : Nat} {r' : Option Nat} (h : ErrV w) (hu : Upd w w' (some R) r') (hR : 3 < R) : ErrV w' := by
  have hl := h.lt
  obtain ⟨tp, pv, T, fr, h⟩ := h
  exact ⟨tp, pv, T, fr, (hu.block hl (fun e => by have := Option.some.inj e; omega)).trans h⟩
theorem ErrV.below {w w' : World} (h : ErrV w) (hb : Below w.heap.size w w') : ErrV w' := by
  have hl := h.lt
  obtain ⟨tp, pv, T, fr, h⟩ := h
  exact ⟨tp, pv, T, fr, (hb.block _ hl).trans h⟩
theorem ErrV.var {w : World} (h : ErrV w) : ∃ tp pv, w.var? Tryd.prog "strconv.ErrRange" = some #[.iface tp pv] := by
  obtain ⟨tp, pv, T, fr, h⟩ := h
  have hg : Tryd.prog.globalNamed "strconv.ErrRange" = some 3 := by kernel_rfl
  exact ⟨tp, pv, by unfold World.var?; rw [hg]; show (match w.heap[3]? with | some (.cells cs _ _) => some cs | _ => none) = _; rw [h]⟩
theorem jds_jdg {c : UInt8} {r : List UInt8} (h : isDg c = true) (hn : c ≠ 48) : jds (c :: r) = jdg (c :: r) := by
  rw [jds, if_neg hn, jdg, if_pos h]
theorem take_part {s : ByteArray} {a b : Nat} : (s.extract a b).data.toList = (s.data.toList.drop a).take (b - a) := by
  rw [ByteArray.data_extract, Array.toList_extract]
theorem take_signed {L ds rest : List UInt8} {m : Bool} {n : Nat} (h : L = signed m ds ++ rest) (hn : n = (signed m ds).length) : L.take n = signed m ds := by
  rw [h, hn, List.take_left]
theorem num_bound {m : Bool} {n : Nat} (h : ¬ ((m = true ∧ 9223372036854775808 < n) ∨ (m = false ∧ 9223372036854775808 ≤ n))) : -9223372036854775808 ≤ (if m = true then -(n : Int) else (n : Int)) ∧ (if m = true then -(n : Int) else (n : Int)) ≤ 9223372036854775807 := by
  cases m with
  | true => have hz : n ≤ 9223372036854775808 := Nat.le_of_not_lt (fun h2 => h (.inl ⟨rfl, h2⟩)); rw [if_pos rfl]; omega
  | false => have hz : n < 9223372036854775808 := Nat.lt_of_not_le (fun h2 => h (.inr ⟨rfl, h2⟩)); rw [if_neg (by decide)]; omega
theorem ok_below {w w' : World} {E : TypeId} (h : w' = w ∨ ∃ t, w' = Lib.bytesWorld w E t) : Below w.heap.size w w' := by
  rcases h with h | ⟨t, h⟩
  · rw [h]; exact Below.refl _ _
  · rw [h]; exact Lib.bytesWorld_below _ _ _
def numGood (R : Nat) (s : ByteArray) (p : Nat) (w : World) (res : JR Int) (e : Ending) (w' : World) : Prop :=
  PJ R s w p (fun (n : Int) v _ => v = .agg #[.int .i64 3, .int .i64 n, .string ⟨#[]⟩, .slice none 0 0, .slice none 0 0] ∧ -9223372036854775808 ≤ n ∧ n ≤ 9223372036854775807) res e w'
set_option maxRecDepth 20000 in
set_option maxHeartbeats 16000000 in
theorem num_c (R : Nat) (hR : 3 < R) (s : ByteArray) (p : Nat) (c0 : UInt8) (l : List UInt8) (hl : s.data.toList.drop p = c0 :: l) (hs : s.size < 17592186044416) (w : World) (h : SrAt w R s ⟨p, 0, 0⟩) (hE : ErrV w) :
    Calls Tryd.prog 63 #[.pointer (some ⟨R, 0, none⟩)] w (numGood R s p w (jnum s.size (c0 :: l))) := by
  obtain ⟨hp, hd, hlp⟩ := drop_parts hl
  obtain ⟨res, hres⟩ : ∃ res, jnum s.size (c0 :: l) = res := ⟨_, rfl⟩
  rw [hres]
  rw [jnum, hlp] at hres
  have hsp : s[p] = c0 := by rw [rest_cons hp] at hl; injection hl
  have hb1 : Below w.heap.size w (w.alloc (.cells #[.int .i64 0, .int .i64 0, .string ⟨#[]⟩, .slice none 0 0, .slice none 0 0] 28)) := (Below.refl _ _).alloc (Nat.le_refl _) _
  have HS0 := Lib.hid (h.below hb1)
  have HU0 := Lib.hid (Upd.of_below hb1 (some R))
  have HE0 := Lib.hid (hE.below hb1)
  have HZ0 := Lib.hid (heap_alloc_new w (.cells #[.int .i64 0, .int .i64 0, .string ⟨#[]⟩, .slice none 0 0, .slice none 0 0] 28))
  have hRw : R < w.heap.size := h.lt
  have h0 := HS0.out.c0
  have h1 := HS0.out.c1
  simp only at h1
  have hpi : (p : Int) < (s.size : Int) := by omega
  have HL := Lib.hid hl
  clear h hE hb1 hl
  go_enter Tryd.func63, Tryd.ntmps63
  go_wp2
  go_quiet (fail)
  have HS1 := Lib.hid (HS0.out.same (w' := (w.alloc (.cells #[.int .i64 0, .int .i64 0, .string ⟨#[]⟩, .slice none 0 0, .slice none 0 0] 28)).drewN nq) rfl)
  have HU1 := Lib.hid (HU0.out.trans (Upd.of_below (below_drewN' (w.alloc (.cells #[.int .i64 0, .int .i64 0, .string ⟨#[]⟩, .slice none 0 0, .slice none 0 0] 28)) nq) _))
  have HE1 := Lib.hid (HE0.out.below (below_drewN' (w.alloc (.cells #[.int .i64 0, .int .i64 0, .string ⟨#[]⟩, .slice none 0 0, .slice none 0 0] 28)) nq))
  have HZ1 := Lib.hid (show ((w.alloc (.cells #[.int .i64 0, .int .i64 0, .string ⟨#[]⟩, .slice none 0 0, .slice none 0 0] 28)).drewN nq).heap[w.heap.size]? = some (.cells #[.int .i64 0, .int .i64 0, .string ⟨#[]⟩, .slice none 0 0, .slice none 0 0] 28 (0, 0)) from HZ0.out)
  clear HS0 HU0 HE0 HZ0 h0 h1
  generalize (w.alloc (.cells #[.int .i64 0, .int .i64 0, .string ⟨#[]⟩, .slice none 0 0, .slice none 0 0] 28)).drewN nq = W1 at *
  go_upto_if 20 with fail
  go_cut [] from 20 to 27 (fun wx => ∃ (px : Nat) (m : Bool), p ≤ px ∧ px ≤ s.size ∧ Hid (jnumA s.size p m (s.data.toList.drop px) = res) ∧ Hid (∀ ds rest : List UInt8, ds ++ rest = s.data.toList.drop px → signed m ds ++ rest = s.data.toList.drop p) ∧ Hid (∀ ds : List UInt8, (signed m ds).length = ds.length + (px - p)) ∧ Hid (SrAt wx R s ⟨px, 0, 0⟩) ∧ Hid (Upd w wx (some R) (some R)) ∧ Hid (ErrV wx) ∧ Hid (wx.heap[w.heap.size]? = some (.cells #[.int .i64 0, .int .i64 0, .string ⟨#[]⟩, .slice none 0 0, .slice none 0 0] 28 (0, 0))))
  case first =>
    by_cases n45 : c0 = 45
    · have m45 : ((c0.toNat : Int) == 45) = true := byte_eq (d := 45) n45
      have HJ := Lib.hid (show jnumA s.size p true (s.data.toList.drop (p + 1)) = res from by rw [hd]; exact (if_pos n45).symm.trans hres)
      have HSG := Lib.hid (show ∀ ds rest : List UInt8, ds ++ rest = s.data.toList.drop (p + 1) → signed true ds ++ rest = s.data.toList.drop p from fun ds rest e => by rw [HL.out, n45]; show 45 :: (ds ++ rest) = 45 :: l; rw [e, hd])
      have h1 := HS1.out.c1
      have f1 := HS1.out.f1
      simp only at h1
      clear hsp hres n45 hd
      go_wp2
      go_meet
      exact ⟨p + 1, true, by omega, hp, HJ, HSG, Lib.hid (fun ds => by show ds.length + 1 = _; omega), Lib.hid (HS1.out.one rfl hp), Lib.hid (HU1.out.trans (Upd.of_setCell W1 ⟨R, 1, none⟩ (.int .i64 ((p : Int) + 1)))), Lib.hid (HE1.out.upd (Upd.of_setCell W1 ⟨R, 1, none⟩ (.int .i64 ((p : Int) + 1))) hR), Lib.hid ((heap_setCell_other W1 ⟨R, 1, none⟩ w.heap.size (.int .i64 ((p : Int) + 1)) (show w.heap.size ≠ R by omega)).trans HZ1.out)⟩
    · have m45 : ((c0.toNat : Int) == 45) = false := byte_ne (d := 45) n45
      have HJ := Lib.hid (show jnumA s.size p false (s.data.toList.drop p) = res from by rw [HL.out]; exact (if_neg n45).symm.trans hres)
      clear hsp hres n45 hd
      go_wp2
      go_meet
      exact ⟨p, false, Nat.le_refl _, Nat.le_of_lt hp, HJ, Lib.hid (fun ds rest e => e), Lib.hid (fun ds => by show ds.length = _; omega), HS1, HU1, HE1, HZ1⟩
  case rest =>
    obtain ⟨px, m, hppx, hpxs, HJA, HSG, HLN, HS2, HU2, HE2, HZ2⟩ := hcut
    clear HS1 HU1 HE1 HZ1 hres hsp hd hpi
    have hJ := HJA.out
    obtain ⟨l2, hl2⟩ : ∃ x, s.data.toList.drop px = x := ⟨_, rfl⟩
    rw [hl2] at hJ
    cases l2 with
    | nil =>
      have HJ2 := Lib.hid (show JR.bad 3 s.size = res from hJ)
      have hpk := peek_e R s px hl2 _ HS2.out
      clear hJ HJA
      go_wp2_with fail
      refine hpk.mono ?_; rintro e w2 ⟨rfl, hr, hu⟩
      have HQ := Lib.hid (And.intro hr hu)
      clear hr hu hpk
      unfold noV
      go_wp2
      exact ⟨rfl, pj_bad HJ2.out HQ.out.1 (HU2.out.trans HQ.out.2)⟩
    | cons c r =>
      have hpk := peek_l R s px c r hl2 _ HS2.out
      obtain ⟨hq1, hd1, hl1⟩ := drop_parts hl2
      rw [jnumA, hl1] at hJ
      have HL2 := Lib.hid hl2
      have hsx : s[px] = c := by rw [rest_cons hq1] at hl2; injection hl2
      clear HJA hl2 hl1
      go_wp2_with fail
      refine hpk.mono ?_; rintro e w2 ⟨rfl, k, rfl⟩
      have HS4 := Lib.hid (HS2.out.same (w' := wc.drewN k) rfl)
      have HU4 := Lib.hid (HU2.out.trans (Upd.of_below (below_drewN' wc k) _))
      have HE4 := Lib.hid (HE2.out.below (below_drewN' wc k))
      have HZ4 := Lib.hid (show (wc.drewN k).heap[w.heap.size]? = some (.cells #[.int .i64 0, .int .i64 0, .string ⟨#[]⟩, .slice none 0 0, .slice none 0 0] 28 (0, 0)) from HZ2.out)
      clear hpk HS2 HU2 HE2 HZ2
      generalize wc.drewN k = W4 at *
      have hdc := digit_c c W4
      by_cases hdg : isDg c = true
      · have hJ := (if_pos hdg).symm.trans hJ
        rw [hdg] at hdc
        have hqi : (px : Int) < (s.size : Int) := by omega
        have h0 := HS4.out.c0
        have h1 := HS4.out.c1
        simp only at h1
        have HDS := Lib.hid (jds_dg c r hdg)
        have HAP := Lib.hid (jds_app (c :: r))
        go_wp2_with fail
        refine hdc.mono ?_; rintro e w5 ⟨rfl, hw5⟩
        rw [hw5]
        clear hdc hw5
        go_wp2
        go_quiet (fail)
        have HS5 := Lib.hid (HS4.out.same (w' := W4.drewN nq) rfl)
        have HU5 := Lib.hid (HU4.out.trans (Upd.of_below (below_drewN' W4 nq) _))
        have HE5 := Lib.hid (HE4.out.below (below_drewN' W4 nq))
        have HZ5 := Lib.hid (show (W4.drewN nq).heap[w.heap.size]? = some (.cells #[.int .i64 0, .int .i64 0, .string ⟨#[]⟩, .slice none 0 0, .slice none 0 0] 28 (0, 0)) from HZ4.out)
        clear HS4 HU4 HE4 HZ4 h0 h1
        generalize W4.drewN nq = W5 at *
        go_upto_if 48 with fail
        go_cut [] from 48 to 84 (fun wx => ∃ (pe : Nat) (ds : List UInt8), p ≤ pe ∧ pe ≤ s.size ∧ Hid (jnumEnd s.size p m (decL ds) (s.data.toList.drop pe) = res) ∧ Hid ((s.data.toList.drop p).take (pe - p) = signed m ds) ∧ Hid (ds ≠ [] ∧ ∀ c ∈ ds, isDg c = true) ∧ Hid (SrAt wx R s ⟨pe, 0, 0⟩) ∧ Hid (Upd w wx (some R) (some R)) ∧ Hid (ErrV wx) ∧ Hid (wx.heap[w.heap.size]? = some (.cells #[.int .i64 0, .int .i64 0, .string ⟨#[]⟩, .slice none 0 0, .slice none 0 0] 28 (0, 0))))
        case first =>
          by_cases n48 : c = 48
          · have m48 : ((c.toNat : Int) == 48) = true := byte_eq (d := 48) n48
            have hds : jds (c :: r) = ([48], r) := by rw [jds, if_pos n48]
            have HJ2 := Lib.hid (show jnumEnd s.size p m (decL [48]) (s.data.toList.drop (px + 1)) = res from by rw [hd1]; rw [hds] at hJ; exact hJ)
            have HT2 := Lib.hid (show (s.data.toList.drop p).take (px + 1 - p) = signed m [48] from take_signed (HSG.out [48] r (by rw [HL2.out, n48]; rfl)).symm (by rw [HLN.out]; show px + 1 - p = 1 + (px - p); omega))
            have HD3 := Lib.hid (by have := HDS.out; rw [hds] at this; exact this)
            have h1 := HS5.out.c1
            have f1 := HS5.out.f1
            simp only at h1
            clear hsx n48 hJ hds HDS HAP hd1
            go_wp2
            go_meet
            exact ⟨px + 1, [48], by omega, hq1, HJ2, HT2, HD3, Lib.hid (HS5.out.one rfl hq1), Lib.hid (HU5.out.trans (Upd.of_setCell W5 ⟨R, 1, none⟩ (.int .i64 ((px : Int) + 1)))), Lib.hid (HE5.out.upd (Upd.of_setCell W5 ⟨R, 1, none⟩ (.int .i64 ((px : Int) + 1))) hR), Lib.hid ((heap_setCell_other W5 ⟨R, 1, none⟩ w.heap.size (.int .i64 ((px : Int) + 1)) (show w.heap.size ≠ R by omega)).trans HZ5.out)⟩
          · have m48 : ((c.toNat : Int) == 48) = false := byte_ne (d := 48) n48
            have hjj := jds_jdg (r := r) hdg n48
            have HJ2 := Lib.hid (show jnumEnd s.size p m (decL (jdg (c :: r)).1) (jdg (c :: r)).2 = res from by rw [← hjj]; exact hJ)
            have HLEN := Lib.hid (show signed m (jdg (c :: r)).1 ++ (jdg (c :: r)).2 = s.data.toList.drop p from HSG.out _ _ (by rw [HL2.out]; exact jdg_app _))
            have HDS2 := Lib.hid (by have := HDS.out; rw [hjj] at this; exact this)
            clear hsx hJ hjj HDS HAP n48
            go_wp2
            simp only [m48]
            go_loopg [] (s.size + 1) (fun gk wr => ∃ (q : Nat), px ≤ q ∧ q ≤ s.size ∧ s.size - q < gk ∧ Hid ((jdg (c :: r)).2 = (jdg (s.data.toList.drop q)).2) ∧ Hid ((jdg (c :: r)).1.length = q - px + (jdg (s.data.toList.drop q)).1.length) ∧ Hid (SrAt wr R s ⟨q, 0, 0⟩) ∧ Hid (Upd w wr (some R) (some R)) ∧ Hid (ErrV wr) ∧ Hid (wr.heap[w.heap.size]? = some (.cells #[.int .i64 0, .int .i64 0, .string ⟨#[]⟩, .slice none 0 0, .slice none 0 0] 28 (0, 0))))
            case atStart => exact ⟨px, Nat.le_refl _, by omega, by omega, Lib.hid (by rw [HL2.out]), Lib.hid (by rw [HL2.out]; omega), HS5, HU5, HE5, HZ5⟩
            case round =>
              obtain ⟨pe, hpxe, hpe, hgk, HA, HN, HS6, HU6, HE6, HZ6⟩ := hrel
              clear HS5 HU5 HE5 HZ5 m48
              have h0 := HS6.out.c0
              have h1 := HS6.out.c1
              have f1 := HS6.out.f1
              simp only at h1
              by_cases hlt : pe < s.size
              · have hqj : (pe : Int) < (s.size : Int) := by omega
                by_cases hd2 : isDg s[pe] = true
                · have HDC := Lib.hid (fun (W : World) => by have := digit_c s[pe] W; rw [hd2] at this; exact this)
                  have hst : jdg (s.data.toList.drop pe) = (s[pe] :: (jdg (s.data.toList.drop (pe + 1))).1, (jdg (s.data.toList.drop (pe + 1))).2) := by rw [rest_cons hlt, jdg, if_pos hd2]
                  have HA2 := Lib.hid (by have := HA.out; rw [hst] at this; exact this)
                  have HN2 := Lib.hid (by have := HN.out; rw [hst, List.length_cons] at this; exact this)
                  have HLT := Lib.hid hlt
                  clear hst hd2 HA HN
                  go_wp2
                  go_quiet ((go_at_call 62; exact quietS (HDC.out _)))
                  have HS7 := Lib.hid (HS6.out.one (w2 := wr.drewN nq) rfl HLT.out)
                  have HU7 := Lib.hid ((HU6.out.trans (Upd.of_below (below_drewN' wr nq) _)).trans (Upd.of_setCell (wr.drewN nq) ⟨R, 1, none⟩ (.int .i64 ((pe : Int) + 1))))
                  have HE7 := Lib.hid ((HE6.out.below (below_drewN' wr nq)).upd (Upd.of_setCell (wr.drewN nq) ⟨R, 1, none⟩ (.int .i64 ((pe : Int) + 1))) hR)
                  have HZ7 := Lib.hid ((heap_setCell_other (wr.drewN nq) ⟨R, 1, none⟩ w.heap.size (.int .i64 ((pe : Int) + 1)) (show w.heap.size ≠ R by omega)).trans (show (wr.drewN nq).heap[w.heap.size]? = some (.cells #[.int .i64 0, .int .i64 0, .string ⟨#[]⟩, .slice none 0 0, .slice none 0 0] 28 (0, 0)) from HZ6.out))
                  go_wp2
                  go_roundg (gk - 1)
                  case measure => omega
                  case rel => exact ⟨pe + 1, by omega, HLT.out, by omega, HA2, Lib.hid (by have := HN2.out; omega), HS7, HU7, HE7, HZ7⟩
                · have hd3 : isDg s[pe] = false := by simpa using hd2
                  have HDC := Lib.hid (fun (W : World) => by have := digit_c s[pe] W; rw [hd3] at this; exact this)
                  have hst : jdg (s.data.toList.drop pe) = ([], s.data.toList.drop pe) := by rw [rest_cons hlt, jdg, if_neg hd2]
                  have HJ3 := Lib.hid (show jnumEnd s.size p m (decL (jdg (c :: r)).1) (s.data.toList.drop pe) = res from by have e : (jdg (c :: r)).2 = s.data.toList.drop pe := by { have e := HA.out; rw [hst] at e; exact e }; rw [← e]; exact HJ2.out)
                  have HT3 := Lib.hid (show (s.data.toList.drop p).take (pe - p) = signed m (jdg (c :: r)).1 from take_signed HLEN.out.symm (by have e := HN.out; rw [hst] at e; simp only [List.length_nil] at e; rw [HLN.out]; omega))
                  clear hst HA HN HJ2 HLEN
                  clear hd2 hd3
                  go_wp2
                  go_quiet ((go_at_call 62; exact quietS (HDC.out _)))
                  go_wp2
                  go_meet
                  exact ⟨pe, (jdg (c :: r)).1, by omega, hpe, HJ3, HT3, HDS2, Lib.hid (HS6.out.same (w' := wr.drewN nq) rfl), Lib.hid (HU6.out.trans (Upd.of_below (below_drewN' wr nq) _)), Lib.hid (HE6.out.below (below_drewN' wr nq)), Lib.hid (show (wr.drewN nq).heap[w.heap.size]? = some (.cells #[.int .i64 0, .int .i64 0, .string ⟨#[]⟩, .slice none 0 0, .slice none 0 0] 28 (0, 0)) from HZ6.out)⟩
              · have hqj : decide ((pe : Int) < (s.size : Int)) = false := by rw [decide_eq_false_iff_not]; omega
                have hst : jdg (s.data.toList.drop pe) = ([], s.data.toList.drop pe) := by rw [rest_nil hlt]; rfl
                have HJ3 := Lib.hid (show jnumEnd s.size p m (decL (jdg (c :: r)).1) (s.data.toList.drop pe) = res from by have e : (jdg (c :: r)).2 = s.data.toList.drop pe := by { have e := HA.out; rw [hst] at e; exact e }; rw [← e]; exact HJ2.out)
                have HT3 := Lib.hid (show (s.data.toList.drop p).take (pe - p) = signed m (jdg (c :: r)).1 from take_signed HLEN.out.symm (by have e := HN.out; rw [hst] at e; simp only [List.length_nil] at e; rw [HLN.out]; omega))
                clear hst HA HN HJ2 HLEN
                go_wp2
                go_quiet (fail)
                go_wp2
                go_meet
                exact ⟨pe, (jdg (c :: r)).1, by omega, hpe, HJ3, HT3, HDS2, Lib.hid (HS6.out.same (w' := wr.drewN nq) rfl), Lib.hid (HU6.out.trans (Upd.of_below (below_drewN' wr nq) _)), Lib.hid (HE6.out.below (below_drewN' wr nq)), Lib.hid (show (wr.drewN nq).heap[w.heap.size]? = some (.cells #[.int .i64 0, .int .i64 0, .string ⟨#[]⟩, .slice none 0 0, .slice none 0 0] 28 (0, 0)) from HZ6.out)⟩
        case rest =>
          obtain ⟨pe, ds, hppe, hpe, HJ2, HT2, HDS3, HS6, HU6, HE6, HZ6⟩ := hcut
          clear HS5 HU5 HE5 HZ5 HDS HAP hJ hsx hd1 hqi
          have h0 := HS6.out.c0
          have h1 := HS6.out.c1
          simp only at h1
          have hpi2 : (p : Int) ≤ (pe : Int) := by omega
          have hpei : (pe : Int) ≤ (s.size : Int) := by omega
          have HXP := Lib.hid ((congrArg (Lib.parseIntB 64) (take_part.trans HT2.out)).trans (parse_digits m ds HDS3.out.1 HDS3.out.2))
          have hXs : (s.extract p pe).size ≤ s.size := by rw [ByteArray.size_extract]; omega
          have hJ := HJ2.out
          unfold jnumEnd at hJ
          by_cases hrg : (m = true ∧ 9223372036854775808 < decL ds) ∨ (m = false ∧ 9223372036854775808 ≤ decL ds)
          · have HJ4 := Lib.hid ((if_pos hrg).symm.trans hJ)
            obtain ⟨tp, pv, hvar⟩ := (HE6.out.below ((Below.refl wc.heap.size wc).drew)).var
            have HP := Lib.hid (Tryd.strconv_ParseInt_10_at64_range_var (s.extract p pe) (by omega) (HXP.out.trans (if_pos hrg)) tp pv wc.drew hvar)
            clear hJ hrg HXP HJ2 HT2 HDS3 hvar
            go_wp2
            go_region_law (go_simp; go_at_call 82; refine HP.out.mono ?_; rintro e w7 ⟨N7, rfl, hN7, -, hb7⟩; have HB7 := Lib.hid hb7; clear hb7)
            all_goals have HS7 := Lib.hid ((HS6.out.same (w' := wc.drew) rfl).below HB7.out)
            all_goals have HU7 := Lib.hid ((HU6.out.trans (Upd.of_below ((Below.refl wc.heap.size wc).drew) _)).trans (Upd.of_below HB7.out _))
            all_goals have hfl := pfail_c R s ⟨pe, 0, 0⟩ 15 p _ HS7.out
            all_goals clear h0 h1
            all_goals go_wp2_with fail
            all_goals refine hfl.mono ?_; rintro e w8 ⟨rfl, hr, hu⟩
            all_goals have HQ := Lib.hid (And.intro hr hu)
            all_goals clear hr hu hfl
            all_goals unfold noV
            all_goals go_wp2
            all_goals exact ⟨rfl, pj_bad HJ4.out HQ.out.1 (HU7.out.trans HQ.out.2)⟩
          · have hJ := (if_neg hrg).symm.trans hJ
            obtain ⟨v, hv⟩ : ∃ v : Int, v = (if m = true then -(decL ds : Int) else (decL ds : Int)) := ⟨_, rfl⟩
            have HV := Lib.hid (show -9223372036854775808 ≤ v ∧ v ≤ 9223372036854775807 from by rw [hv]; exact num_bound hrg)
            have HP := Lib.hid (Tryd.strconv_ParseInt_10_at64_ok (s.extract p pe) (by omega) v ((HXP.out.trans (if_neg hrg)).trans (by rw [hv])) wc.drew)
            rw [← hv] at hJ
            clear hrg HXP HJ2 HT2 HDS3 hv
            go_wp2
            go_region_law (go_simp; go_at_call 82; refine HP.out.mono ?_; rintro e w7 ⟨rfl, hw7⟩; have HB7 := Lib.hid (show Below wc.drew.heap.size wc.drew w7 from ok_below hw7); clear hw7)
            all_goals have HS7 := Lib.hid ((HS6.out.same (w' := wc.drew) rfl).below HB7.out)
            all_goals have HU7 := Lib.hid ((HU6.out.trans (Upd.of_below ((Below.refl wc.heap.size wc).drew) _)).trans (Upd.of_below HB7.out _))
            all_goals have HZ7 := Lib.hid ((HB7.out.block w.heap.size (cell_lt (cellsOf5 HZ6.out).1.1)).trans (show wc.drew.heap[w.heap.size]? = some (.cells #[.int .i64 0, .int .i64 0, .string ⟨#[]⟩, .slice none 0 0, .slice none 0 0] 28 (0, 0)) from HZ6.out))
            all_goals clear h0 h1 HS6 HU6 HE6 HZ6 HB7
            all_goals (
              have hS0 := HS7.out.c0
              have hS1 := HS7.out.c1
              simp only at hS1
              obtain ⟨l3, hl3⟩ : ∃ x, s.data.toList.drop pe = x := ⟨_, rfl⟩
              rw [hl3] at hJ
              cases l3 with
              | nil =>
                have HJ6 := Lib.hid (show JR.ok v (s.data.toList.drop pe) = res from by rw [hl3]; exact hJ)
                have hq5 : pe = s.size := by have := drop_none hl3; omega
                subst hq5
                clear hJ hl3 hpei
                go_wp2
                go_quiet (fail)
                have HS9 := Lib.hid (HS7.out.same (w' := w7.drewN nq) rfl)
                have HU9 := Lib.hid (HU7.out.trans (Upd.of_below (below_drewN' w7 nq) _))
                have HZ9 := Lib.hid (show (w7.drewN nq).heap[w.heap.size]? = some (.cells #[.int .i64 0, .int .i64 0, .string ⟨#[]⟩, .slice none 0 0, .slice none 0 0] 28 (0, 0)) from HZ7.out)
                clear HS7 HU7 HZ7 hS0 hS1
                generalize w7.drewN nq = W9 at *
                go_wp2_with fail
                refine (of_c v _).mono ?_; rintro e w10 ⟨rfl, hb10⟩
                have HS10 := Lib.hid (HS9.out.below hb10)
                have HU10 := Lib.hid (HU9.out.trans (Upd.of_below hb10 _))
                have HZ10 := Lib.hid ((hb10.block w.heap.size (cell_lt (cellsOf5 HZ9.out).1.1)).trans HZ9.out)
                obtain ⟨⟨z0, z1, z2, z3, z4⟩, y0, y1, y2, y3, y4⟩ := cellsOf5 HZ10.out
                clear hb10 HS9 HU9 HZ9
                go_wp2
                (try simp only [Exit.inBlock, Exit.then])
                refine bodyPost_ret (results_cell_row rfl _ _ w.heap.size 28 _ (0, 0) _ (by rfl) (set5 HZ10.out) Tryd.underlying28 rfl (by kernel_rfl)) rfl ?_
                exact pj_ok (a := v) (q := s.size) HJ6.out ⟨rfl, HV.out⟩ hppe (HS10.out.after (other_set5 (show R ≠ w.heap.size by omega))) (HU10.out.trans_below (below_set5 (Below.refl w.heap.size w10) (Nat.le_refl _)))
              | cons c2 r2 =>
                obtain ⟨hq5, hd5, hl5⟩ := drop_parts hl3
                simp only at hJ
                rw [hl5] at hJ
                have hsp5 : s[pe] = c2 := by rw [rest_cons hq5] at hl3; injection hl3
                have hq6 : (pe : Int) < (s.size : Int) := by omega
                have HL3 := Lib.hid hl3
                clear hl3 hd5 hl5
                by_cases k1 : c2 = 46
                · have HJ6 := Lib.hid ((if_pos (.inl k1)).symm.trans hJ)
                  have g1 : ((c2.toNat : Int) == 46) = true := byte_eq (d := 46) k1
                  clear k1 hJ
                  go_wp2
                  go_quiet (fail)
                  have hfl := pfail_c R s ⟨pe, 0, 0⟩ 14 pe (w7.drewN nq) (HS7.out.same rfl)
                  go_wp2_with fail
                  refine hfl.mono ?_; rintro e w8 ⟨rfl, hr, hu⟩
                  have HQ := Lib.hid (And.intro hr hu)
                  clear hr hu hfl
                  unfold noV
                  go_wp2
                  exact ⟨rfl, pj_bad HJ6.out HQ.out.1 ((HU7.out.trans (Upd.of_below (below_drewN' w7 nq) _)).trans HQ.out.2)⟩
                have g1 : ((c2.toNat : Int) == 46) = false := byte_ne (d := 46) k1
                by_cases k2 : c2 = 101
                · have HJ6 := Lib.hid ((if_pos (.inr (.inl k2))).symm.trans hJ)
                  have g2 : ((c2.toNat : Int) == 101) = true := byte_eq (d := 101) k2
                  clear k1 k2 hJ
                  go_wp2
                  go_quiet (fail)
                  have hfl := pfail_c R s ⟨pe, 0, 0⟩ 14 pe (w7.drewN nq) (HS7.out.same rfl)
                  go_wp2_with fail
                  refine hfl.mono ?_; rintro e w8 ⟨rfl, hr, hu⟩
                  have HQ := Lib.hid (And.intro hr hu)
                  clear hr hu hfl
                  unfold noV
                  go_wp2
                  exact ⟨rfl, pj_bad HJ6.out HQ.out.1 ((HU7.out.trans (Upd.of_below (below_drewN' w7 nq) _)).trans HQ.out.2)⟩
                have g2 : ((c2.toNat : Int) == 101) = false := byte_ne (d := 101) k2
                by_cases k3 : c2 = 69
                · have HJ6 := Lib.hid ((if_pos (.inr (.inr k3))).symm.trans hJ)
                  have g3 : ((c2.toNat : Int) == 69) = true := byte_eq (d := 69) k3
                  clear k1 k2 k3 hJ
                  go_wp2
                  go_quiet (fail)
                  have hfl := pfail_c R s ⟨pe, 0, 0⟩ 14 pe (w7.drewN nq) (HS7.out.same rfl)
                  go_wp2_with fail
                  refine hfl.mono ?_; rintro e w8 ⟨rfl, hr, hu⟩
                  have HQ := Lib.hid (And.intro hr hu)
                  clear hr hu hfl
                  unfold noV
                  go_wp2
                  exact ⟨rfl, pj_bad HJ6.out HQ.out.1 ((HU7.out.trans (Upd.of_below (below_drewN' w7 nq) _)).trans HQ.out.2)⟩
                have g3 : ((c2.toNat : Int) == 69) = false := byte_ne (d := 69) k3
                have HJ6 := Lib.hid (show JR.ok v (s.data.toList.drop pe) = res from by rw [HL3.out]; exact (if_neg (fun e => e.elim k1 (fun e => e.elim k2 k3))).symm.trans hJ)
                clear k1 k2 k3 hJ
                go_wp2
                go_quiet (fail)
                have HS9 := Lib.hid (HS7.out.same (w' := w7.drewN nq) rfl)
                have HU9 := Lib.hid (HU7.out.trans (Upd.of_below (below_drewN' w7 nq) _))
                have HZ9 := Lib.hid (show (w7.drewN nq).heap[w.heap.size]? = some (.cells #[.int .i64 0, .int .i64 0, .string ⟨#[]⟩, .slice none 0 0, .slice none 0 0] 28 (0, 0)) from HZ7.out)
                clear HS7 HU7 HZ7 hS0 hS1
                generalize w7.drewN nq = W9 at *
                go_wp2_with fail
                refine (of_c v _).mono ?_; rintro e w10 ⟨rfl, hb10⟩
                have HS10 := Lib.hid (HS9.out.below hb10)
                have HU10 := Lib.hid (HU9.out.trans (Upd.of_below hb10 _))
                have HZ10 := Lib.hid ((hb10.block w.heap.size (cell_lt (cellsOf5 HZ9.out).1.1)).trans HZ9.out)
                obtain ⟨⟨z0, z1, z2, z3, z4⟩, y0, y1, y2, y3, y4⟩ := cellsOf5 HZ10.out
                clear hb10 HS9 HU9 HZ9
                go_wp2
                (try simp only [Exit.inBlock, Exit.then])
                refine bodyPost_ret (results_cell_row rfl _ _ w.heap.size 28 _ (0, 0) _ (by rfl) (set5 HZ10.out) Tryd.underlying28 rfl (by kernel_rfl)) rfl ?_
                exact pj_ok (a := v) (q := pe) HJ6.out ⟨rfl, HV.out⟩ hppe (HS10.out.after (other_set5 (show R ≠ w.heap.size by omega))) (HU10.out.trans_below (below_set5 (Below.refl w.heap.size w10) (Nat.le_refl _))))
      · have hdg2 : isDg c = false := by simpa using hdg
        rw [hdg2] at hdc
        have HJ2 := Lib.hid ((if_neg hdg).symm.trans hJ)
        have hfl := pfail_c R s ⟨px, 0, 0⟩ 10 px W4 HS4.out
        have h1 := HS4.out.c1
        simp only at h1
        clear hJ hdg hdg2
        go_wp2_with fail
        refine hdc.mono ?_; rintro e w5 ⟨rfl, hw5⟩
        rw [hw5]
        clear hdc hw5
        go_wp2_with fail
        refine hfl.mono ?_; rintro e w6 ⟨rfl, hr, hu⟩
        have HQ := Lib.hid (And.intro hr hu)
        clear hr hu hfl
        unfold noV
        go_wp2
        exact ⟨rfl, pj_bad HJ2.out HQ.out.1 (HU4.out.trans HQ.out.2)⟩
end Go.Proofs.YtbkbokfegjodnaaDoor
