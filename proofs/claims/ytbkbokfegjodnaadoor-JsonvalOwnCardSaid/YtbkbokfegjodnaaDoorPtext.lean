/- The walk of the reader's text. Conditions: the tables of package utf8 lie as their texts lay them; a text has less than 2 to the 44 bytes. -/
import Derived.Test.YtbkbokfegjodnaaDoorRda
import Derived.Test.YtbkbokfegjodnaaDoorPfull
import Derived.Test.YtbkbokfegjodnaaDoorMemory
import Derived.Test.YtbkbokfegjodnaaDoorBasic
import Derived.Lib.AppendStr
namespace Go.Proofs.YtbkbokfegjodnaaDoor
open Go.RowKit
theorem byTy : ByteTy Tryd.prog 63 5 := ⟨by kernel_rfl, by kernel_rfl, by kernel_rfl⟩
/-- append(b, s...) -/
theorem wpList_pushS {ops : Array Oper} {rest : List Oper} {o : Oper} {a : Act} {w : World} {Q : Exit → Act → World → Prop} (hgd : o.guard = none) (sl x : Operand)
    (ho : o.op = .call { callee := .builtin .append, args := #[sl, x], argTypes := #[63, 9] })
    (base : Nat) (v : Value) (l : List UInt8) (hs : a.eval sl = v) (hown : Buf w base 5 v l) (s : ByteArray) (hx : a.eval x = .string s) (hlen : l.length + s.size ≤ 140737488355328) (hbase : base ≤ w.heap.size)
    (h : ∀ v' w', Buf w' base 5 v' (l ++ s.data.toList) → Below base w w' → wpList Tryd.prog ops Q rest (a.put o.dst v') w') : wpList Tryd.prog ops Q (o :: rest) a w := by
  obtain ⟨i0, hi, hz0, hz1, hz2⟩ := info_parts byTy.info
  refine Lib.wpList_append_own_string w hgd sl x _ _ ho base _ i0 byTy.slice Tryd.underlying9 hi hz0 hz1 hz2 v l.length (l.map byteV) hs hown s hx (by unfold maxLen; omega) hlen hbase ?_
  intro v' w' h2 h3 _
  refine h v' w' ?_ (below_of_grownBy h3 hbase fun k hk => (hown.lt k hk).1)
  have e : (l ++ s.data.toList).length = l.length + s.size := by rw [List.length_append, Array.length_toList]; rfl
  unfold Buf
  rw [e, List.map_append]
  exact h2
theorem tabs_upd {w w' : World} {R : Nat} (hT : Lib.Utf8Tabs 0 1 w) (hu : Upd w w' (some R) (some R)) (hR : 2 ≤ R) : Lib.Utf8Tabs 0 1 w' :=
  ⟨fun c hc => hu.cell (hT.1 c hc) (fun e => by have h : R = 0 := Option.some.inj e; omega), fun i hi => ⟨hu.cell (hT.2 i hi).1 (fun e => by have h : R = 1 := Option.some.inj e; omega), hu.cell (hT.2 i hi).2 (fun e => by have h : R = 1 := Option.some.inj e; omega)⟩⟩
theorem buf_upd {w w' : World} {B R : Nat} {v : Value} {l : List UInt8} (h : Buf w B 5 v l) (hu : Upd w w' (some R) (some R)) (hR : R < B) : Buf w' B 5 v l :=
  World.ownsRow.kept h hu.grown (by
    cases e : v.ownBlock with
    | none => exact .inl rfl
    | some g => right; intro e2; have := (h.lt g e).1; have := Option.some.inj e2; omega)
/-- behind a step that turns only new memory -/
theorem sr_step {w w1 w2 : World} {R : Nat} {s : ByteArray} {st : St} (hR : R < w.heap.size) (hS : SrAt w1 R s st) (hU : Upd w w1 (some R) (some R)) (hb : Below w.heap.size w1 w2) : SrAt w2 R s st ∧ Upd w w2 (some R) (some R) :=
  ⟨hS.after (hb.block R hR), hU.trans_below hb⟩
theorem decode_ext {s : ByteArray} {q : Nat} (hq : q < s.size) : Lib.decodeGo (s.extract q s.size) = Lib.decodeL (s.data.toList.drop q) := by
  have h1 := drop_extract s q
  have h2 := Lib.decodeL_drop (s.extract q s.size) 0
  rw [List.drop_zero, h1] at h2
  unfold Lib.decodeGo
  rw [if_neg (by rw [ByteArray.size_extract]; omega), h2]
theorem own_ne {w : World} {B R : Nat} {v : Value} {l : List UInt8} (h : Buf w B 5 v l) (hR : R < B) : v.ownBlock = none ∨ v.ownBlock ≠ some R := by
  cases e : v.ownBlock with
  | none => exact .inl rfl
  | some g => right; intro e2; have := (h.lt g e).1; have := Option.some.inj e2; omega
theorem first_of {X : ByteArray} {c : UInt8} {r : List UInt8} (h : X.data.toList = c :: r) : ∃ h0 : 0 < X.size, X[0] = c := by
  have h2 : X.data.toList.drop 0 = c :: r := by rw [List.drop_zero]; exact h
  obtain ⟨h0, _, _⟩ := drop_parts h2
  refine ⟨h0, ?_⟩
  rw [rest_cons h0] at h2
  injection h2
theorem take_extract (t : ByteArray) (k : Nat) : (t.extract 0 k).data.toList = t.data.toList.take k := by
  rw [ByteArray.data_extract, Array.toList_extract]
  simp [List.extract]
def txtGood (R : Nat) (s : ByteArray) (p : Nat) (w : World) (res : JR (List UInt8)) (e : Ending) (w' : World) : Prop := PJ R s w p (fun (x : List UInt8) v _ => v = .string ⟨x.toArray⟩ ∧ x.length ≤ 4 * s.size) res e w'
set_option maxRecDepth 20000 in
set_option maxHeartbeats 8000000 in
theorem text_c (R : Nat) (hR2 : 2 ≤ R) (s : ByteArray) (p : Nat) (c0 : UInt8) (l : List UInt8) (hl : s.data.toList.drop p = c0 :: l) (hs : s.size < 17592186044416) (w : World) (h : SrAt w R s ⟨p, 0, 0⟩) (hT : Lib.Utf8Tabs 0 1 w) :
    Calls Tryd.prog 64 #[.pointer (some ⟨R, 0, none⟩)] w (txtGood R s (p + 1) w (jtext s.size (l.length + 1) l [])) := by
  obtain ⟨hp, hd, _⟩ := drop_parts hl
  obtain ⟨res, hres⟩ : ∃ res, jtext s.size (l.length + 1) l [] = res := ⟨_, rfl⟩
  rw [hres]
  rw [← hd] at hres
  have h1 := h.c1
  have f1 := h.f1
  simp only at h1
  have hRw := h.lt
  have HT := Lib.hid hT
  have HS0 := Lib.hid (h.one rfl hp)
  have HU0 := Lib.hid (Upd.of_setCell w ⟨R, 1, none⟩ (.int .i64 ((p : Int) + 1)))
  have HRES := Lib.hid hres
  clear h hl hres hT
  go_enter Tryd.func64, Tryd.ntmps64
  go_wp2
  go_loopg [3] (s.size + 1) (fun gk bv wr => ∃ (q : Nat) (acc : List UInt8) (fu : Nat), Hid (Buf wr w.heap.size 5 bv acc) ∧ acc.length ≤ 4 * q ∧ p + 1 ≤ q ∧ q ≤ s.size ∧ s.size - q < gk ∧ s.size - q < fu ∧ Hid (jtext s.size fu (s.data.toList.drop q) acc = res) ∧ Hid (SrAt wr R s ⟨q, 0, 0⟩) ∧ Hid (Upd w wr (some R) (some R)))
  case atStart => exact ⟨p + 1, [], _, Lib.hid (buf_nil _ _ _), by simp, Nat.le_refl _, hp, by omega, by have e : (s.data.toList.drop (p + 1)).length = s.size - (p + 1) := by { rw [List.length_drop, Array.length_toList]; rfl }; rw [← e]; exact Nat.lt_succ_self _, HRES, HS0, HU0⟩
  case round =>
    obtain ⟨q, acc, fu, HB, hacc, hpq, hq, hgk, hfu, HJ, HS, HU⟩ := hrel
    clear HRES HS0 HU0 h1 f1
    obtain ⟨f, rfl⟩ : ∃ f, fu = f + 1 := ⟨fu - 1, by omega⟩
    obtain ⟨l2, hl2⟩ : ∃ x, s.data.toList.drop q = x := ⟨_, rfl⟩
    have hJ := HJ.out
    rw [hl2] at hJ
    clear HJ
    cases l2 with
    | nil =>
      have HJ2 := Lib.hid (show JR.bad 3 s.size = res from hJ)
      have hpk := peek_e R s q hl2 wr HS.out
      clear hJ hl2
      go_wp2_with fail
      refine hpk.mono ?_; rintro e w1 ⟨rfl, hr, hu⟩
      have HQ := Lib.hid (And.intro hr hu)
      clear hr hu hpk
      unfold noV
      go_wp2
      exact ⟨rfl, pj_bad HJ2.out HQ.out.1 (HU.out.trans HQ.out.2)⟩
    | cons c r =>
      rw [jtext] at hJ
      obtain ⟨hq1, hd1, hl1⟩ := drop_parts hl2
      rw [hl1] at hJ
      have hpk := peek_l R s q c r hl2 wr HS.out
      have HL2 := Lib.hid hl2
      have HD := Lib.hid hd1
      clear hl2 hd1 hl1
      go_wp2_with fail
      refine hpk.mono ?_; rintro e w1 ⟨rfl, m, rfl⟩
      have HS1 := Lib.hid (HS.out.same (w' := wr.drewN m) rfl)
      have HB1 := Lib.hid (buf_size HB.out (w' := wr.drewN m) rfl)
      have HU1 := Lib.hid (HU.out.trans (Upd.of_below (below_drewN' wr m) _))
      have hsz : w.heap.size ≤ (wr.drewN m).heap.size := HU1.out.grown.size
      clear hpk HS HB HU
      generalize wr.drewN m = W at *
      have h0 := HS1.out.c0
      have h1 := HS1.out.c1
      have f1 := HS1.out.f1
      simp only at h1
      by_cases n34 : c = 34
      · have HJ2 := Lib.hid ((if_pos n34).symm.trans hJ)
        subst n34
        have hS2 := HS1.out.one rfl hq1
        have hU2 := HU1.out.trans (Upd.of_setCell W ⟨R, 1, none⟩ (.int .i64 ((q : Int) + 1)))
        have hB2 := buf_upd HB1.out (Upd.of_setCell W ⟨R, 1, none⟩ (.int .i64 ((q : Int) + 1))) hRw
        have hcv := run_buf_string byTy hB2 9 Tryd.underlying9
        have HQ := Lib.hid (And.intro hS2 hU2)
        clear hJ hS2 hU2 hB2 h0
        go_wp2
        go_ret
        exact pj_ok (a := acc) (q := q + 1) (by rw [HD.out]; exact HJ2.out) ⟨rfl, by omega⟩ (by omega) HQ.out.1 HQ.out.2
      have hJ := (if_neg n34).symm.trans hJ
      have m34 : ((c.toNat : Int) == 34) = false := byte_ne (d := 34) n34
      by_cases n92 : c = 92
      · have hJ := (if_pos n92).symm.trans hJ
        subst n92
        have hx := esc_c R s q 92 r HL2.out (by omega) W HS1.out
        cases he : jesc s.size r with
        | bad er pl =>
          rw [he] at hx
          have HJ2 := Lib.hid (show JR.bad er pl = res from by rw [he] at hJ; exact hJ)
          clear hJ he
          go_wp2_with fail
          refine hx.mono ?_; rintro e w2 ⟨rfl, ⟨q2, hq2⟩, hu⟩
          have HQ := Lib.hid (And.intro hq2 hu)
          clear hx hq2 hu
          unfold noV
          go_wp2
          exact ⟨rfl, pj_bad HJ2.out HQ.out.1 (HU1.out.trans HQ.out.2)⟩
        | ok x r2 =>
          rw [he] at hx
          have HJ2 := Lib.hid (show jtext s.size f r2 (acc ++ x) = res from by rw [he] at hJ; exact hJ)
          clear hJ he h0 h1 f1
          go_wp2_with fail
          refine hx.mono ?_; rintro e w2 ⟨q2, v, rfl, ⟨rfl, hxl⟩, hr2, hpq2, hqs2, hsr2, hu2⟩
          have HS2 := Lib.hid hsr2
          have HB2 := Lib.hid (buf_upd HB1.out hu2 hRw)
          have HU2 := Lib.hid (HU1.out.trans hu2)
          have HR2 := Lib.hid hr2
          have hsz2 : w.heap.size ≤ w2.heap.size := HU2.out.grown.size
          have hxs : (⟨x.toArray⟩ : ByteArray).size = x.length := by show x.toArray.size = _; simp
          clear hx hsr2 hu2 hr2
          go_wp2_with (at_builtin; refine wpList_pushS rfl _ _ rfl w.heap.size _ acc rfl HB2.out ⟨x.toArray⟩ rfl (by rw [hxs]; omega) hsz2 ?_; intro v3 w3 hv3 hb3; have HB3 := Lib.hid hv3; have HQ3 := Lib.hid (sr_step hRw HS2.out HU2.out hb3); clear hv3 hb3)
          go_roundg (gk - 1)
          case measure => omega
          case rel => exact ⟨q2, acc ++ x, f, HB3, by rw [List.length_append]; omega, by omega, hqs2, by omega, by omega, by rw [← HR2.out]; exact HJ2, Lib.hid HQ3.out.1, Lib.hid HQ3.out.2⟩
      have hJ := (if_neg n92).symm.trans hJ
      have m92 : ((c.toNat : Int) == 92) = false := byte_ne (d := 92) n92
      clear n34 n92
      by_cases n32 : c.toNat < 32
      · have HJ2 := Lib.hid ((if_pos n32).symm.trans hJ)
        have g1 : (c.toNat : Int) < 32 := by omega
        have hfl := pfail_c R s ⟨q, 0, 0⟩ 11 q W HS1.out
        clear hJ n32
        go_wp2_with fail
        refine hfl.mono ?_; rintro e w2 ⟨rfl, hr, hu⟩
        have HQ := Lib.hid (And.intro hr hu)
        clear hr hu hfl
        unfold noV
        go_wp2
        exact ⟨rfl, pj_bad HJ2.out HQ.out.1 (HU1.out.trans HQ.out.2)⟩
      have hJ := (if_neg n32).symm.trans hJ
      have g1 : ¬ (c.toNat : Int) < 32 := by omega
      clear n32
      by_cases n128 : c.toNat < 128
      · have g2 : (c.toNat : Int) < 128 := by omega
        have e1 : chrD (c :: r) = 1 := by rw [chrD, if_pos n128]
        rw [e1, if_neg (by decide), if_neg (by decide)] at hJ
        have HJ2 := Lib.hid (show jtext s.size f r (acc ++ [c]) = res from hJ)
        have hal : Below W.heap.size W (W.alloc (.cells #[.int .u8 (c.toNat : Int)] 5)) := (Below.refl _ _).alloc (Nat.le_refl _) _
        have hB2 := buf_alloc HB1.out (.cells #[.int .u8 (c.toNat : Int)] 5)
        have hcell : (W.alloc (.cells #[.int .u8 (c.toNat : Int)] 5)).cell? ⟨W.heap.size, 0, none⟩ = some (byteV c) := by simp [go_sem, byteV]
        have HAL := Lib.hid hal
        have hacc2 : acc.length < 140737488355328 := by omega
        clear hJ hal e1 n128 h0 h1 f1
        go_wp2_with (at_builtin; refine wpList_push byTy rfl _ _ rfl w.heap.size _ acc rfl hB2 _ c rfl hcell hacc2 (Nat.le_trans hsz HAL.out.size) ?_; intro v3 w3 hv3 hb3; have HB3 := Lib.hid hv3; have hq3 := sr_step hRw HS1.out HU1.out ((HAL.out.mono hsz).trans hb3); have h1 := hq3.1.c1; have f1 := hq3.1.f1; simp only at h1; have HQ3 := Lib.hid hq3; clear hv3 hb3 hq3 hB2 hcell)
        go_roundg (gk - 1)
        case measure => omega
        case rel => exact ⟨q + 1, acc ++ [c], f, Lib.hid (buf_upd HB3.out (Upd.of_setCell w3 ⟨R, 1, none⟩ (.int .i64 ((q : Int) + 1))) hRw), by rw [List.length_append]; simp; omega, by omega, hq1, by omega, by omega, by rw [HD.out]; exact HJ2, Lib.hid (HQ3.out.1.one rfl hq1), Lib.hid (HQ3.out.2.trans (Upd.of_setCell w3 ⟨R, 1, none⟩ (.int .i64 ((q : Int) + 1))))⟩
      have g2 : ¬ (c.toNat : Int) < 128 := by omega
      have hqi : (q : Int) ≤ (s.size : Int) := by omega
      have HX := Lib.hid (show (s.extract q s.size).data.toList = c :: r from (drop_extract s q).trans HL2.out)
      have HXS := Lib.hid (show (s.extract q s.size).size = s.size - q by rw [ByteArray.size_extract]; omega)
      have HDG := Lib.hid (decode_ext hq1)
      have HTW := Lib.hid (tabs_upd HT.out HU1.out hR2)
      go_wp2
      go_quiet (fail)
      have HS2 := Lib.hid (HS1.out.same (w' := W.drewN nq) rfl)
      have HB2 := Lib.hid (buf_size HB1.out (w' := W.drewN nq) rfl)
      have HU2 := Lib.hid (HU1.out.trans (Upd.of_below (below_drewN' W nq) _))
      have HT2 := Lib.hid (tabs_upd HTW.out (Upd.of_below (below_drewN' W nq) (some R)) hR2)
      clear HS1 HB1 HU1 HTW h0 h1 f1 hsz hqi
      generalize W.drewN nq = W2 at *
      generalize s.extract q s.size = X at *
      have hdec := Tryd.utf8_DecodeRuneInString X W2 HT2.out
      have hdg := HDG.out
      rw [HL2.out] at hdg
      rw [hdg] at hdec
      have hXs := HXS.out
      have hge : 128 ≤ c.toNat := by omega
      rcases chr_decode c r hge with ⟨hle, hde⟩ | ⟨hgt, hlen⟩
      · rw [hde] at hdec
        simp only at hdec
        obtain ⟨hX0, hXc⟩ := first_of HX.out
        have HFC := Lib.hid (fun (W : World) (hW : Lib.Utf8Tabs 0 1 W) => full_c X (by omega) hX0 (by rw [hXc]; exact hge) W hW)
        have hch := chr_le (c :: r)
        clear HDG hdg hde hX0 hXc
        go_wp2_with fail
        refine hdec.mono ?_; rintro e w2 ⟨rfl, hb2⟩
        have HS3 := Lib.hid (HS2.out.below hb2)
        have HU3 := Lib.hid (HU2.out.trans (Upd.of_below hb2 _))
        have hfc := HFC.out w2 (tabs_upd HT2.out (Upd.of_below hb2 (some R)) hR2)
        rw [HX.out] at hfc
        clear hdec hb2 HS2 HU2
        rcases (show chrD (c :: r) = 0 ∨ chrD (c :: r) = -1 by omega) with hz | hz
        · have HJ2 := Lib.hid (show JR.bad 13 q = res from (if_pos hz).symm.trans hJ)
          rw [hz] at hfc
          rw [show decide ((0 : Int) ≠ -1) = true from rfl] at hfc
          clear hJ hz hle hch
          go_wp2_with fail
          refine hfc.mono ?_; rintro e w3 ⟨rfl, hb3⟩
          have HS4 := Lib.hid (HS3.out.below hb3)
          have HU4 := Lib.hid (HU3.out.trans (Upd.of_below hb3 _))
          have h1 := HS4.out.c1
          simp only at h1
          have hfl := pfail_c R s ⟨q, 0, 0⟩ 13 q w3 HS4.out
          clear hfc hb3 HS3 HU3
          go_wp2_with fail
          refine hfl.mono ?_; rintro e w2 ⟨rfl, hr, hu⟩
          have HQ := Lib.hid (And.intro hr hu)
          clear hr hu hfl
          unfold noV
          go_wp2
          exact ⟨rfl, pj_bad HJ2.out HQ.out.1 (HU4.out.trans HQ.out.2)⟩
        · have HJ2 := Lib.hid (show JR.bad 3 s.size = res from by rw [hz, if_neg (by decide), if_pos (by decide)] at hJ; exact hJ)
          rw [hz] at hfc
          rw [show decide ((-1 : Int) ≠ -1) = false from rfl] at hfc
          clear hJ hz hle hch
          go_wp2_with fail
          refine hfc.mono ?_; rintro e w3 ⟨rfl, hb3⟩
          have HS4 := Lib.hid (HS3.out.below hb3)
          have HU4 := Lib.hid (HU3.out.trans (Upd.of_below hb3 _))
          have h0 := HS4.out.c0
          have hfl := pfail_c R s ⟨q, 0, 0⟩ 3 s.size w3 HS4.out
          clear hfc hb3 HS3 HU3
          go_wp2_with fail
          refine hfl.mono ?_; rintro e w2 ⟨rfl, hr, hu⟩
          have HQ := Lib.hid (And.intro hr hu)
          clear hr hu hfl
          unfold noV
          go_wp2
          exact ⟨rfl, pj_bad HJ2.out HQ.out.1 (HU4.out.trans HQ.out.2)⟩
      · have hch := chr_le (c :: r)
        have hJ2 := (if_neg (show ¬ chrD (c :: r) < 0 by omega)).symm.trans ((if_neg (show ¬ chrD (c :: r) = 0 by omega)).symm.trans hJ)
        rw [← hlen, Int.toNat_natCast] at hJ2
        rw [← hlen] at hgt hch
        obtain ⟨rx, rn, hrn⟩ : ∃ a b, Lib.decodeL (c :: r) = (a, b) := ⟨_, _, rfl⟩
        rw [hrn] at hdec hJ2 hgt hch
        simp only at hdec hJ2 hgt hch
        have hlr : (c :: r).length = s.size - q := by rw [← HX.out, Array.length_toList]; exact hXs
        have hrq : q + rn ≤ s.size := by omega
        have HJ3 := Lib.hid (show jtext s.size f (s.data.toList.drop (q + rn)) (acc ++ (c :: r).take rn) = res from by rw [← List.drop_drop, HL2.out]; exact hJ2)
        have HTK := Lib.hid (show (X.extract 0 rn).data.toList = (c :: r).take rn from by rw [← HX.out]; exact take_extract X rn)
        have htl : ((c :: r).take rn).length = rn := by rw [List.length_take]; omega
        have hxl : (X.extract 0 rn).size = rn := by rw [ByteArray.size_extract]; omega
        have d1 : decide ((rn : Int) ≤ 1) = false := by rw [decide_eq_false_iff_not]; omega
        have hrX : (rn : Int) ≤ (X.size : Int) := by omega
        clear HDG hdg hJ hJ2 hlen hrn hch hlr
        go_wp2_with fail
        refine hdec.mono ?_; rintro e w2 ⟨rfl, hb2⟩
        have HS3 := Lib.hid (HS2.out.below hb2)
        have HB3 := Lib.hid (World.ownsRow.kept HB2.out (Upd.of_below hb2 (some R)).grown (own_ne HB2.out hRw))
        have HU3 := Lib.hid (HU2.out.trans (Upd.of_below hb2 _))
        have hsz3 : w.heap.size ≤ w2.heap.size := HU3.out.grown.size
        clear hdec hb2 HS2 HB2 HU2
        by_cases hrx : rx = 65533
        · have xb : ((rx : Int) == 65533) = true := by rw [beq_iff_eq]; omega
          clear hrx
          go_wp2_with (at_builtin; refine wpList_pushS rfl _ _ rfl w.heap.size _ acc rfl HB3.out (X.extract 0 rn) rfl (by rw [hxl]; omega) hsz3 ?_; intro v3 w3 hv3 hb3; have HB4 := Lib.hid hv3; have hq3 := sr_step hRw HS3.out HU3.out hb3; have h1 := hq3.1.c1; have f1 := hq3.1.f1; simp only at h1; have HQ3 := Lib.hid hq3; clear hv3 hb3 hq3)
          go_roundg (gk - 1)
          case measure => omega
          case rel => exact ⟨q + rn, acc ++ (c :: r).take rn, f, Lib.hid (by have hb := HB4.out; rw [HTK.out] at hb; exact buf_upd hb (Upd.of_setCell w3 ⟨R, 1, none⟩ (.int .i64 ((q : Int) + (rn : Int)))) hRw), by rw [List.length_append, htl]; omega, by omega, hrq, by omega, by omega, HJ3, Lib.hid (HQ3.out.1.go hrq), Lib.hid (HQ3.out.2.trans (Upd.of_setCell w3 ⟨R, 1, none⟩ (.int .i64 ((q : Int) + (rn : Int)))))⟩
        · have xb : ((rx : Int) == 65533) = false := by rw [beq_eq_false_iff_ne]; omega
          clear hrx
          go_wp2_with (at_builtin; refine wpList_pushS rfl _ _ rfl w.heap.size _ acc rfl HB3.out (X.extract 0 rn) rfl (by rw [hxl]; omega) hsz3 ?_; intro v3 w3 hv3 hb3; have HB4 := Lib.hid hv3; have hq3 := sr_step hRw HS3.out HU3.out hb3; have h1 := hq3.1.c1; have f1 := hq3.1.f1; simp only at h1; have HQ3 := Lib.hid hq3; clear hv3 hb3 hq3)
          go_roundg (gk - 1)
          case measure => omega
          case rel => exact ⟨q + rn, acc ++ (c :: r).take rn, f, Lib.hid (by have hb := HB4.out; rw [HTK.out] at hb; exact buf_upd hb (Upd.of_setCell w3 ⟨R, 1, none⟩ (.int .i64 ((q : Int) + (rn : Int)))) hRw), by rw [List.length_append, htl]; omega, by omega, hrq, by omega, by omega, HJ3, Lib.hid (HQ3.out.1.go hrq), Lib.hid (HQ3.out.2.trans (Upd.of_setCell w3 ⟨R, 1, none⟩ (.int .i64 ((q : Int) + (rn : Int)))))⟩
end Go.Proofs.YtbkbokfegjodnaaDoor
