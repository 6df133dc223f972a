/- The walk of the document reader's text. Conditions: a text has less than 2 to the 44 bytes. -/
import Derived.Test.YtbkbokfegjodnaaDoorDesc
import Derived.Test.YtbkbokfegjodnaaDoorPtext
import Derived.Test.YtbkbokfegjodnaaDoorChrw
import Derived.Lib.QuietBelow
import Derived.Deep.RegionHeld3
namespace Go.Proofs.YtbkbokfegjodnaaDoor
open Go.RowKit
theorem cell_belowB {B : Nat} {w w' : World} (hb : Below B w w') {p : Addr} {v : Value} (h : w.cell? p = some v) (hp : p.block < B) : w'.cell? p = some v := by
  rw [World.cell?_of_block (w := w) (hb.block p.block hp)]; exact h
theorem flt_step {w w1 w2 : World} {R : Nat} {s : ByteArray} {e p : Nat} (hR : R < w.heap.size) (hS : FltAt w1 R s e p) (hU : Upd w w1 (some R) (some R)) (hb : Below w.heap.size w1 w2) : FltAt w2 R s e p ∧ Upd w w2 (some R) (some R) :=
  ⟨hS.after (hb.block R hR), hU.trans_below hb⟩
/-- append(b, s...), at a step of a region that draws -/
theorem step_pushS {ops : Array Oper} {o : Oper} {a : Act} {w : World} {K : Act → World → Prop} {Q : Exit → Act → World → Prop} {F : Prop} (hgd : o.guard = none) (sl x : Operand)
    (ho : o.op = .call { callee := .builtin .append, args := #[sl, x], argTypes := #[63, 9] })
    (base : Nat) (v : Value) (l : List UInt8) (hs : a.eval sl = v) (hown : Buf w base 5 v l) (s : ByteArray) (hx : a.eval x = .string s) (hlen : l.length + s.size ≤ 140737488355328) (hbase : base ≤ w.heap.size)
    (h : ∀ v' w', Buf w' base 5 v' (l ++ s.data.toList) → Below base w w' → K (a.put o.dst v') w') : if Region.wanted o (yielded ops a.tmps) = true then Oper.wp Tryd.prog o a w K Q else F := by
  have hwn : Region.wanted o (yielded ops a.tmps) = true := by simp [Region.wanted, hgd]
  rw [if_pos hwn]
  obtain ⟨i0, hi, hz0, hz1, hz2⟩ := info_parts byTy.info
  obtain ⟨v', w', hr, h2, h3, _⟩ := Lib.run_append_own_string (P := Tryd.prog) w base 63 9 o.type 5 i0 byTy.slice Tryd.underlying9 hi hz0 hz1 hz2 v l.length (l.map byteV) hown s (by unfold maxLen; omega) hlen hbase
  unfold Oper.wp execOp
  simp only [ho, resolve, invoke, builtin, Sem.run_bind, Sem.run_pure, Result.andThen_ok, List.map_toArray, List.map_cons, List.map_nil, hs, hx, hr]
  refine h v' w' ?_ (below_of_grownBy h3 hbase fun k hk => (hown.lt k hk).1)
  have e : (l ++ s.data.toList).length = l.length + s.size := by rw [List.length_append, Array.length_toList]; rfl
  unfold Buf
  rw [e, List.map_append]
  exact h2
/-- what a text comes to -/
def dTxt (R : Nat) (s : ByteArray) (p : Nat) (w : World) (res : JR (List UInt8)) (e : Ending) (w' : World) : Prop := DJ R s w p (fun (x : List UInt8) v _ => v = .string ⟨x.toArray⟩ ∧ x.length ≤ 4 * s.size) (fun v _ => v = .string ⟨#[]⟩) res e w'
/-- while a text is read -/
def DtAt (w0 : World) (R : Nat) (s : ByteArray) (p : Nat) (res : JR (List UInt8)) (gk : Nat) (bv : Value) (wr : World) : Prop :=
  (∃ (q : Nat) (acc : List UInt8) (fu : Nat), Buf wr w0.heap.size 5 bv acc ∧ acc.length ≤ 4 * q ∧ p + 1 ≤ q ∧ q ≤ s.size ∧ s.size - q < gk ∧ s.size - q < fu ∧ jtext s.size fu (s.data.toList.drop q) acc = res ∧ SrAt wr R s ⟨q, 0, 0⟩ ∧ Upd w0 wr (some R) (some R)) ∨
  (∃ er pl, JR.bad er pl = res ∧ FltAt wr R s er pl ∧ Upd w0 wr (some R) (some R))
set_option maxRecDepth 20000 in
set_option maxHeartbeats 8000000 in
theorem dtext_c (R : Nat) (s : ByteArray) (p : Nat) (c0 : UInt8) (l : List UInt8) (hl : s.data.toList.drop p = c0 :: l) (hs : s.size < 17592186044416) (w : World) (h : SrAt w R s ⟨p, 0, 0⟩) :
    Calls Tryd.prog 70 #[.pointer (some ⟨R, 0, none⟩)] w (dTxt R s (p + 1) w (jtext s.size (l.length + 1) l [])) := by
  obtain ⟨hp, hd, _⟩ := drop_parts hl
  obtain ⟨res, hres⟩ : ∃ res, jtext s.size (l.length + 1) l [] = res := ⟨_, rfl⟩
  rw [hres]
  rw [← hd] at hres
  have h1 := h.c1
  have f1 := h.f1
  simp only at h1
  have hRw := h.lt
  have HINV := Lib.hid (show DtAt w R s p res (s.size + 1) (.slice none 0 0) (w.setCell ⟨R, 1, none⟩ (.int .i64 ((p : Int) + 1))) from
    .inl ⟨p + 1, [], _, buf_nil _ _ _, by simp, Nat.le_refl _, hp, by omega, by have e : (s.data.toList.drop (p + 1)).length = s.size - (p + 1) := by { rw [List.length_drop, Array.length_toList]; rfl }; rw [← e]; exact Nat.lt_succ_self _, hres, h.one rfl hp, Upd.of_setCell w ⟨R, 1, none⟩ (.int .i64 ((p : Int) + 1))⟩)
  clear h hl hres
  go_enter Tryd.func70, Tryd.ntmps70
  go_wp2
  go_loopg [3, 4, 5, 6] (s.size + 1) (fun gk bv _ _ _ wr => Hid (DtAt w R s p res gk bv wr))
  case atStart => exact HINV
  case round =>
    clear HINV h1 f1
    rcases hrel.out with hG | hF
    case inr =>
      obtain ⟨er, pl, hJ, hf, hu⟩ := hF
      have hpk := dnext_bad R s er pl wr hf
      have HQ := Lib.hid (And.intro hJ (And.intro hf hu))
      clear hJ hf hu hrel
      go_wp2_with fail
      refine hpk.mono ?_; rintro e w1 ⟨rfl, rfl⟩
      clear hpk
      go_wp2
      go_ret
      exact dj_bad HQ.out.1 rfl HQ.out.2.1 HQ.out.2.2
    case inl =>
    obtain ⟨q, acc, fu, hB, hacc, hpq, hq, hgk, hfu, hJ, hS, hU⟩ := hG
    have HB := Lib.hid hB
    have HS := Lib.hid hS
    have HU := Lib.hid hU
    clear hB hS hU hrel
    obtain ⟨f, rfl⟩ : ∃ f, fu = f + 1 := ⟨fu - 1, by omega⟩
    obtain ⟨l2, hl2⟩ : ∃ x, s.data.toList.drop q = x := ⟨_, rfl⟩
    rw [hl2] at hJ
    cases l2 with
    | nil =>
      have HJ2 := Lib.hid (show JR.bad 3 s.size = res from hJ)
      have hpk := dnext_e R s q hl2 wr HS.out
      clear hJ hl2
      go_wp2_with fail
      refine hpk.mono ?_; rintro e w1 ⟨rfl, hr, hu⟩
      have HQ := Lib.hid (And.intro hr hu)
      clear hr hu hpk
      go_wp2
      go_ret
      exact dj_bad HJ2.out rfl HQ.out.1 (HU.out.trans HQ.out.2)
    | cons c r =>
      rw [jtext] at hJ
      obtain ⟨hq1, hd1, hl1⟩ := drop_parts hl2
      rw [hl1] at hJ
      have hpk := dnext_l R s q c r hl2 wr HS.out
      have HL2 := Lib.hid hl2
      have HD := Lib.hid hd1
      clear hl2 hd1 hl1
      go_wp2_with fail
      refine hpk.mono ?_; rintro e w1 ⟨rfl, m, rfl⟩
      have HS1 := Lib.hid (HS.out.same (w' := wr.drewN m) rfl)
      have HB1 := Lib.hid (buf_size HB.out (w' := wr.drewN m) rfl)
      have HU1 := Lib.hid (HU.out.trans (Upd.of_below (below_drewN' wr m) _))
      have hsz : w.heap.size ≤ (wr.drewN m).heap.size := HU1.out.grown.size
      clear hpk HS HB HU
      generalize wr.drewN m = W at *
      have h0 := HS1.out.c0
      have h1 := HS1.out.c1
      have f1 := HS1.out.f1
      simp only at h1
      by_cases n34 : c = 34
      · have HJ2 := Lib.hid ((if_pos n34).symm.trans hJ)
        subst n34
        have hS2 := HS1.out.one rfl hq1
        have hU2 := HU1.out.trans (Upd.of_setCell W ⟨R, 1, none⟩ (.int .i64 ((q : Int) + 1)))
        have hB2 := buf_upd HB1.out (Upd.of_setCell W ⟨R, 1, none⟩ (.int .i64 ((q : Int) + 1))) hRw
        have hcv := run_buf_string byTy hB2 9 Tryd.underlying9
        have HQ := Lib.hid (And.intro hS2 hU2)
        clear hJ hS2 hU2 hB2 h0
        go_wp2
        go_ret
        exact dj_ok (a := acc) (q := q + 1) (by rw [HD.out]; exact HJ2.out) ⟨rfl, by omega⟩ (by omega) HQ.out.1 HQ.out.2
      have hJ := (if_neg n34).symm.trans hJ
      have m34 : ((c.toNat : Int) == 34) = false := byte_ne (d := 34) n34
      by_cases n92 : c = 92
      · have hJ := (if_pos n92).symm.trans hJ
        subst n92
        have hx := desc_c R s q 92 r HL2.out (by omega) W HS1.out
        have g1 : ¬ ((92 : UInt8).toNat : Int) < 32 := by decide
        cases he : jesc s.size r with
        | bad er pl =>
          rw [he] at hx
          have HJ2 := Lib.hid (show JR.bad er pl = res from by rw [he] at hJ; exact hJ)
          clear hJ he h0 h1 f1
          go_wp2_with fail
          refine hx.mono ?_; rintro e w2 ⟨v, rfl, rfl, hf, hu⟩
          have HB2 := Lib.hid (buf_upd HB1.out hu hRw)
          have HQ := Lib.hid (And.intro hf (HU1.out.trans hu))
          have hsz2 : w.heap.size ≤ w2.heap.size := HQ.out.2.grown.size
          clear hx hf hu
          go_wp2_with (at_builtin; refine wpList_pushS rfl _ _ rfl w.heap.size _ acc rfl HB2.out ⟨#[]⟩ rfl (by show acc.length + 0 ≤ _; omega) hsz2 ?_; intro v3 w3 hv3 hb3; have HQ3 := Lib.hid (flt_step hRw HQ.out.1 HQ.out.2 hb3); clear hv3 hb3)
          go_roundg (gk - 1)
          case measure => omega
          case rel => exact Lib.hid (.inr ⟨er, pl, HJ2.out, HQ3.out.1, HQ3.out.2⟩)
        | ok x r2 =>
          rw [he] at hx
          have HJ2 := Lib.hid (show jtext s.size f r2 (acc ++ x) = res from by rw [he] at hJ; exact hJ)
          clear hJ he h0 h1 f1
          go_wp2_with fail
          refine hx.mono ?_; rintro e w2 ⟨q2, v, rfl, ⟨rfl, hxl⟩, hr2, hpq2, hqs2, hsr2, hu2⟩
          have HS2 := Lib.hid hsr2
          have HB2 := Lib.hid (buf_upd HB1.out hu2 hRw)
          have HU2 := Lib.hid (HU1.out.trans hu2)
          have HR2 := Lib.hid hr2
          have hsz2 : w.heap.size ≤ w2.heap.size := HU2.out.grown.size
          have hxs : (⟨x.toArray⟩ : ByteArray).size = x.length := by show x.toArray.size = _; simp
          clear hx hsr2 hu2 hr2
          go_wp2_with (at_builtin; refine wpList_pushS rfl _ _ rfl w.heap.size _ acc rfl HB2.out ⟨x.toArray⟩ rfl (by rw [hxs]; omega) hsz2 ?_; intro v3 w3 hv3 hb3; have HB3 := Lib.hid hv3; have HQ3 := Lib.hid (sr_step hRw HS2.out HU2.out hb3); clear hv3 hb3)
          go_roundg (gk - 1)
          case measure => omega
          case rel => exact Lib.hid (.inl ⟨q2, acc ++ x, f, HB3.out, by rw [List.length_append]; omega, by omega, hqs2, by omega, by omega, by rw [← HR2.out]; exact HJ2.out, HQ3.out.1, HQ3.out.2⟩)
      have hJ := (if_neg n92).symm.trans hJ
      have m92 : ((c.toNat : Int) == 92) = false := byte_ne (d := 92) n92
      clear n34 n92
      by_cases n32 : c.toNat < 32
      · have HJ2 := Lib.hid ((if_pos n32).symm.trans hJ)
        have g1 : (c.toNat : Int) < 32 := by omega
        have hfl := dfail_c R s q 11 q (by decide) W HS1.out
        clear hJ n32
        go_wp2_with fail
        refine hfl.mono ?_; rintro e w2 ⟨rfl, hr, hu⟩
        have HQ := Lib.hid (And.intro hr (HU1.out.trans hu))
        clear hr hu hfl
        go_wp2
        go_roundg (gk - 1)
        case measure => omega
        case rel => exact Lib.hid (.inr ⟨11, q, HJ2.out, HQ.out.1, HQ.out.2⟩)
      have hJ := (if_neg n32).symm.trans hJ
      have g1 : ¬ (c.toNat : Int) < 32 := by omega
      clear n32
      have hqi : (q : Int) ≤ (s.size : Int) := by omega
      have HX := Lib.hid (show (s.extract q s.size).data.toList = c :: r from (drop_extract s q).trans HL2.out)
      have HXS := Lib.hid (show (s.extract q s.size).size = s.size - q by rw [ByteArray.size_extract]; omega)
      have k0 := fun (d : Nat) (os : Array Obj) => regB (refChr_c (s.extract q s.size) (by have := HXS.out; unfold maxLen; omega) (Sort.grow (redrawn W d) os))
      have P0 := cell_regrown (w := W) h0
      have P1 := cell_regrown (w := W) h1
      have hch := chr_le (c :: r)
      have hlr : (c :: r).length = s.size - q := by rw [← HX.out, Array.length_toList]; exact HXS.out
      rw [HX.out] at k0
      go_wp2_with fail
      clear h0 h1 f1
      refine wp_region_quiet_below (by kernel_rfl) (by kernel_rfl) ?_
      repeat (go_big_quiet_step ((go_at_call 88; with_reducible exact k0 _ _)))
      refine wpQuiet_nil ?_
      intro _ hw'
      obtain ⟨⟨dq, osq⟩, hw''⟩ := hw'
      subst hw''
      have hbq := below_regrown W dq osq
      have HS2 := Lib.hid (HS1.out.below hbq)
      have HB2 := Lib.hid (World.ownsRow.kept HB1.out (Upd.of_below hbq (some R)).grown (own_ne HB1.out hRw))
      have HU2 := Lib.hid (HU1.out.trans (Upd.of_below hbq _))
      have hsz2 : w.heap.size ≤ (Sort.grow (redrawn W dq) osq).heap.size := HU2.out.grown.size
      clear k0 P0 P1 hbq HS1 HB1 HU1 hsz
      generalize Sort.grow (redrawn W dq) osq = W2 at *
      have h0 := HS2.out.c0
      have h1 := HS2.out.c1
      have f1 := HS2.out.f1
      simp only at h1
      rcases (show chrD (c :: r) = 0 ∨ chrD (c :: r) = -1 ∨ 0 < chrD (c :: r) by omega) with hz | hz | hz
      · have HJ2 := Lib.hid (show JR.bad 13 q = res from (if_pos hz).symm.trans hJ)
        have hfl := dfail_c R s q 13 q (by decide) W2 HS2.out
        rw [hz]
        clear hJ hz hch
        go_wp2_with fail
        refine hfl.mono ?_; rintro e w2 ⟨rfl, hr, hu⟩
        have HQ := Lib.hid (And.intro hr (HU2.out.trans hu))
        clear hr hu hfl
        go_wp2
        go_roundg (gk - 1)
        case measure => omega
        case rel => exact Lib.hid (.inr ⟨13, q, HJ2.out, HQ.out.1, HQ.out.2⟩)
      · have HJ2 := Lib.hid (show JR.bad 3 s.size = res from by rw [hz, if_neg (by decide), if_pos (by decide)] at hJ; exact hJ)
        have hfl := dfail_c R s q 3 s.size (by decide) W2 HS2.out
        rw [hz]
        clear hJ hz hch
        go_wp2_with fail
        refine hfl.mono ?_; rintro e w2 ⟨rfl, hr, hu⟩
        have HQ := Lib.hid (And.intro hr (HU2.out.trans hu))
        clear hr hu hfl
        go_wp2
        go_roundg (gk - 1)
        case measure => omega
        case rel => exact Lib.hid (.inr ⟨3, s.size, HJ2.out, HQ.out.1, HQ.out.2⟩)
      · have hJ2 := (if_neg (show ¬ chrD (c :: r) < 0 by omega)).symm.trans ((if_neg (show ¬ chrD (c :: r) = 0 by omega)).symm.trans hJ)
        obtain ⟨rn, hrn⟩ : ∃ rn : Nat, chrD (c :: r) = (rn : Int) := ⟨(chrD (c :: r)).toNat, by omega⟩
        rw [hrn] at hJ2 hz hch
        rw [Int.toNat_natCast] at hJ2
        rw [hrn]
        have hrq : q + rn ≤ s.size := by omega
        have HJ3 := Lib.hid (show jtext s.size f (s.data.toList.drop (q + rn)) (acc ++ (c :: r).take rn) = res from by rw [← List.drop_drop, HL2.out]; exact hJ2)
        have HTK := Lib.hid (show (s.extract q (q + rn)).data.toList = (c :: r).take rn from by rw [ByteArray.data_extract, Array.toList_extract, ← HL2.out]; simp [List.extract])
        have htl : ((c :: r).take rn).length = rn := by rw [List.length_take]; omega
        have hxl : (s.extract q (q + rn)).size = rn := by rw [ByteArray.size_extract]; omega
        have hge : decide ((rn : Int) < 0) = false := by rw [decide_eq_false_iff_not]; omega
        have hne : ((rn : Int) == 0) = false := by rw [beq_eq_false_iff_ne]; omega
        have hgt : (0 : Int) < (rn : Int) := by omega
        have hq2 : (q : Int) + (rn : Int) ≤ (s.size : Int) := by omega
        have hq3 : (q : Int) ≤ (q : Int) + (rn : Int) := by omega
        have h0q : (0 : Int) ≤ (q : Int) + (rn : Int) := by omega
        have hwr : IntKind.i64.wrap ((q : Int) + (rn : Int)) = (q : Int) + (rn : Int) := by rw [IntKind.wrap_i64]; omega
        have hto : ((q : Int) + (rn : Int)).toNat = q + rn := by omega
        have HBd := Lib.hid (buf_size HB2.out (w' := W2.drew) rfl)
        have HSS := Lib.hid (fun (W' : World) (hb : Below w.heap.size W2 W') => And.intro (cell_belowB hb h0 hRw) (cell_belowB hb h1 hRw))
        have hbd : Below w.heap.size W2 W2.drew := Below.drew (Below.refl _ _)
        have HBD := Lib.hid hbd
        clear hJ hJ2 hz hch hlr hrn hbd
        go_wp2_with fail
        go_region_held3 (fun w' => w'.cell? ⟨R, 0, none⟩ = some (.string s) ∧ w'.cell? ⟨R, 1, none⟩ = some (.int .i64 (q : Int))) (exact HSS.out _ (by first | with_reducible exact HBD.out | with_reducible exact HB3x.out)) (first
          | (refine step_pushS (by rfl) _ _ (by rfl) w.heap.size _ acc (by rfl) HBd.out (s.extract q (q + rn)) (by rfl) (by rw [hxl]; omega) hsz2 ?_; intro v3 w3 hv3 hb3; have HB3x := Lib.hid (HBD.out.trans hb3); have HB4 := Lib.hid hv3; clear hv3 hb3))
        have hq3 := sr_step hRw HS2.out HU2.out HB3x.out
        have h1 := hq3.1.c1
        have f1 := hq3.1.f1
        simp only at h1
        have HQ3 := Lib.hid hq3
        clear hq3
        go_wp2
        go_roundg (gk - 1)
        case measure => omega
        case rel => exact Lib.hid (.inl ⟨q + rn, acc ++ (c :: r).take rn, f, (by have hb := HB4.out; rw [HTK.out] at hb; exact buf_upd hb (Upd.of_setCell w3 ⟨R, 1, none⟩ (.int .i64 ((q : Int) + (rn : Int)))) hRw), by rw [List.length_append, htl]; omega, by omega, hrq, by omega, by omega, HJ3.out, HQ3.out.1.go hrq, HQ3.out.2.trans (Upd.of_setCell w3 ⟨R, 1, none⟩ (.int .i64 ((q : Int) + (rn : Int))))⟩)
end Go.Proofs.YtbkbokfegjodnaaDoor
