/- The walks of the small methods of the reader. Conditions: what the laws name. -/
import Derived.Test.YtbkbokfegjodnaaDoorMemory
import Derived.BigQuiet
import Derived.WalkLawsBesides
import Derived.Deep.RegionLaw
import Derived.Deep.LoopGhost
import Derived.Laws.Runes
import Derived.Defers
import Derived.Recover
namespace Go.Proofs.YtbkbokfegjodnaaDoor
open Go.RowKit
/-- what a reader gives up with -/
def noV : Ending := .panicked [{ v := .iface 9 (.string ⟨#[110, 111, 32, 118, 97, 108, 117, 101]⟩), recovered := false }]
/-- what a method comes to: it answers and goes on; or it gives up -/
def PJ {α : Type} (R : Nat) (s : ByteArray) (w : World) (p : Nat) (good : α → Value → World → Prop) (res : JR α) (e : Ending) (w' : World) : Prop :=
  match res with
  | .ok a r => ∃ q v, e = .returned v ∧ good a v w' ∧ r = s.data.toList.drop q ∧ p ≤ q ∧ q ≤ s.size ∧ SrAt w' R s ⟨q, 0, 0⟩ ∧ Upd w w' (some R) (some R)
  | .bad er pl => e = noV ∧ (∃ q, SrAt w' R s ⟨q, er, pl⟩) ∧ Upd w w' (some R) (some R)
/-- a step of a region that gives up leaves nothing of the region to do -/
theorem wpAny_out {P : Program} {G : Prop} (a : Act) (w : World) (h : wpAny P .any #[] (fun _ _ _ => G) 0 #[] a w) : G := h.2
theorem pj_bad {α : Type} {R : Nat} {s : ByteArray} {w w' : World} {p q er pl : Nat} {good : α → Value → World → Prop} {res : JR α} (h : JR.bad er pl = res) (hs : SrAt w' R s ⟨q, er, pl⟩) (hu : Upd w w' (some R) (some R)) : PJ R s w p good res noV w' := by
  subst h; exact ⟨rfl, ⟨q, hs⟩, hu⟩
theorem pj_ok {α : Type} {R : Nat} {s : ByteArray} {w w' : World} {p q : Nat} {good : α → Value → World → Prop} {res : JR α} {a : α} {v : Value} (h : JR.ok a (s.data.toList.drop q) = res) (hg : good a v w') (hp : p ≤ q) (hs : SrAt w' R s ⟨q, 0, 0⟩) (hu : Upd w w' (some R) (some R)) : PJ R s w p good res (.returned v) w' := by
  subst h; exact ⟨q, v, rfl, hg, rfl, hp, hs.pos, hs, hu⟩
theorem upd_flt {w : World} {R : Nat} {e p : Int} : Upd w ((w.setCell ⟨R, 2, none⟩ (.int .i64 e)).setCell ⟨R, 3, none⟩ (.int .i64 p)) (some R) (some R) :=
  (Upd.of_setCell w ⟨R, 2, none⟩ _).trans (Upd.of_setCell _ ⟨R, 3, none⟩ _)
set_option maxHeartbeats 1000000 in
theorem pfail_c (R : Nat) (s : ByteArray) (st : St) (e p : Nat) (w : World) (h : SrAt w R s st) :
    Calls Tryd.prog 44 #[.pointer (some ⟨R, 0, none⟩), .int .i64 e, .int .i64 p] w fun r w' => r = noV ∧ SrAt w' R s ⟨st.pos, e, p⟩ ∧ Upd w w' (some R) (some R) := by
  have h1 := h.c1
  have h2 := h.c2
  have h3 := h.c3
  have f2 := h.f2
  have f3 := h.f3
  have H := Lib.hid (h.flt e p)
  clear h
  go_enter Tryd.func44, Tryd.ntmps44
  go_wp2
  exact ⟨rfl, rfl, H.out, upd_flt⟩
set_option maxHeartbeats 1000000 in
theorem peek_in (R : Nat) (s : ByteArray) (p : Nat) (hp : p < s.size) (w : World) (h : SrAt w R s ⟨p, 0, 0⟩) :
    Calls Tryd.prog 60 #[.pointer (some ⟨R, 0, none⟩)] w fun r w' => r = .returned (.int .u8 (s[p].toNat : Int)) ∧ ∃ m, w' = w.drewN m := by
  have h0 := h.c0
  have h1 := h.c1
  simp only at h1
  clear h
  have hd : ¬ ((s.size : Int) ≤ (p : Int)) := by omega
  go_enter Tryd.func60, Tryd.ntmps60
  go_wp2
  go_quiet (fail)
  go_wp2
  go_quiet (fail)
  go_wp2
  go_ret
  exact ⟨rfl, _, World.drewN_drewN _ _ _⟩
set_option maxHeartbeats 1000000 in
theorem peek_out (R : Nat) (s : ByteArray) (p : Nat) (hp : ¬ p < s.size) (w : World) (h : SrAt w R s ⟨p, 0, 0⟩) :
    Calls Tryd.prog 60 #[.pointer (some ⟨R, 0, none⟩)] w fun r w' => r = noV ∧ SrAt w' R s ⟨p, 3, s.size⟩ ∧ Upd w w' (some R) (some R) := by
  have h0 := h.c0
  have h1 := h.c1
  simp only at h1
  have hd : ((s.size : Int) ≤ (p : Int)) := by omega
  have H := Lib.hid h
  clear h
  go_enter Tryd.func60, Tryd.ntmps60
  go_wp2
  go_quiet (fail)
  go_wp2_with fail
  refine (pfail_c R s ⟨p, 0, 0⟩ 3 s.size (w.drewN nq) (H.out.same rfl)).mono ?_; rintro e w1 ⟨rfl, hr, hu⟩
  have HR := Lib.hid (And.intro hr hu)
  clear hr hu
  unfold noV
  go_wp2
  exact ⟨rfl, rfl, HR.out.1, (Upd.of_below (below_drewN' _ _) _).trans HR.out.2⟩
theorem SrAt.one {w w2 : World} {R : Nat} {s : ByteArray} {p : Nat} (h : SrAt w R s ⟨p, 0, 0⟩) (hh : w2.heap = w.heap) (hp : p < s.size) : SrAt (w2.setCell ⟨R, 1, none⟩ (.int .i64 ((p : Int) + 1))) R s ⟨p + 1, 0, 0⟩ :=
  (h.same hh).go (p := p + 1) hp
theorem drop_parts {s : ByteArray} {q : Nat} {c : UInt8} {r : List UInt8} (h : s.data.toList.drop q = c :: r) : q < s.size ∧ s.data.toList.drop (q + 1) = r ∧ s.size - (r.length + 1) = q := by
  have hlt : q < s.size := by
    rcases Nat.lt_or_ge q s.size with h1 | h1
    · exact h1
    · rw [rest_nil (Nat.not_lt.2 h1)] at h; cases h
  rw [rest_cons hlt] at h
  injection h with h1 h2
  exact ⟨hlt, h2, by rw [← h2]; exact rest_at hlt⟩
theorem drop_none {s : ByteArray} {q : Nat} (h : s.data.toList.drop q = []) : ¬ q < s.size := fun hlt => by rw [rest_cons hlt] at h; cases h
theorem peek_l (R : Nat) (s : ByteArray) (q : Nat) (c : UInt8) (r : List UInt8) (hl : s.data.toList.drop q = c :: r) (w : World) (h : SrAt w R s ⟨q, 0, 0⟩) :
    Calls Tryd.prog 60 #[.pointer (some ⟨R, 0, none⟩)] w fun e w' => e = .returned (.int .u8 (c.toNat : Int)) ∧ ∃ m, w' = w.drewN m := by
  have hlt := (drop_parts hl).1
  have hc : s[q] = c := by rw [rest_cons hlt] at hl; injection hl
  rw [← hc]
  exact peek_in R s q hlt w h
theorem peek_e (R : Nat) (s : ByteArray) (q : Nat) (hl : s.data.toList.drop q = []) (w : World) (h : SrAt w R s ⟨q, 0, 0⟩) :
    Calls Tryd.prog 60 #[.pointer (some ⟨R, 0, none⟩)] w fun e w' => e = noV ∧ SrAt w' R s ⟨q, 3, s.size⟩ ∧ Upd w w' (some R) (some R) := peek_out R s q (drop_none hl) w h
theorem jbl_step {s : ByteArray} {p : Nat} (hp : p < s.size) (h : isBl s[p] = true) : jbl (s.data.toList.drop p) = jbl (s.data.toList.drop (p + 1)) := by
  rw [rest_cons hp, jbl, if_pos h]
theorem jbl_stop {s : ByteArray} {p : Nat} (hp : p < s.size) (h : isBl s[p] = false) : jbl (s.data.toList.drop p) = s.data.toList.drop p := by
  rw [rest_cons hp, jbl, if_neg (by rw [h]; decide)]
theorem jbl_end {s : ByteArray} {p : Nat} (hp : ¬ p < s.size) : jbl (s.data.toList.drop p) = s.data.toList.drop p := by
  rw [rest_nil hp]; rfl
theorem byte_eq {c d : UInt8} (h : c = d) : ((c.toNat : Int) == (d.toNat : Int)) = true := by rw [h, beq_self_eq_true]
theorem blanks_of {c : UInt8} : (c = 32 ∧ isBl c = true) ∨ (c ≠ 32 ∧ c = 9 ∧ isBl c = true) ∨ (c ≠ 32 ∧ c ≠ 9 ∧ c = 10 ∧ isBl c = true) ∨ (c ≠ 32 ∧ c ≠ 9 ∧ c ≠ 10 ∧ c = 13 ∧ isBl c = true) ∨ (c ≠ 32 ∧ c ≠ 9 ∧ c ≠ 10 ∧ c ≠ 13 ∧ isBl c = false) := by
  unfold isBl
  by_cases h1 : c = 32
  · left; exact ⟨h1, by rw [h1]; rfl⟩
  by_cases h2 : c = 9
  · right; left; exact ⟨h1, h2, by rw [h2]; rfl⟩
  by_cases h3 : c = 10
  · right; right; left; exact ⟨h1, h2, h3, by rw [h3]; rfl⟩
  by_cases h4 : c = 13
  · right; right; right; left; exact ⟨h1, h2, h3, h4, by rw [h4]; rfl⟩
  · right; right; right; right; exact ⟨h1, h2, h3, h4, by simp [h1, h2, h3, h4]⟩
set_option maxHeartbeats 2000000 in
theorem blanks_c (R : Nat) (s : ByteArray) (p : Nat) (hs : s.size < 9223372036854775807) (w : World) (h : SrAt w R s ⟨p, 0, 0⟩) :
    Calls Tryd.prog 42 #[.pointer (some ⟨R, 0, none⟩)] w fun r w' => r = .returned (.tuple #[]) ∧ ∃ q, p ≤ q ∧ q ≤ s.size ∧ s.data.toList.drop q = jbl (s.data.toList.drop p) ∧ SrAt w' R s ⟨q, 0, 0⟩ ∧ Upd w w' (some R) (some R) := by
  have hp := h.pos
  simp only at hp
  have H := Lib.hid h
  clear h
  go_enter Tryd.func42, Tryd.ntmps42
  go_wp2
  go_loopg [] (s.size + 1) (fun gk wr => ∃ q, q + gk = s.size + 1 + p ∧ p ≤ q ∧ q ≤ s.size ∧ Hid (jbl (s.data.toList.drop q) = jbl (s.data.toList.drop p)) ∧ Hid (SrAt wr R s ⟨q, 0, 0⟩) ∧ Hid (Upd w wr (some R) (some R)))
  case atStart => exact ⟨p, by omega, Nat.le_refl _, hp, Lib.hid rfl, H, Lib.hid (Upd.refl _ _)⟩
  case round =>
    obtain ⟨q, hg, hpq, hq, HB, HS, HU⟩ := hrel
    have h0 := HS.out.c0
    have h1 := HS.out.c1
    simp only at h1
    by_cases hlt : q < s.size
    · have f1 := HS.out.f1
      have hd : (q : Int) < (s.size : Int) := by omega
      rcases blanks_of (c := s[q]) with ⟨y32, hb⟩ | ⟨n32, y9, hb⟩ | ⟨n32, n9, y10, hb⟩ | ⟨n32, n9, n10, y13, hb⟩ | ⟨n32, n9, n10, n13, hb⟩
      · have m32 : ((s[q].toNat : Int) == 32) = true := byte_eq (d := 32) y32
        have HLT := Lib.hid (And.intro hb hlt)
        clear y32 hb
        go_wp2
        go_quiet (fail)
        go_wp2
        go_roundg (gk - 1)
        case measure => omega
        case rel => exact ⟨q + 1, by omega, by omega, HLT.out.2, Lib.hid ((jbl_step HLT.out.2 HLT.out.1).symm.trans HB.out), Lib.hid (HS.out.one rfl HLT.out.2), Lib.hid ((HU.out.trans (Upd.of_below (below_drewN' _ _) _)).trans (Upd.of_setCell _ ⟨R, 1, none⟩ _))⟩
      · have m32 : ((s[q].toNat : Int) == 32) = false := byte_ne (d := 32) n32
        have m9 : ((s[q].toNat : Int) == 9) = true := byte_eq (d := 9) y9
        have HLT := Lib.hid (And.intro hb hlt)
        clear n32 y9 hb
        go_wp2
        go_quiet (fail)
        go_wp2
        go_roundg (gk - 1)
        case measure => omega
        case rel => exact ⟨q + 1, by omega, by omega, HLT.out.2, Lib.hid ((jbl_step HLT.out.2 HLT.out.1).symm.trans HB.out), Lib.hid (HS.out.one rfl HLT.out.2), Lib.hid ((HU.out.trans (Upd.of_below (below_drewN' _ _) _)).trans (Upd.of_setCell _ ⟨R, 1, none⟩ _))⟩
      · have m32 : ((s[q].toNat : Int) == 32) = false := byte_ne (d := 32) n32
        have m9 : ((s[q].toNat : Int) == 9) = false := byte_ne (d := 9) n9
        have m10 : ((s[q].toNat : Int) == 10) = true := byte_eq (d := 10) y10
        have HLT := Lib.hid (And.intro hb hlt)
        clear n32 n9 y10 hb
        go_wp2
        go_quiet (fail)
        go_wp2
        go_roundg (gk - 1)
        case measure => omega
        case rel => exact ⟨q + 1, by omega, by omega, HLT.out.2, Lib.hid ((jbl_step HLT.out.2 HLT.out.1).symm.trans HB.out), Lib.hid (HS.out.one rfl HLT.out.2), Lib.hid ((HU.out.trans (Upd.of_below (below_drewN' _ _) _)).trans (Upd.of_setCell _ ⟨R, 1, none⟩ _))⟩
      · have m32 : ((s[q].toNat : Int) == 32) = false := byte_ne (d := 32) n32
        have m9 : ((s[q].toNat : Int) == 9) = false := byte_ne (d := 9) n9
        have m10 : ((s[q].toNat : Int) == 10) = false := byte_ne (d := 10) n10
        have m13 : ((s[q].toNat : Int) == 13) = true := byte_eq (d := 13) y13
        have HLT := Lib.hid (And.intro hb hlt)
        clear n32 n9 n10 y13 hb
        go_wp2
        go_quiet (fail)
        go_wp2
        go_roundg (gk - 1)
        case measure => omega
        case rel => exact ⟨q + 1, by omega, by omega, HLT.out.2, Lib.hid ((jbl_step HLT.out.2 HLT.out.1).symm.trans HB.out), Lib.hid (HS.out.one rfl HLT.out.2), Lib.hid ((HU.out.trans (Upd.of_below (below_drewN' _ _) _)).trans (Upd.of_setCell _ ⟨R, 1, none⟩ _))⟩
      · have m32 : ((s[q].toNat : Int) == 32) = false := byte_ne (d := 32) n32
        have m9 : ((s[q].toNat : Int) == 9) = false := byte_ne (d := 9) n9
        have m10 : ((s[q].toNat : Int) == 10) = false := byte_ne (d := 10) n10
        have m13 : ((s[q].toNat : Int) == 13) = false := byte_ne (d := 13) n13
        have HLT := Lib.hid (And.intro hb hlt)
        clear n32 n9 n10 n13 hb
        go_wp2
        go_quiet (fail)
        go_wp2
        go_end0
        exact ⟨rfl, q, hpq, hq, by rw [← HB.out]; exact (jbl_stop HLT.out.2 HLT.out.1).symm, HS.out.same rfl, HU.out.trans (Upd.of_below (below_drewN' _ _) _)⟩
    · have hd : ¬ ((q : Int) < (s.size : Int)) := by omega
      go_wp2
      go_quiet (fail)
      go_wp2
      go_end0
      exact ⟨rfl, q, hpq, hq, by rw [← HB.out]; exact (jbl_end hlt).symm, HS.out.same rfl, HU.out.trans (Upd.of_below (below_drewN' _ _) _)⟩
set_option maxHeartbeats 2000000 in
theorem word_c (R : Nat) (s x : ByteArray) (p : Nat) (hs : s.size < 9223372036854775807) (hx : x.size < 9223372036854775807) (w : World) (h : SrAt w R s ⟨p, 0, 0⟩) :
    Calls Tryd.prog 61 #[.pointer (some ⟨R, 0, none⟩), .string x] w (PJ R s w p (fun _ v _ => v = .tuple #[]) (jword s.size x.data.toList (s.data.toList.drop p))) := by
  have hp := h.pos
  simp only at hp
  have H := Lib.hid h
  clear h
  obtain ⟨res, hres⟩ : ∃ res, jword s.size x.data.toList (s.data.toList.drop p) = res := ⟨_, rfl⟩
  rw [hres]
  have HRES := Lib.hid hres
  clear hres
  go_enter Tryd.func61, Tryd.ntmps61
  go_wp2
  go_loopg [7] (x.size + 1) (fun gk iv wr => ∃ (i q : Nat), iv = .int .i64 i ∧ i + gk = x.size + 1 ∧ i ≤ x.size ∧ p ≤ q ∧ q ≤ s.size ∧ Hid (jword s.size (x.data.toList.drop i) (s.data.toList.drop q) = res) ∧ Hid (SrAt wr R s ⟨q, 0, 0⟩) ∧ Hid (Upd w wr (some R) (some R)))
  case atStart => exact ⟨0, p, rfl, by omega, Nat.zero_le _, Nat.le_refl _, hp, by rw [List.drop_zero]; exact HRES, H, Lib.hid (Upd.refl _ _)⟩
  case round =>
    obtain ⟨i, q, rfl, hg, hi, hpq, hq, HJ, HS, HU⟩ := hrel
    clear HRES
    by_cases hxi : i < x.size
    · have hxd : x.data.toList.drop i = x[i] :: x.data.toList.drop (i + 1) := rest_cons hxi
      have hi2 : (i : Int) < (x.size : Int) := by omega
      by_cases hlt : q < s.size
      · have HJ2 := Lib.hid (show (if s[q] = x[i] then jword s.size (x.data.toList.drop (i + 1)) (s.data.toList.drop (q + 1)) else .bad 10 q) = res from by rw [← HJ.out, hxd, rest_cons hlt, jword, rest_at hlt])
        have HLT := Lib.hid hlt
        have HP := Lib.hid (fun (W : World) (hW : W.heap = wr.heap) => peek_in R s q hlt W (HS.out.same hW))
        clear hxd HJ
        by_cases he : s[q] = x[i]
        · have hb : ((s[q].toNat : Int) != (x[i].toNat : Int)) = false := by rw [he]; simp
          have HJ3 := Lib.hid ((if_pos he).symm.trans HJ2.out)
          clear he HJ2
          go_wp2
          go_quiet ((go_at_call 60; exact quietD (HP.out _ rfl)))
          have h1 := HS.out.c1
          have f1 := HS.out.f1
          simp only at h1
          go_wp2
          go_roundg (gk - 1)
          case measure => omega
          case rel => exact ⟨i + 1, q + 1, by go_num, by omega, by omega, by omega, HLT.out, Lib.hid HJ3.out, Lib.hid (HS.out.one rfl HLT.out), Lib.hid ((HU.out.trans (Upd.of_below (below_drewN' _ _) _)).trans (Upd.of_setCell _ ⟨R, 1, none⟩ _))⟩
        · have hb : ((s[q].toNat : Int) != (x[i].toNat : Int)) = true := by simp only [bne, byte_ne he]; rfl
          have HJ3 := Lib.hid ((if_neg he).symm.trans HJ2.out)
          clear he HJ2
          go_wp2
          go_quiet ((go_at_call 60; exact quietD (HP.out _ rfl)))
          have h1 := HS.out.c1
          simp only at h1
          go_wp2_with fail
          refine (pfail_c R s ⟨q, 0, 0⟩ 10 q (wr.drewN nq) (HS.out.same rfl)).mono ?_; rintro e w1 ⟨rfl, hr, hu⟩
          have HR := Lib.hid (And.intro hr hu)
          clear hr hu
          unfold noV
          go_wp2
          rw [← HJ3.out]
          exact ⟨rfl, rfl, ⟨_, HR.out.1⟩, (HU.out.trans (Upd.of_below (below_drewN' _ _) _)).trans HR.out.2⟩
      · have HJ2 := Lib.hid (show JR.bad 3 s.size = res from by rw [← HJ.out, hxd, rest_nil hlt, jword])
        have HP := Lib.hid (fun (W : World) (hW : W.heap = wr.heap) => peek_out R s q hlt W (HS.out.same hW))
        clear hxd HJ
        go_wp2
        go_region_law (go_simp; go_at_call 60; refine (HP.out wr.drew rfl).mono ?_; rintro e w1 ⟨rfl, hr, hu⟩; have HR := Lib.hid (And.intro hr hu); clear hr hu; unfold noV; refine wpAny_out (P := Tryd.prog) ⟨#[], []⟩ w1 ?_)
        all_goals exact ⟨rfl, pj_bad HJ2.out HR.out.1 ((HU.out.trans (Upd.of_below (below_drewN' wr 1) _)).trans HR.out.2)⟩
    · obtain rfl : i = x.size := by omega
      have HJ2 := Lib.hid (show JR.ok () (s.data.toList.drop q) = res from by rw [← HJ.out, rest_nil hxi, jword])
      have hi2 : ¬ ((x.size : Int) < (x.size : Int)) := by omega
      clear HJ
      go_wp2
      go_end0
      rw [← HJ2.out]
      exact ⟨q, _, rfl, rfl, rfl, hpq, hq, HS.out, HU.out⟩
end Go.Proofs.YtbkbokfegjodnaaDoor
namespace Go.Proofs.YtbkbokfegjodnaaDoor
open Go.RowKit
set_option maxHeartbeats 1000000 in
theorem digit_c (c : UInt8) (w : World) : Calls Tryd.prog 62 #[.int .u8 (c.toNat : Int)] w fun r w' => r = .returned (.bool (isDg c)) ∧ w' = w := by
  have hc := c.toNat_lt
  rcases (show c.toNat < 48 ∨ (48 ≤ c.toNat ∧ c.toNat ≤ 57) ∨ 57 < c.toNat by omega) with h | h | h
  · have e : isDg c = false := by simp [isDg]; omega
    have f1 : ¬ ((48 : Int) ≤ (c.toNat : Int)) := by omega
    rw [e]
    clear e h
    go_enter Tryd.func62, Tryd.ntmps62
    go_wp2
    go_ret
    exact ⟨rfl, rfl⟩
  · have e : isDg c = true := by simp [isDg]; omega
    have f1 : ((48 : Int) ≤ (c.toNat : Int)) := by omega
    have f2 : ((c.toNat : Int) ≤ (57 : Int)) := by omega
    rw [e]
    clear e h
    go_enter Tryd.func62, Tryd.ntmps62
    go_wp2
    go_ret
    exact ⟨rfl, rfl⟩
  · have e : isDg c = false := by simp [isDg]; omega
    have f1 : ((48 : Int) ≤ (c.toNat : Int)) := by omega
    have f2 : ¬ ((c.toNat : Int) ≤ (57 : Int)) := by omega
    rw [e]
    clear e h
    go_enter Tryd.func62, Tryd.ntmps62
    go_wp2
    go_ret
    exact ⟨rfl, rfl⟩
theorem hex_cases (c : UInt8) : (48 ≤ c.toNat ∧ c.toNat ≤ 57 ∧ isDg c = true ∧ jhex c = some (c.toNat - 48)) ∨ (97 ≤ c.toNat ∧ c.toNat ≤ 102 ∧ isDg c = false ∧ jhex c = some (c.toNat - 87)) ∨
    (65 ≤ c.toNat ∧ c.toNat ≤ 70 ∧ isDg c = false ∧ jhex c = some (c.toNat - 55)) ∨ (isDg c = false ∧ jhex c = none ∧ (c.toNat < 65 ∨ (70 < c.toNat ∧ c.toNat < 97) ∨ 102 < c.toNat)) := by
  unfold jhex
  by_cases h1 : 48 ≤ c.toNat ∧ c.toNat ≤ 57
  · left; exact ⟨h1.1, h1.2, by simp [isDg, h1], if_pos h1⟩
  have hd : isDg c = false := by simp [isDg]; omega
  by_cases h2 : 97 ≤ c.toNat ∧ c.toNat ≤ 102
  · right; left; exact ⟨h2.1, h2.2, hd, by rw [if_neg h1, if_pos h2]⟩
  by_cases h3 : 65 ≤ c.toNat ∧ c.toNat ≤ 70
  · right; right; left; exact ⟨h3.1, h3.2, hd, by rw [if_neg h1, if_neg h2, if_pos h3]⟩
  · right; right; right; exact ⟨hd, by rw [if_neg h1, if_neg h2, if_neg h3], by omega⟩
set_option maxHeartbeats 4000000 in
theorem hex_c (R : Nat) (s : ByteArray) (p : Nat) (hs : s.size < 9223372036854775807) (w : World) (h : SrAt w R s ⟨p, 0, 0⟩) :
    Calls Tryd.prog 109 #[.pointer (some ⟨R, 0, none⟩)] w (PJ R s w p (fun (n : Nat) v _ => v = .int .i32 (n : Int) ∧ n < 65536) (jfour s.size 4 0 (s.data.toList.drop p))) := by
  have hp := h.pos
  simp only at hp
  have H := Lib.hid h
  clear h
  obtain ⟨res, hres⟩ : ∃ res, jfour s.size 4 0 (s.data.toList.drop p) = res := ⟨_, rfl⟩
  rw [hres]
  have HRES := Lib.hid hres
  clear hres
  go_enter Tryd.func109, Tryd.ntmps109
  go_wp2
  go_loopg [3, 5] 5 (fun gk nv iv wr => ∃ (i q n : Nat), iv = .int .i64 i ∧ nv = .int .i32 n ∧ i + gk = 5 ∧ i ≤ 4 ∧ n < 16 ^ i ∧ p ≤ q ∧ q ≤ s.size ∧ Hid (jfour s.size (4 - i) n (s.data.toList.drop q) = res) ∧ Hid (SrAt wr R s ⟨q, 0, 0⟩) ∧ Hid (Upd w wr (some R) (some R)))
  case atStart => exact ⟨0, p, 0, rfl, rfl, by omega, by omega, by decide, Nat.le_refl _, hp, HRES, H, Lib.hid (Upd.refl _ _)⟩
  case round =>
    obtain ⟨i, q, n, rfl, rfl, hg, hi, hn, hpq, hq, HJ, HS, HU⟩ := hrel
    clear HRES
    have hpw : 16 ^ i * 16 ≤ 65536 ∨ i = 4 := by
      rcases (show i = 0 ∨ i = 1 ∨ i = 2 ∨ i = 3 ∨ i = 4 by omega) with h | h | h | h | h <;> subst h <;> decide
    by_cases hi4 : i < 4
    · have hn2 : n < 4096 := by omega
      have hi5 : (i : Int) < 4 := by omega
      have e4 : 4 - i = (4 - (i + 1)) + 1 := by omega
      have HN := Lib.hid hn
      clear hpw hn
      obtain ⟨l, hl⟩ : ∃ l, s.data.toList.drop q = l := ⟨_, rfl⟩
      cases l with
      | cons c r =>
        have HDP := Lib.hid (drop_parts hl)
        have hJ := HJ.out
        rw [hl, e4, jfour, HDP.out.2.2] at hJ
        have hpk := peek_l R s q c r hl wr HS.out
        clear HJ e4 hl
        go_wp2_with fail
        refine hpk.mono ?_; rintro e w1 ⟨rfl, m, rfl⟩
        clear hpk
        have hdg := fun W => digit_c c W
        rcases hex_cases c with ⟨l1, l2, hd, hj⟩ | ⟨l1, l2, hd, hj⟩ | ⟨l1, l2, hd, hj⟩ | ⟨hd, hj, hr⟩
        · rw [hj] at hJ
          have HJ3 := Lib.hid (show jfour s.size (4 - (i + 1)) (16 * n + (c.toNat - 48)) r = res from hJ)
          have HL := Lib.hid (And.intro l1 l2)
          skip
          have w1 : wrap32 (16 * (n : Int)) = 16 * (n : Int) := by unfold wrap32; omega
          rw [hd] at hdg
          clear hj hJ hd l1 l2
          go_wp2_with fail
          refine (hdg _).mono ?_; rintro e w2 ⟨rfl, rfl⟩
          clear hdg
          have h1 := HS.out.c1
          have f1 := HS.out.f1
          simp only at h1
          go_wp2
          go_roundg (gk - 1)
          case measure => omega
          case rel => exact ⟨i + 1, q + 1, 16 * n + (c.toNat - 48), by go_num, by have := HL.out; show Value.int .i32 _ = Value.int .i32 _; congr 1; omega, by omega, by omega, by have h1 := HN.out; have h2 := HL.out; rw [Nat.pow_succ]; omega, by omega, HDP.out.1, by rw [HDP.out.2.1]; exact HJ3, Lib.hid (HS.out.one rfl HDP.out.1), Lib.hid ((HU.out.trans (Upd.of_below (below_drewN' _ _) _)).trans (Upd.of_setCell _ ⟨R, 1, none⟩ _))⟩
        · rw [hj] at hJ
          have HJ3 := Lib.hid (show jfour s.size (4 - (i + 1)) (16 * n + (c.toNat - 87)) r = res from hJ)
          have HL := Lib.hid (And.intro l1 l2)
          have g1 : (97 : Int) ≤ (c.toNat : Int) := by omega
          have g2 : (c.toNat : Int) ≤ (102 : Int) := by omega
          have w1 : wrap32 (16 * (n : Int)) = 16 * (n : Int) := by unfold wrap32; omega
          rw [hd] at hdg
          clear hj hJ hd l1 l2
          go_wp2_with fail
          refine (hdg _).mono ?_; rintro e w2 ⟨rfl, rfl⟩
          clear hdg
          have h1 := HS.out.c1
          have f1 := HS.out.f1
          simp only at h1
          go_wp2
          go_roundg (gk - 1)
          case measure => omega
          case rel => exact ⟨i + 1, q + 1, 16 * n + (c.toNat - 87), by go_num, by have := HL.out; show Value.int .i32 _ = Value.int .i32 _; congr 1; omega, by omega, by omega, by have h1 := HN.out; have h2 := HL.out; rw [Nat.pow_succ]; omega, by omega, HDP.out.1, by rw [HDP.out.2.1]; exact HJ3, Lib.hid (HS.out.one rfl HDP.out.1), Lib.hid ((HU.out.trans (Upd.of_below (below_drewN' _ _) _)).trans (Upd.of_setCell _ ⟨R, 1, none⟩ _))⟩
        · rw [hj] at hJ
          have HJ3 := Lib.hid (show jfour s.size (4 - (i + 1)) (16 * n + (c.toNat - 55)) r = res from hJ)
          have HL := Lib.hid (And.intro l1 l2)
          have g1 : ¬ (97 : Int) ≤ (c.toNat : Int) := by omega
          have g2 : (65 : Int) ≤ (c.toNat : Int) := by omega
          have g3 : (c.toNat : Int) ≤ (70 : Int) := by omega
          have w1 : wrap32 (16 * (n : Int)) = 16 * (n : Int) := by unfold wrap32; omega
          rw [hd] at hdg
          clear hj hJ hd l1 l2
          go_wp2_with fail
          refine (hdg _).mono ?_; rintro e w2 ⟨rfl, rfl⟩
          clear hdg
          have h1 := HS.out.c1
          have f1 := HS.out.f1
          simp only at h1
          go_wp2
          go_roundg (gk - 1)
          case measure => omega
          case rel => exact ⟨i + 1, q + 1, 16 * n + (c.toNat - 55), by go_num, by have := HL.out; show Value.int .i32 _ = Value.int .i32 _; congr 1; omega, by omega, by omega, by have h1 := HN.out; have h2 := HL.out; rw [Nat.pow_succ]; omega, by omega, HDP.out.1, by rw [HDP.out.2.1]; exact HJ3, Lib.hid (HS.out.one rfl HDP.out.1), Lib.hid ((HU.out.trans (Upd.of_below (below_drewN' _ _) _)).trans (Upd.of_setCell _ ⟨R, 1, none⟩ _))⟩
        · have HJ3 := Lib.hid (show JR.bad 12 q = res from by rw [hj] at hJ; exact hJ)
          rw [hd] at hdg
          clear hj hJ hd
          have HF := Lib.hid (pfail_c R s ⟨q, 0, 0⟩ 12 q (wr.drewN m) (HS.out.same rfl))
          have h1 := HS.out.c1
          simp only at h1
          rcases (show c.toNat < 65 ∨ (70 < c.toNat ∧ c.toNat < 97) ∨ 102 < c.toNat from hr) with k | k | k
          · have g1 : ¬ (97 : Int) ≤ (c.toNat : Int) := by omega
            have g2 : ¬ (65 : Int) ≤ (c.toNat : Int) := by omega
            clear k hr
            go_wp2_with fail
            refine (hdg _).mono ?_; rintro e w2 ⟨rfl, rfl⟩
            clear hdg
            go_wp2_with fail
            refine HF.out.mono ?_; rintro e w3 ⟨rfl, hr, hu⟩
            have HR := Lib.hid (And.intro hr hu)
            clear hr hu
            unfold noV
            go_wp2
            exact ⟨rfl, pj_bad HJ3.out HR.out.1 ((HU.out.trans (Upd.of_below (below_drewN' _ _) _)).trans HR.out.2)⟩
          · have g1 : ¬ (97 : Int) ≤ (c.toNat : Int) := by omega
            have g2 : (65 : Int) ≤ (c.toNat : Int) := by omega
            have g3 : ¬ (c.toNat : Int) ≤ (70 : Int) := by omega
            clear k hr
            go_wp2_with fail
            refine (hdg _).mono ?_; rintro e w2 ⟨rfl, rfl⟩
            clear hdg
            go_wp2_with fail
            refine HF.out.mono ?_; rintro e w3 ⟨rfl, hr, hu⟩
            have HR := Lib.hid (And.intro hr hu)
            clear hr hu
            unfold noV
            go_wp2
            exact ⟨rfl, pj_bad HJ3.out HR.out.1 ((HU.out.trans (Upd.of_below (below_drewN' _ _) _)).trans HR.out.2)⟩
          · have g1 : (97 : Int) ≤ (c.toNat : Int) := by omega
            have g2 : ¬ (c.toNat : Int) ≤ (102 : Int) := by omega
            have g3 : (65 : Int) ≤ (c.toNat : Int) := by omega
            have g4 : ¬ (c.toNat : Int) ≤ (70 : Int) := by omega
            clear k hr
            go_wp2_with fail
            refine (hdg _).mono ?_; rintro e w2 ⟨rfl, rfl⟩
            clear hdg
            go_wp2_with fail
            refine HF.out.mono ?_; rintro e w3 ⟨rfl, hr, hu⟩
            have HR := Lib.hid (And.intro hr hu)
            clear hr hu
            unfold noV
            go_wp2
            exact ⟨rfl, pj_bad HJ3.out HR.out.1 ((HU.out.trans (Upd.of_below (below_drewN' _ _) _)).trans HR.out.2)⟩
      | nil =>
        have HJ2 := Lib.hid (show JR.bad 3 s.size = res from by rw [← HJ.out, e4, hl, jfour])
        have hpk := peek_e R s q hl wr HS.out
        clear HJ e4 hl
        go_wp2_with fail
        refine hpk.mono ?_; rintro e w1 ⟨rfl, hr, hu⟩
        have HR := Lib.hid (And.intro hr hu)
        clear hr hu hpk
        unfold noV
        go_wp2
        exact ⟨rfl, pj_bad HJ2.out HR.out.1 (HU.out.trans HR.out.2)⟩
    · obtain rfl : i = 4 := by omega
      have HJ2 := Lib.hid (show JR.ok n (s.data.toList.drop q) = res from by rw [← HJ.out]; rfl)
      have HN := Lib.hid (show n < 65536 from hn)
      clear HJ hn hpw
      go_wp2
      go_ret
      exact pj_ok HJ2.out ⟨rfl, HN.out⟩ hpq HS.out HU.out
end Go.Proofs.YtbkbokfegjodnaaDoor
namespace Go.Proofs.YtbkbokfegjodnaaDoor
open Go.RowKit
/-- is a number a character? -/
def okR (n : Nat) : Prop := n < 55296 ∨ (57343 < n ∧ n ≤ 1114111)
theorem pair_val {n m : Nat} (h1 : 55296 ≤ n) (h2 : 56320 ≤ m) : 65536 + ((n : Int) - 55296) * 1024 + ((m : Int) - 56320) = ((65536 + (n - 55296) * 1024 + (m - 56320) : Nat) : Int) := by omega
theorem pair_ok {n m : Nat} (h1 : 55296 ≤ n) (h2 : n < 56320) (h3 : 56320 ≤ m) (h4 : m ≤ 57343) : 57343 < 65536 + (n - 55296) * 1024 + (m - 56320) ∧ 65536 + (n - 55296) * 1024 + (m - 56320) ≤ 1114111 := by omega
set_option maxRecDepth 20000 in
set_option maxHeartbeats 4000000 in
theorem uni_c (R : Nat) (s : ByteArray) (p f : Nat) (hs : s.size < 9223372036854775807) (w : World) (h : SrAt w R s ⟨p, 0, 0⟩) :
    Calls Tryd.prog 96 #[.pointer (some ⟨R, 0, none⟩), .int .i64 (f : Int)] w (PJ R s w p (fun (n : Nat) v _ => v = .int .i32 (n : Int) ∧ okR n) (juni s.size f (s.data.toList.drop p))) := by
  have hx := hex_c R s p hs w h
  obtain ⟨res, hres⟩ : ∃ res, juni s.size f (s.data.toList.drop p) = res := ⟨_, rfl⟩
  rw [hres]
  unfold juni at hres
  have hlt := h.lt
  clear h
  cases h1 : jfour s.size 4 0 (s.data.toList.drop p) with
  | bad er pl =>
    rw [h1, jchr] at hres
    rw [h1] at hx
    have HRES := Lib.hid hres
    clear hres h1
    go_enter Tryd.func96, Tryd.ntmps96
    go_wp2_with fail
    refine hx.mono ?_; rintro e w1 ⟨rfl, ⟨q, hq⟩, hu⟩
    have HQ := Lib.hid (And.intro hq hu)
    clear hx hq hu
    unfold noV
    go_wp2
    exact ⟨rfl, pj_bad HRES.out HQ.out.1 HQ.out.2⟩
  | ok n l =>
    rw [h1] at hx hres
    rw [jchr] at hres
    have HRES := Lib.hid hres
    clear hres h1
    go_enter Tryd.func96, Tryd.ntmps96
    go_wp2_with fail
    refine hx.mono ?_; rintro e w1 ⟨q, v, rfl, ⟨rfl, hn⟩, rfl, hpq, hqs, hsr, hu⟩
    have HS := Lib.hid hsr
    have HU := Lib.hid hu
    clear hx hsr hu
    rcases (show n < 55296 ∨ (55296 ≤ n ∧ n < 56320) ∨ (56320 ≤ n ∧ n ≤ 57343) ∨ 57343 < n by omega) with k | k | k | k
    · have g1 : (n : Int) < 55296 := by omega
      have HR2 := Lib.hid ((if_pos (.inl k)).symm.trans HRES.out)
      have HO := Lib.hid (show okR n from .inl k)
      clear HRES k hn
      go_wp2
      go_ret
      exact pj_ok HR2.out ⟨rfl, HO.out⟩ hpq HS.out HU.out
    · have g1 : decide ((n : Int) < 55296) = false := by rw [decide_eq_false_iff_not]; omega
      have g2 : decide ((57343 : Int) < (n : Int)) = false := by rw [decide_eq_false_iff_not]; omega
      have g3 : decide ((56320 : Int) ≤ (n : Int)) = false := by rw [decide_eq_false_iff_not]; omega
      have HR2 := Lib.hid ((if_neg (show ¬ 56320 ≤ n by omega)).symm.trans ((if_neg (show ¬ (n < 55296 ∨ 57343 < n) by omega)).symm.trans HRES.out))
      clear HRES
      have HK := Lib.hid k
      have HLT := Lib.hid hlt
      clear k hn
      obtain ⟨r2, hr2⟩ : ∃ x, jlit s.size f [92, 117] (s.data.toList.drop q) = x := ⟨_, rfl⟩
      have HJ0 := Lib.hid hr2
      have HR3 := Lib.hid (show jsec s.size f n r2 = res from by rw [← hr2]; exact HR2.out)
      clear hr2 HR2
      have hb2 : Below w1.heap.size w1 (w1.alloc (.cells #[.int .u8 92, .int .u8 117] 5)) := (Below.refl _ _).alloc (Nat.le_refl _) _
      have HS2 := Lib.hid (HS.out.below hb2)
      have HU2 := Lib.hid (HU.out.trans (Upd.of_below hb2 _))
      have HRB := Lib.hid (show R ≠ w1.heap.size by have := HS.out.lt; omega)
      have HC := Lib.hid (heap_alloc_new w1 (.cells #[.int .u8 92, .int .u8 117] 5))
      clear hb2 HS HU hlt
      go_wp2
      go_loopg [25] 3 (fun gk iv wr => ∃ (i q2 : Nat), iv = .int .i64 i ∧ i + gk = 3 ∧ i ≤ 2 ∧ p ≤ q2 ∧ q2 ≤ s.size ∧ Hid (jlit s.size f (([92, 117] : List UInt8).drop i) (s.data.toList.drop q2) = r2) ∧ Hid (wr.heap[w1.heap.size]? = some (.cells #[.int .u8 92, .int .u8 117] 5 (0, 0))) ∧ Hid (SrAt wr R s ⟨q2, 0, 0⟩) ∧ Hid (Upd w wr (some R) (some R)))
      case atStart => exact ⟨0, q, rfl, by omega, by omega, hpq, hqs, HJ0, HC, HS2, HU2⟩
      case round =>
        obtain ⟨i, q2, rfl, hg, hi, hpq2, hqs2, HJ, HB, HS, HU⟩ := hrel
        clear HJ0 HC HS2 HU2
        have c0 := cell_of_row _ _ 0 _ _ _ HB.out
        have c1 := cell_of_row _ _ 1 _ _ _ HB.out
        simp only [List.getElem?_toArray, List.getElem?_cons_zero, List.getElem?_cons_succ] at c0 c1
        rcases (show i = 0 ∨ i = 1 ∨ i = 2 by omega) with rfl | rfl | rfl
        · obtain ⟨l, hl⟩ : ∃ l, s.data.toList.drop q2 = l := ⟨_, rfl⟩
          have hJ := HJ.out
          rw [hl] at hJ
          cases l with
          | nil =>
            have HJ2 := Lib.hid (show JR.bad 3 s.size = r2 from hJ)
            have hpk := peek_e R s q2 hl wr HS.out
            clear HJ hJ hl
            go_wp2_with fail
            refine hpk.mono ?_; rintro e w2 ⟨rfl, hr, hu⟩
            have HQ := Lib.hid (And.intro hr hu)
            clear hr hu hpk
            unfold noV
            go_wp2
            have hR3 := HR3.out
            rw [← HJ2.out, jsec] at hR3
            exact ⟨rfl, pj_bad hR3 HQ.out.1 (HU.out.trans HQ.out.2)⟩
          | cons c r =>
            have hpk := peek_l R s q2 c r hl wr HS.out
            have HDP := Lib.hid (drop_parts hl)
            by_cases he : c = 92
            · have HJ2 := Lib.hid (show jlit s.size f (([92, 117] : List UInt8).drop (0 + 1)) (s.data.toList.drop (q2 + 1)) = r2 from by rw [HDP.out.2.1]; exact (if_pos he).symm.trans hJ)
              subst he
              clear HJ hJ hl
              go_wp2_with fail
              refine hpk.mono ?_; rintro e w2 ⟨rfl, m, rfl⟩
              clear hpk
              have h1 := HS.out.c1
              have f1 := HS.out.f1
              simp only at h1
              go_wp2
              go_roundg (gk - 1)
              case measure => omega
              case rel => exact ⟨0 + 1, q2 + 1, by go_num, by omega, by omega, by omega, HDP.out.1, HJ2, Lib.hid ((heap_setCell_other _ _ _ _ (Ne.symm HRB.out)).trans HB.out), Lib.hid (HS.out.one rfl HDP.out.1), Lib.hid ((HU.out.trans (Upd.of_below (below_drewN' _ _) _)).trans (Upd.of_setCell _ ⟨R, 1, none⟩ _))⟩
            · have HJ2 := Lib.hid (show JR.bad 13 f = r2 from (if_neg he).symm.trans hJ)
              have hb : ((c.toNat : Int) != 92) = true := by simp only [bne, show ((c.toNat : Int) == 92) = false from byte_ne (d := 92) he]; rfl
              clear HJ hJ hl he
              have HF := Lib.hid (fun (W : World) (hW : W.heap = wr.heap) => pfail_c R s ⟨q2, 0, 0⟩ 13 f W (HS.out.same hW))
              go_wp2_with fail
              refine hpk.mono ?_; rintro e w2 ⟨rfl, m, rfl⟩
              clear hpk
              go_wp2_with fail
              refine (HF.out (wr.drewN m) rfl).mono ?_; rintro e w3 ⟨rfl, hr, hu⟩
              have HQ := Lib.hid (And.intro hr hu)
              clear hr hu
              unfold noV
              go_wp2
              have hR3 := HR3.out
              rw [← HJ2.out, jsec] at hR3
              exact ⟨rfl, pj_bad hR3 HQ.out.1 ((HU.out.trans (Upd.of_below (below_drewN' _ _) _)).trans HQ.out.2)⟩
        · obtain ⟨l, hl⟩ : ∃ l, s.data.toList.drop q2 = l := ⟨_, rfl⟩
          have hJ := HJ.out
          rw [hl] at hJ
          cases l with
          | nil =>
            have HJ2 := Lib.hid (show JR.bad 3 s.size = r2 from hJ)
            have hpk := peek_e R s q2 hl wr HS.out
            clear HJ hJ hl
            go_wp2_with fail
            refine hpk.mono ?_; rintro e w2 ⟨rfl, hr, hu⟩
            have HQ := Lib.hid (And.intro hr hu)
            clear hr hu hpk
            unfold noV
            go_wp2
            have hR3 := HR3.out
            rw [← HJ2.out, jsec] at hR3
            exact ⟨rfl, pj_bad hR3 HQ.out.1 (HU.out.trans HQ.out.2)⟩
          | cons c r =>
            have hpk := peek_l R s q2 c r hl wr HS.out
            have HDP := Lib.hid (drop_parts hl)
            by_cases he : c = 117
            · have HJ2 := Lib.hid (show jlit s.size f (([92, 117] : List UInt8).drop (1 + 1)) (s.data.toList.drop (q2 + 1)) = r2 from by rw [HDP.out.2.1]; exact (if_pos he).symm.trans hJ)
              subst he
              clear HJ hJ hl
              go_wp2_with fail
              refine hpk.mono ?_; rintro e w2 ⟨rfl, m, rfl⟩
              clear hpk
              have h1 := HS.out.c1
              have f1 := HS.out.f1
              simp only at h1
              go_wp2
              go_roundg (gk - 1)
              case measure => omega
              case rel => exact ⟨1 + 1, q2 + 1, by go_num, by omega, by omega, by omega, HDP.out.1, HJ2, Lib.hid ((heap_setCell_other _ _ _ _ (Ne.symm HRB.out)).trans HB.out), Lib.hid (HS.out.one rfl HDP.out.1), Lib.hid ((HU.out.trans (Upd.of_below (below_drewN' _ _) _)).trans (Upd.of_setCell _ ⟨R, 1, none⟩ _))⟩
            · have HJ2 := Lib.hid (show JR.bad 13 f = r2 from (if_neg he).symm.trans hJ)
              have hb : ((c.toNat : Int) != 117) = true := by simp only [bne, show ((c.toNat : Int) == 117) = false from byte_ne (d := 117) he]; rfl
              clear HJ hJ hl he
              have HF := Lib.hid (fun (W : World) (hW : W.heap = wr.heap) => pfail_c R s ⟨q2, 0, 0⟩ 13 f W (HS.out.same hW))
              go_wp2_with fail
              refine hpk.mono ?_; rintro e w2 ⟨rfl, m, rfl⟩
              clear hpk
              go_wp2_with fail
              refine (HF.out (wr.drewN m) rfl).mono ?_; rintro e w3 ⟨rfl, hr, hu⟩
              have HQ := Lib.hid (And.intro hr hu)
              clear hr hu
              unfold noV
              go_wp2
              have hR3 := HR3.out
              rw [← HJ2.out, jsec] at hR3
              exact ⟨rfl, pj_bad hR3 HQ.out.1 ((HU.out.trans (Upd.of_below (below_drewN' _ _) _)).trans HQ.out.2)⟩
        · have HJ2 := Lib.hid (show JR.ok () (s.data.toList.drop q2) = r2 from HJ.out)
          have hR3 := HR3.out
          rw [← HJ2.out, jsec] at hR3
          have hx2 := hex_c R s q2 hs wr HS.out
          clear HJ HJ2 HR3 c0 c1
          cases h2 : jfour s.size 4 0 (s.data.toList.drop q2) with
          | bad er pl =>
            rw [h2] at hx2
            rw [h2, jlow] at hR3
            have HR4 := Lib.hid hR3
            clear hR3 h2
            go_wp2_with fail
            refine hx2.mono ?_; rintro e w2 ⟨rfl, ⟨q3, hq3⟩, hu⟩
            have HQ := Lib.hid (And.intro hq3 hu)
            clear hx2 hq3 hu
            unfold noV
            go_wp2
            exact ⟨rfl, pj_bad HR4.out HQ.out.1 (HU.out.trans HQ.out.2)⟩
          | ok m l2 =>
            rw [h2] at hx2
            rw [h2, jlow] at hR3
            have HR4 := Lib.hid hR3
            clear hR3 h2
            go_wp2_with fail
            refine hx2.mono ?_; rintro e w2 ⟨q3, v, rfl, ⟨rfl, hm⟩, rfl, hpq3, hqs3, hsr3, hu3⟩
            have HS3 := Lib.hid hsr3
            have HU3 := Lib.hid hu3
            clear hx2 hsr3 hu3
            rcases (show m < 56320 ∨ (56320 ≤ m ∧ m ≤ 57343) ∨ 57343 < m by omega) with k | k | k
            · have g4 : (m : Int) < 56320 := by omega
              have HR5 := Lib.hid ((if_pos (.inl k)).symm.trans HR4.out)
              have hfl := pfail_c R s ⟨q3, 0, 0⟩ 13 f w2 HS3.out
              clear HR4 k hm
              go_wp2_with fail
              refine hfl.mono ?_; rintro e w3 ⟨rfl, hr, hu⟩
              have HQ := Lib.hid (And.intro hr hu)
              clear hr hu hfl
              unfold noV
              go_wp2
              exact ⟨rfl, pj_bad HR5.out HQ.out.1 ((HU.out.trans HU3.out).trans HQ.out.2)⟩
            · have g4 : decide ((m : Int) < 56320) = false := by rw [decide_eq_false_iff_not]; omega
              have g5 : decide ((57343 : Int) < (m : Int)) = false := by rw [decide_eq_false_iff_not]; omega
              have HR5 := Lib.hid ((if_neg (show ¬ (m < 56320 ∨ 57343 < m) by omega)).symm.trans HR4.out)
              have kn := HK.out
              clear HR4 hm
              go_wp2
              go_ret
              exact pj_ok HR5.out ⟨congrArg (Value.int .i32) (pair_val kn.1 k.1), .inr (pair_ok kn.1 kn.2 k.1 k.2)⟩ (Nat.le_trans hpq2 hpq3) HS3.out (HU.out.trans HU3.out)
            · have g4 : decide ((m : Int) < 56320) = false := by rw [decide_eq_false_iff_not]; omega
              have g5 : (57343 : Int) < (m : Int) := by omega
              have HR5 := Lib.hid ((if_pos (.inr k)).symm.trans HR4.out)
              have hfl := pfail_c R s ⟨q3, 0, 0⟩ 13 f w2 HS3.out
              clear HR4 k hm
              go_wp2_with fail
              refine hfl.mono ?_; rintro e w3 ⟨rfl, hr, hu⟩
              have HQ := Lib.hid (And.intro hr hu)
              clear hr hu hfl
              unfold noV
              go_wp2
              exact ⟨rfl, pj_bad HR5.out HQ.out.1 ((HU.out.trans HU3.out).trans HQ.out.2)⟩
    · have g1 : decide ((n : Int) < 55296) = false := by rw [decide_eq_false_iff_not]; omega
      have g2 : decide ((57343 : Int) < (n : Int)) = false := by rw [decide_eq_false_iff_not]; omega
      have g3 : (56320 : Int) ≤ (n : Int) := by omega
      have HR2 := Lib.hid ((if_pos k.1).symm.trans ((if_neg (show ¬ (n < 55296 ∨ 57343 < n) by omega)).symm.trans HRES.out))
      have hfl := pfail_c R s ⟨q, 0, 0⟩ 13 f w1 HS.out
      clear HRES k hn
      go_wp2_with fail
      refine hfl.mono ?_; rintro e w2 ⟨rfl, hr, hu⟩
      have HR := Lib.hid (And.intro hr hu)
      clear hr hu hfl
      unfold noV
      go_wp2
      exact ⟨rfl, pj_bad HR2.out HR.out.1 (HU.out.trans HR.out.2)⟩
    · have g1 : decide ((n : Int) < 55296) = false := by rw [decide_eq_false_iff_not]; omega
      have g2 : (57343 : Int) < (n : Int) := by omega
      have HR2 := Lib.hid ((if_pos (.inr k)).symm.trans HRES.out)
      have HO := Lib.hid (show okR n from .inr ⟨k, by omega⟩)
      clear HRES k hn
      go_wp2
      go_ret
      exact pj_ok HR2.out ⟨rfl, HO.out⟩ hpq HS.out HU.out
end Go.Proofs.YtbkbokfegjodnaaDoor
namespace Go.Proofs.YtbkbokfegjodnaaDoor
open Go.RowKit
theorem enc_utf {n : Nat} (h : okR n) : Utf8.encode (n : Int) = ⟨(utfL n).toArray⟩ := by
  have hv : Utf8.valid (n : Int) = true := by
    unfold okR at h
    simp only [Utf8.valid, Bool.or_eq_true, Bool.and_eq_true, decide_eq_true_eq]
    omega
  unfold Utf8.encode utfL
  simp only [hv, if_true, Int.toNat_natCast]
  repeat' split
  all_goals rfl
theorem utfL_len (n : Nat) : (utfL n).length ≤ 4 := by
  unfold utfL
  repeat' split
  all_goals simp
def escGood (R : Nat) (s : ByteArray) (p : Nat) (w : World) (res : JR (List UInt8)) (e : Ending) (w' : World) : Prop := PJ R s w p (fun (x : List UInt8) v _ => v = .string ⟨x.toArray⟩ ∧ x.length ≤ 4) res e w'
set_option maxRecDepth 20000 in
set_option maxHeartbeats 4000000 in
theorem esc_c (R : Nat) (s : ByteArray) (p : Nat) (c0 : UInt8) (l : List UInt8) (hl : s.data.toList.drop p = c0 :: l) (hs : s.size < 9223372036854775807) (w : World) (h : SrAt w R s ⟨p, 0, 0⟩) :
    Calls Tryd.prog 83 #[.pointer (some ⟨R, 0, none⟩)] w (escGood R s (p + 1) w (jesc s.size l)) := by
  obtain ⟨hp, hd, _⟩ := drop_parts hl
  obtain ⟨res, hres⟩ : ∃ res, jesc s.size l = res := ⟨_, rfl⟩
  rw [hres]
  have h1 := h.c1
  have f1 := h.f1
  simp only at h1
  have HS := Lib.hid (h.one rfl hp)
  have HU := Lib.hid (Upd.of_setCell w ⟨R, 1, none⟩ (.int .i64 ((p : Int) + 1)))
  clear h hl
  cases l with
  | nil =>
    have HRES := Lib.hid hres
    have hpk := peek_e R s (p + 1) hd _ HS.out
    clear hres hd
    go_enter Tryd.func83, Tryd.ntmps83
    go_wp2_with fail
    refine hpk.mono ?_; rintro e w1 ⟨rfl, hr, hu⟩
    have HQ := Lib.hid (And.intro hr hu)
    clear hr hu hpk
    unfold noV
    go_wp2
    exact ⟨rfl, pj_bad HRES.out HQ.out.1 (HU.out.trans HQ.out.2)⟩
  | cons c r =>
    rw [jesc] at hres
    have hpk := peek_l R s (p + 1) c r hd _ HS.out
    obtain ⟨hp2, hd2, hl2⟩ := drop_parts hd
    have HRES := Lib.hid hres
    have HD := Lib.hid hd2
    have HL2 := Lib.hid hl2
    clear hres hd hd2 hl2
    go_enter Tryd.func83, Tryd.ntmps83
    go_wp2_with fail
    refine hpk.mono ?_; rintro e w1 ⟨rfl, m, rfl⟩
    have k1 := (HS.out.same (w' := (w.setCell ⟨R, 1, none⟩ (.int .i64 ((p : Int) + 1))).drewN m) rfl).c1
    have kf := (HS.out.same (w' := (w.setCell ⟨R, 1, none⟩ (.int .i64 ((p : Int) + 1))).drewN m) rfl).f1
    simp only at k1
    have HS2 := Lib.hid (HS.out.one (w2 := (w.setCell ⟨R, 1, none⟩ (.int .i64 ((p : Int) + 1))).drewN m) rfl hp2)
    have HU2 := Lib.hid ((HU.out.trans (Upd.of_below (below_drewN' _ m) _)).trans (Upd.of_setCell _ ⟨R, 1, none⟩ (.int .i64 (((p + 1 : Nat) : Int) + 1))))
    clear hpk h1 f1 HS HU
    generalize hW : (w.setCell ⟨R, 1, none⟩ (.int .i64 ((p : Int) + 1))).drewN m = W at *
    clear hW
    by_cases n34 : c = 34
    · have HR2 := Lib.hid (((if_pos n34)).symm.trans HRES.out)
      clear HRES
      subst n34
      go_wp2
      go_ret
      exact pj_ok (a := [34]) (q := p + 1 + 1) (by rw [HD.out]; exact HR2.out) ⟨by rfl, by decide⟩ (by omega) HS2.out HU2.out
    by_cases n92 : c = 92
    · have HR2 := Lib.hid ((((if_neg n34).trans <| if_pos n92)).symm.trans HRES.out)
      clear HRES n34
      subst n92
      go_wp2
      go_ret
      exact pj_ok (a := [92]) (q := p + 1 + 1) (by rw [HD.out]; exact HR2.out) ⟨by rfl, by decide⟩ (by omega) HS2.out HU2.out
    by_cases n47 : c = 47
    · have HR2 := Lib.hid ((((if_neg n34).trans <| (if_neg n92).trans <| if_pos n47)).symm.trans HRES.out)
      clear HRES n34 n92
      subst n47
      go_wp2
      go_ret
      exact pj_ok (a := [47]) (q := p + 1 + 1) (by rw [HD.out]; exact HR2.out) ⟨by rfl, by decide⟩ (by omega) HS2.out HU2.out
    by_cases n98 : c = 98
    · have HR2 := Lib.hid ((((if_neg n34).trans <| (if_neg n92).trans <| (if_neg n47).trans <| if_pos n98)).symm.trans HRES.out)
      clear HRES n34 n92 n47
      subst n98
      go_wp2
      go_ret
      exact pj_ok (a := [8]) (q := p + 1 + 1) (by rw [HD.out]; exact HR2.out) ⟨by rfl, by decide⟩ (by omega) HS2.out HU2.out
    by_cases n102 : c = 102
    · have HR2 := Lib.hid ((((if_neg n34).trans <| (if_neg n92).trans <| (if_neg n47).trans <| (if_neg n98).trans <| if_pos n102)).symm.trans HRES.out)
      clear HRES n34 n92 n47 n98
      subst n102
      go_wp2
      go_ret
      exact pj_ok (a := [12]) (q := p + 1 + 1) (by rw [HD.out]; exact HR2.out) ⟨by rfl, by decide⟩ (by omega) HS2.out HU2.out
    by_cases n110 : c = 110
    · have HR2 := Lib.hid ((((if_neg n34).trans <| (if_neg n92).trans <| (if_neg n47).trans <| (if_neg n98).trans <| (if_neg n102).trans <| if_pos n110)).symm.trans HRES.out)
      clear HRES n34 n92 n47 n98 n102
      subst n110
      go_wp2
      go_ret
      exact pj_ok (a := [10]) (q := p + 1 + 1) (by rw [HD.out]; exact HR2.out) ⟨by rfl, by decide⟩ (by omega) HS2.out HU2.out
    by_cases n114 : c = 114
    · have HR2 := Lib.hid ((((if_neg n34).trans <| (if_neg n92).trans <| (if_neg n47).trans <| (if_neg n98).trans <| (if_neg n102).trans <| (if_neg n110).trans <| if_pos n114)).symm.trans HRES.out)
      clear HRES n34 n92 n47 n98 n102 n110
      subst n114
      go_wp2
      go_ret
      exact pj_ok (a := [13]) (q := p + 1 + 1) (by rw [HD.out]; exact HR2.out) ⟨by rfl, by decide⟩ (by omega) HS2.out HU2.out
    by_cases n116 : c = 116
    · have HR2 := Lib.hid ((((if_neg n34).trans <| (if_neg n92).trans <| (if_neg n47).trans <| (if_neg n98).trans <| (if_neg n102).trans <| (if_neg n110).trans <| (if_neg n114).trans <| if_pos n116)).symm.trans HRES.out)
      clear HRES n34 n92 n47 n98 n102 n110 n114
      subst n116
      go_wp2
      go_ret
      exact pj_ok (a := [9]) (q := p + 1 + 1) (by rw [HD.out]; exact HR2.out) ⟨by rfl, by decide⟩ (by omega) HS2.out HU2.out
    by_cases n117 : c = 117
    · have HR2 := Lib.hid ((((if_neg n34).trans <| (if_neg n92).trans <| (if_neg n47).trans <| (if_neg n98).trans <| (if_neg n102).trans <| (if_neg n110).trans <| (if_neg n114).trans <| (if_neg n116).trans <| if_pos n117)).symm.trans HRES.out)
      clear HRES n34 n92 n47 n98 n102 n110 n114 n116
      subst n117
      have hfrom : s.size - (r.length + 2) = p := by have := HL2.out; omega
      rw [hfrom] at HR2
      have hx := uni_c R s (p + 1 + 1) p hs _ HS2.out
      rw [HD.out] at hx
      clear hfrom
      cases hu1 : juni s.size p r with
      | bad er pl =>
        rw [hu1] at hx
        have HR3 := Lib.hid (show JR.bad er pl = res from by have := HR2.out; rw [hu1, jutf] at this; exact this)
        clear HR2 hu1
        go_wp2_with fail
        refine hx.mono ?_; rintro e w2 ⟨rfl, ⟨q, hq⟩, hu⟩
        have HQ := Lib.hid (And.intro hq hu)
        clear hx hq hu
        unfold noV
        go_wp2
        exact ⟨rfl, pj_bad HR3.out HQ.out.1 (HU2.out.trans HQ.out.2)⟩
      | ok n r2 =>
        rw [hu1] at hx
        have HR3 := Lib.hid (show JR.ok (utfL n) r2 = res from by have := HR2.out; rw [hu1, jutf] at this; exact this)
        clear HR2 hu1
        go_wp2_with fail
        refine hx.mono ?_; rintro e w2 ⟨q, v, rfl, ⟨rfl, hn⟩, hr2, hpq, hqs, hsr, hu⟩
        have HQ := Lib.hid (And.intro hsr hu)
        have HN := Lib.hid hn
        have HR4 := Lib.hid hr2
        clear hx hsr hu hn hr2
        go_wp2
        go_ret
        exact pj_ok (a := utfL n) (q := q) (by rw [← HR4.out]; exact HR3.out) ⟨congrArg Value.string (enc_utf HN.out), utfL_len n⟩ (by omega) HQ.out.1 (HU2.out.trans HQ.out.2)
    · have HR2 := Lib.hid ((((if_neg n34).trans <| (if_neg n92).trans <| (if_neg n47).trans <| (if_neg n98).trans <| (if_neg n102).trans <| (if_neg n110).trans <| (if_neg n114).trans <| (if_neg n116).trans <| if_neg n117)).symm.trans HRES.out)
      have m34 : ((c.toNat : Int) == 34) = false := byte_ne (d := 34) n34
      have m92 : ((c.toNat : Int) == 92) = false := byte_ne (d := 92) n92
      have m47 : ((c.toNat : Int) == 47) = false := byte_ne (d := 47) n47
      have m98 : ((c.toNat : Int) == 98) = false := byte_ne (d := 98) n98
      have m102 : ((c.toNat : Int) == 102) = false := byte_ne (d := 102) n102
      have m110 : ((c.toNat : Int) == 110) = false := byte_ne (d := 110) n110
      have m114 : ((c.toNat : Int) == 114) = false := byte_ne (d := 114) n114
      have m116 : ((c.toNat : Int) == 116) = false := byte_ne (d := 116) n116
      have m117 : ((c.toNat : Int) == 117) = false := byte_ne (d := 117) n117
      clear HRES n34 n92 n47 n98 n102 n110 n114 n116 n117
      rw [HL2.out] at HR2
      have hfl := pfail_c R s ⟨p + 1 + 1, 0, 0⟩ 12 (p + 1) _ HS2.out
      have hwp : ((p + 1 + 1 : Nat) : Int) - 1 = ((p + 1 : Nat) : Int) := by omega
      go_wp2_with fail
      refine hfl.mono ?_; rintro e w2 ⟨rfl, hr, hu⟩
      have HQ := Lib.hid (And.intro hr hu)
      clear hfl hr hu
      unfold noV
      go_wp2
      exact ⟨rfl, pj_bad HR2.out HQ.out.1 (HU2.out.trans HQ.out.2)⟩
end Go.Proofs.YtbkbokfegjodnaaDoor
namespace Go.Proofs.YtbkbokfegjodnaaDoor
open Go.RowKit
set_option maxHeartbeats 4000000 in
theorem more_c (R : Nat) (s : ByteArray) (p : Nat) (first : Bool) (en : UInt8) (hs : s.size < 9223372036854775807) (w : World) (h : SrAt w R s ⟨p, 0, 0⟩) :
    Calls Tryd.prog 86 #[.pointer (some ⟨R, 0, none⟩), .bool first, .int .u8 (en.toNat : Int)] w (PJ R s w p (fun (b : Bool) v _ => v = .bool b) (jmore s.size first en (s.data.toList.drop p))) := by
  have hbl := blanks_c R s p hs w h
  obtain ⟨res, hres⟩ : ∃ res, jmore s.size first en (s.data.toList.drop p) = res := ⟨_, rfl⟩
  rw [hres]
  unfold jmore at hres
  have HRES := Lib.hid hres
  clear hres h
  go_enter Tryd.func86, Tryd.ntmps86
  go_wp2_with fail
  refine hbl.mono ?_; rintro e w1 ⟨rfl, q, hpq, hqs, hdq, hsr, hu⟩
  have HS := Lib.hid hsr
  have HU := Lib.hid hu
  have hR := HRES.out
  rw [← hdq] at hR
  obtain ⟨l, hl⟩ : ∃ x, s.data.toList.drop q = x := ⟨_, rfl⟩
  rw [hl] at hR
  clear hbl hsr hu hdq HRES
  cases l with
  | nil =>
    have HJ2 := Lib.hid (show JR.bad 3 s.size = res from hR)
    have hpk := peek_e R s q hl _ HS.out
    clear hR
    go_wp2_with fail
    refine hpk.mono ?_; rintro e w2 ⟨rfl, hr, hu⟩
    have HQ := Lib.hid (And.intro hr hu)
    clear hr hu hpk
    unfold noV
    go_wp2
    exact ⟨rfl, pj_bad HJ2.out HQ.out.1 (HU.out.trans HQ.out.2)⟩
  | cons c r =>
    have hpk := peek_l R s q c r hl _ HS.out
    obtain ⟨hq1, hd1, hl1⟩ := drop_parts hl
    simp only at hR
    rw [hl1] at hR
    have HL := Lib.hid hl
    have HD := Lib.hid hd1
    clear hl hd1 hl1
    go_wp2_with fail
    refine hpk.mono ?_; rintro e w2 ⟨rfl, m, rfl⟩
    have HS2 := Lib.hid (HS.out.same (w' := w1.drewN m) rfl)
    have HU2 := Lib.hid (HU.out.trans (Upd.of_below (below_drewN' w1 m) _))
    clear hpk HS HU
    generalize w1.drewN m = W at *
    have h1 := HS2.out.c1
    have f1 := HS2.out.f1
    simp only at h1
    by_cases he : c = en
    · have HJ2 := Lib.hid ((if_pos he).symm.trans hR)
      have g1 : ((c.toNat : Int) == (en.toNat : Int)) = true := byte_eq he
      clear he hR
      go_wp2
      go_ret
      exact pj_ok (a := false) (q := q + 1) (by rw [HD.out]; exact HJ2.out) rfl (by omega) (HS2.out.one rfl hq1) (HU2.out.trans (Upd.of_setCell W ⟨R, 1, none⟩ (.int .i64 ((q : Int) + 1))))
    have hR := (if_neg he).symm.trans hR
    have g1 : ((c.toNat : Int) == (en.toNat : Int)) = false := byte_ne he
    clear he
    cases first with
    | true =>
      have HJ2 := Lib.hid ((if_pos rfl).symm.trans hR)
      clear hR
      go_wp2
      go_ret
      exact pj_ok (a := true) (q := q) (by rw [HL.out]; exact HJ2.out) rfl hpq HS2.out HU2.out
    | false =>
      have hR := (if_neg (by decide)).symm.trans hR
      by_cases n44 : c = 44
      · have HJ2 := Lib.hid ((if_pos n44).symm.trans hR)
        have g2 : ((c.toNat : Int) == 44) = true := byte_eq (d := 44) n44
        have g3 : ((c.toNat : Int) != 44) = false := by simp only [bne, g2]; rfl
        have hbl2 := blanks_c R s (q + 1) hs _ (HS2.out.one (w2 := W) rfl hq1)
        have HU3 := Lib.hid (HU2.out.trans (Upd.of_setCell W ⟨R, 1, none⟩ (.int .i64 ((q : Int) + 1))))
        clear n44 hR
        go_wp2_with fail
        refine hbl2.mono ?_; rintro e w3 ⟨rfl, q2, hpq2, hqs2, hdq2, hsr2, hu2⟩
        have HQ := Lib.hid (And.intro hsr2 hu2)
        have HD2 := Lib.hid hdq2
        clear hbl2 hsr2 hu2 hdq2
        go_wp2
        go_ret
        exact pj_ok (a := true) (q := q2) (by rw [HD2.out, HD.out]; exact HJ2.out) rfl (by omega) HQ.out.1 (HU3.out.trans HQ.out.2)
      · have HJ2 := Lib.hid ((if_neg n44).symm.trans hR)
        have g2 : ((c.toNat : Int) == 44) = false := byte_ne (d := 44) n44
        have g3 : ((c.toNat : Int) != 44) = true := by simp only [bne, g2]; rfl
        have hfl := pfail_c R s ⟨q, 0, 0⟩ 10 q W HS2.out
        clear n44 hR
        go_wp2_with fail
        refine hfl.mono ?_; rintro e w3 ⟨rfl, hr, hu⟩
        have HQ := Lib.hid (And.intro hr hu)
        clear hr hu hfl
        unfold noV
        go_wp2
        exact ⟨rfl, pj_bad HJ2.out HQ.out.1 (HU2.out.trans HQ.out.2)⟩
end Go.Proofs.YtbkbokfegjodnaaDoor
namespace Go.Proofs.YtbkbokfegjodnaaDoor
open Go.RowKit
theorem run_loadVar_one {P : Program} (w : World) (a : Nat) (ty : TypeId) (v : Value) (d : TypeDesc) (hu : P.underlying ty = some d) (hd : (match d with | .struct _ | .array _ _ => true | _ => false) = false) (hc : w.cell? ⟨a, 0, none⟩ = some v) :
    (loadVar ty ⟨a, 0, none⟩).run P w = .ok v w := by
  have hagg : (isAgg ty).run P w = .ok false w := by
    unfold isAgg
    rw [Sem.run_bind, run_underlying hu w]
    cases d <;> simp_all
  simp [loadVar, Sem.run_bind, hagg, go_sem, hc]
theorem results_cell3 {P : Program} {fn : Func} {p q u : Tmp} {ty t2 t3 : TypeId} (h : fn.results = #[.cell p ty, .cell q t2, .cell u t3]) (tmps : Array Value) (w : World) (g a b : Nat) (T : TypeId) (cs : Array Value) (fr : Nat × Nat) (d d2 d3 : TypeDesc) (x y : Value)
    (hp : tmps.getD p undef = .pointer (some ⟨g, 0, none⟩)) (hq : tmps.getD q undef = .pointer (some ⟨a, 0, none⟩)) (hr : tmps.getD u undef = .pointer (some ⟨b, 0, none⟩)) (hg : w.heap[g]? = some (.cells cs T fr))
    (ha : w.cell? ⟨a, 0, none⟩ = some x) (hb : w.cell? ⟨b, 0, none⟩ = some y)
    (hu : P.underlying ty = some d) (hd : (match d with | .struct _ | .array _ _ => true | _ => false) = true) (hi : (P.info? ty).map (·.size) = some cs.size)
    (hu2 : P.underlying t2 = some d2) (hd2 : (match d2 with | .struct _ | .array _ _ => true | _ => false) = false)
    (hu3 : P.underlying t3 = some d3) (hd3 : (match d3 with | .struct _ | .array _ _ => true | _ => false) = false) :
    (results fn tmps).run P w = .ok (.tuple #[.agg cs, x, y]) w := by
  have hp' : tmps[p]?.getD undef = .pointer (some ⟨g, 0, none⟩) := by simpa using hp
  have hq' : tmps[q]?.getD undef = .pointer (some ⟨a, 0, none⟩) := by simpa using hq
  have hr' : tmps[u]?.getD undef = .pointer (some ⟨b, 0, none⟩) := by simpa using hr
  simp [results, h, hp', hq', hr', asAddr, run_loadVar_row w g T ty cs fr d hg hu hd hi, run_loadVar_one w a t2 x d2 hu2 hd2 ha, run_loadVar_one w b t3 y d3 hu3 hd3 hb]
set_option maxHeartbeats 4000000 in
theorem catch_p (B R : Nat) (s : ByteArray) (st : St) (u0 u1 u2 u3 u4 x y : Value) (T2 T3 : TypeId) (w : World)
    (hv : w.heap[B]? = some (.cells #[u0, u1, u2, u3, u4] 28 (0, 0))) (he : w.heap[B + 1]? = some (.cells #[x] T2 (0, 0))) (hp : w.heap[B + 2]? = some (.cells #[y] T3 (0, 0)))
    (h5 : w.cell? ⟨B + 4, 0, none⟩ = some (.pointer (some ⟨R, 0, none⟩))) (h : SrAt w R s st) :
    CallsD Tryd.prog 41 #[.pointer (some ⟨B + 4, 0, none⟩), .pointer (some ⟨B, 0, none⟩), .pointer (some ⟨B + 1, 0, none⟩), .pointer (some ⟨B + 2, 0, none⟩)]
      (.panicking [{ v := .iface 9 (.string ⟨#[110, 111, 32, 118, 97, 108, 117, 101]⟩), recovered := false }]) w fun e u' w' =>
      e = .returned (.tuple #[]) ∧ u' = .panicking [{ v := .iface 9 (.string ⟨#[110, 111, 32, 118, 97, 108, 117, 101]⟩), recovered := true }] ∧
      w' = World.drew (((((((w.setCell ⟨B, 0, none⟩ (.int .i64 0)).setCell ⟨B, 1, none⟩ (.int .i64 0)).setCell ⟨B, 2, none⟩ (.string ⟨#[]⟩)).setCell ⟨B, 3, none⟩ (.slice none 0 0)).setCell ⟨B, 4, none⟩ (.slice none 0 0)).setCell ⟨B + 1, 0, none⟩ (.int .i64 st.err)).setCell ⟨B + 2, 0, none⟩ (.int .i64 st.place)) := by
  obtain ⟨⟨z0, z1, z2, z3, z4⟩, y0, y1, y2, y3, y4⟩ := cellsOf5 hv
  have e0 := cell_of_row w _ 0 _ _ _ he
  have e1 := frozen_of_row w _ 0 _ _ he
  have p0 := cell_of_row w _ 0 _ _ _ hp
  have p1 := frozen_of_row w _ 0 _ _ hp
  have r2 := h.c2
  have r3 := h.c3
  refine callsD_of_wpS Tryd.func41 rfl fun c₀ cs hu => ?_
  apply wpS_seq
  apply wpS_region
  simp [wpOpsS, go_sem, recoverD, hu, Tryd.ntmps41, Exit.thenS]
  refine wpS_cond (t := true) (by simp [Act.eval, Array.replicate]) ?_
  simp only [if_true]
  refine wpS_of_wp ?_
  go_wp2
  go_region_law (fail)
  all_goals (show bodyPostS _ _ _ _ _ _ _ _ _; simp [bodyPostS, results, Tryd.results41])
set_option maxHeartbeats 1000000 in
theorem catch_r (a b c d : Value) (w : World) :
    CallsD Tryd.prog 41 #[a, b, c, d] .returning w fun e u' w' => e = .returned (.tuple #[]) ∧ u' = .returning ∧ w' = w := by
  refine callsD_of_wpS Tryd.func41 rfl fun c₀ cs hu => ?_
  apply wpS_seq
  apply wpS_region
  simp [wpOpsS, go_sem, recoverD, hu, Tryd.ntmps41, Exit.thenS]
  refine wpS_cond (t := false) (by simp [Act.eval, Array.replicate]) ?_
  simp only [Bool.false_eq_true, if_false]
  refine wpS_of_wp (wp_skip ?_)
  cases c₀
  simp_all [bodyPostS, results, Tryd.results41]
end Go.Proofs.YtbkbokfegjodnaaDoor
