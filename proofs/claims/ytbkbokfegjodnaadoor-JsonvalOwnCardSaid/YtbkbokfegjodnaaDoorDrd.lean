/- The walks of the document's reader's small methods: fail, next, blanks, word. Conditions: a text's length is within what a string may have. -/
import Derived.Test.YtbkbokfegjodnaaDoorRda
namespace Go.Proofs.YtbkbokfegjodnaaDoor
open Go.RowKit
theorem bne_of {a b : Int} (h : (a == b) = false) : (a != b) = true := by rw [bne, h]; rfl
theorem bne_of' {a b : Int} (h : (a == b) = true) : (a != b) = false := by rw [bne, h]; rfl
/-- a reader behind a fault -/
structure FltAt (w : World) (R : Nat) (s : ByteArray) (e p : Nat) : Prop where
  ne : e ≠ 0
  c0 : w.cell? ⟨R, 0, none⟩ = some (.string s)
  c1 : ∃ z : Int, w.cell? ⟨R, 1, none⟩ = some (.int .i64 z)
  c2 : w.cell? ⟨R, 2, none⟩ = some (.int .i64 e)
  c3 : w.cell? ⟨R, 3, none⟩ = some (.int .i64 p)
  f1 : w.frozen? ⟨R, 1, none⟩ = false
theorem FltAt.lt {w : World} {R : Nat} {s : ByteArray} {e p : Nat} (h : FltAt w R s e p) : R < w.heap.size := cell_lt h.c0
theorem FltAt.after {w w' : World} {R : Nat} {s : ByteArray} {e p : Nat} (h : FltAt w R s e p) (hR : w'.heap[R]? = w.heap[R]?) : FltAt w' R s e p := by
  have hc : ∀ i, w'.cell? ⟨R, i, none⟩ = w.cell? ⟨R, i, none⟩ := fun i => World.cell?_of_block (w := w) hR
  have hf : ∀ i, w'.frozen? ⟨R, i, none⟩ = w.frozen? ⟨R, i, none⟩ := fun i => World.frozen?_of_block (w := w) hR
  exact ⟨h.ne, (hc 0).trans h.c0, h.c1.elim fun z hz => ⟨z, (hc 1).trans hz⟩, (hc 2).trans h.c2, (hc 3).trans h.c3, (hf 1).trans h.f1⟩
theorem FltAt.below {w w' : World} {R : Nat} {s : ByteArray} {e p : Nat} (h : FltAt w R s e p) (hb : Below w.heap.size w w') : FltAt w' R s e p := h.after (hb.block R h.lt)
theorem FltAt.same {w w' : World} {R : Nat} {s : ByteArray} {e p : Nat} (h : FltAt w R s e p) (hh : w'.heap = w.heap) : FltAt w' R s e p := h.after (by rw [hh])
theorem FltAt.go {w : World} {R : Nat} {s : ByteArray} {e p : Nat} (h : FltAt w R s e p) (z : Int) : FltAt (w.setCell ⟨R, 1, none⟩ (.int .i64 z)) R s e p := by
  obtain ⟨y, hy⟩ := h.c1
  have ne : ∀ {i j : Nat}, i ≠ j → (⟨R, i, none⟩ : Addr) ≠ ⟨R, j, none⟩ := fun h e => h (by injection e)
  exact ⟨h.ne, by rw [setO (ne (by decide))]; exact h.c0, ⟨z, setS hy⟩, by rw [setO (ne (by decide))]; exact h.c2, by rw [setO (ne (by decide))]; exact h.c3, by rw [setF]; exact h.f1⟩
theorem SrAt.fltAt {w : World} {R : Nat} {s : ByteArray} {st : St} (h : SrAt w R s st) (he : st.err ≠ 0) : FltAt w R s st.err st.place := ⟨he, h.c0, ⟨_, h.c1⟩, h.c2, h.c3, h.f1⟩
/-- what a method of the document's reader comes to: it goes on; or it stands at its first fault -/
def DJ {α : Type} (R : Nat) (s : ByteArray) (w : World) (p : Nat) (good : α → Value → World → Prop) (flt : Value → World → Prop) (res : JR α) (e : Ending) (w' : World) : Prop :=
  match res with
  | .ok a r => ∃ q v, e = .returned v ∧ good a v w' ∧ r = s.data.toList.drop q ∧ p ≤ q ∧ q ≤ s.size ∧ SrAt w' R s ⟨q, 0, 0⟩ ∧ Upd w w' (some R) (some R)
  | .bad er pl => ∃ v, e = .returned v ∧ flt v w' ∧ FltAt w' R s er pl ∧ Upd w w' (some R) (some R)
theorem dj_bad {α : Type} {R : Nat} {s : ByteArray} {w w' : World} {p er pl : Nat} {good : α → Value → World → Prop} {flt : Value → World → Prop} {res : JR α} {v : Value} (h : JR.bad er pl = res) (hv : flt v w') (hs : FltAt w' R s er pl) (hu : Upd w w' (some R) (some R)) : DJ R s w p good flt res (.returned v) w' := by
  subst h; exact ⟨v, rfl, hv, hs, hu⟩
theorem dj_ok {α : Type} {R : Nat} {s : ByteArray} {w w' : World} {p q : Nat} {good : α → Value → World → Prop} {flt : Value → World → Prop} {res : JR α} {a : α} {v : Value} (h : JR.ok a (s.data.toList.drop q) = res) (hg : good a v w') (hp : p ≤ q) (hs : SrAt w' R s ⟨q, 0, 0⟩) (hu : Upd w w' (some R) (some R)) : DJ R s w p good flt res (.returned v) w' := by
  subst h; exact ⟨q, v, rfl, hg, rfl, hp, hs.pos, hs, hu⟩
set_option maxHeartbeats 1000000 in
theorem dfail_c (R : Nat) (s : ByteArray) (q e p : Nat) (he : e ≠ 0) (w : World) (h : SrAt w R s ⟨q, 0, 0⟩) :
    Calls Tryd.prog 47 #[.pointer (some ⟨R, 0, none⟩), .int .i64 e, .int .i64 p] w fun r w' => r = .returned (.tuple #[]) ∧ FltAt w' R s e p ∧ Upd w w' (some R) (some R) := by
  have h1 := h.c1
  have h2 := h.c2
  have h3 := h.c3
  have f2 := h.f2
  have f3 := h.f3
  have H := Lib.hid (show FltAt ((w.setCell ⟨R, 2, none⟩ (.int .i64 e)).setCell ⟨R, 3, none⟩ (.int .i64 p)) R s e p from (h.flt e p).fltAt he)
  simp only at h2
  clear h he
  go_enter Tryd.func47, Tryd.ntmps47
  go_wp2
  go_end0
  exact ⟨rfl, H.out, upd_flt⟩
set_option maxHeartbeats 2000000 in
theorem dnext_bad (R : Nat) (s : ByteArray) (e p : Nat) (w : World) (h : FltAt w R s e p) :
    Calls Tryd.prog 67 #[.pointer (some ⟨R, 0, none⟩)] w fun r w' => r = .returned (.tuple #[.int .u8 0, .bool false]) ∧ w' = w := by
  have h2 := h.c2
  have he := h.ne
  have heb : ((e : Int) == 0) = false := by simp [he]
  have hen : ((e : Int) != 0) = true := by simp only [bne, heb]; rfl
  clear h he
  go_enter Tryd.func67, Tryd.ntmps67
  go_wp2
  go_ret2
  exact ⟨rfl, rfl⟩
set_option maxHeartbeats 2000000 in
theorem dnext_in (R : Nat) (s : ByteArray) (p : Nat) (hp : p < s.size) (w : World) (h : SrAt w R s ⟨p, 0, 0⟩) :
    Calls Tryd.prog 67 #[.pointer (some ⟨R, 0, none⟩)] w fun r w' => r = .returned (.tuple #[.int .u8 (s[p].toNat : Int), .bool true]) ∧ ∃ m, w' = w.drewN m := by
  have h0 := h.c0
  have h1 := h.c1
  have h2 := h.c2
  simp only at h1 h2
  have hd : ((p : Int) == (s.size : Int)) = false := by rw [beq_eq_false_iff_ne]; omega
  clear h
  go_enter Tryd.func67, Tryd.ntmps67
  go_wp2
  go_quiet (fail)
  go_wp2
  go_quiet (fail)
  go_wp2
  go_ret2
  exact ⟨rfl, _, World.drewN_drewN _ _ _⟩
set_option maxHeartbeats 2000000 in
theorem dnext_out (R : Nat) (s : ByteArray) (p : Nat) (hp : ¬ p < s.size) (w : World) (h : SrAt w R s ⟨p, 0, 0⟩) :
    Calls Tryd.prog 67 #[.pointer (some ⟨R, 0, none⟩)] w fun r w' => r = .returned (.tuple #[.int .u8 0, .bool false]) ∧ FltAt w' R s 3 s.size ∧ Upd w w' (some R) (some R) := by
  have h0 := h.c0
  have h1 := h.c1
  have h2 := h.c2
  have hq := h.pos
  simp only at h1 h2 hq
  have hd : ((p : Int) == (s.size : Int)) = true := by rw [beq_iff_eq]; omega
  have H := Lib.hid h
  clear h
  go_enter Tryd.func67, Tryd.ntmps67
  go_wp2
  go_quiet (fail)
  go_wp2_with fail
  refine (dfail_c R s p 3 s.size (by decide) (w.drewN nq) (H.out.same rfl)).mono ?_; rintro e w1 ⟨rfl, hr, hu⟩
  have HR := Lib.hid (And.intro hr hu)
  clear hr hu
  go_wp2
  go_ret2
  exact ⟨rfl, HR.out.1, (Upd.of_below (below_drewN' _ _) _).trans HR.out.2⟩
theorem dnext_l (R : Nat) (s : ByteArray) (q : Nat) (c : UInt8) (r : List UInt8) (hl : s.data.toList.drop q = c :: r) (w : World) (h : SrAt w R s ⟨q, 0, 0⟩) :
    Calls Tryd.prog 67 #[.pointer (some ⟨R, 0, none⟩)] w fun e w' => e = .returned (.tuple #[.int .u8 (c.toNat : Int), .bool true]) ∧ ∃ m, w' = w.drewN m := by
  have hlt := (drop_parts hl).1
  have hc : s[q] = c := by rw [rest_cons hlt] at hl; injection hl
  rw [← hc]
  exact dnext_in R s q hlt w h
theorem dnext_e (R : Nat) (s : ByteArray) (q : Nat) (hl : s.data.toList.drop q = []) (w : World) (h : SrAt w R s ⟨q, 0, 0⟩) :
    Calls Tryd.prog 67 #[.pointer (some ⟨R, 0, none⟩)] w fun e w' => e = .returned (.tuple #[.int .u8 0, .bool false]) ∧ FltAt w' R s 3 s.size ∧ Upd w w' (some R) (some R) := dnext_out R s q (drop_none hl) w h
theorem jbl_jbl : ∀ l : List UInt8, jbl (jbl l) = jbl l
  | [] => rfl
  | c :: r => by
    rw [jbl]
    by_cases h : isBl c = true
    · rw [if_pos h]; exact jbl_jbl r
    · rw [if_neg h, jbl, if_neg h]
set_option maxHeartbeats 2000000 in
theorem dblanks_bad (R : Nat) (s : ByteArray) (e p : Nat) (w : World) (h : FltAt w R s e p) :
    Calls Tryd.prog 45 #[.pointer (some ⟨R, 0, none⟩)] w fun r w' => r = .returned (.tuple #[]) ∧ ∃ m, w' = w.drewN m := by
  have h2 := h.c2
  have he := h.ne
  have heb : ((e : Int) == 0) = false := by simp [he]
  clear h he
  go_enter Tryd.func45, Tryd.ntmps45
  go_wp2
  go_loopg [2] 1 (fun _ _ wr => wr = w)
  case atStart => rfl
  case round =>
    subst hrel
    go_wp2
    go_quiet (fail)
    go_wp2
    go_end0
    exact ⟨rfl, _, rfl⟩
set_option maxHeartbeats 2000000 in
theorem dblanks_c (R : Nat) (s : ByteArray) (p : Nat) (hs : s.size < 9223372036854775807) (w : World) (h : SrAt w R s ⟨p, 0, 0⟩) :
    Calls Tryd.prog 45 #[.pointer (some ⟨R, 0, none⟩)] w fun r w' => r = .returned (.tuple #[]) ∧ ∃ q, p ≤ q ∧ q ≤ s.size ∧ s.data.toList.drop q = jbl (s.data.toList.drop p) ∧ SrAt w' R s ⟨q, 0, 0⟩ ∧ Upd w w' (some R) (some R) := by
  have hp := h.pos
  simp only at hp
  have H := Lib.hid h
  clear h
  go_enter Tryd.func45, Tryd.ntmps45
  go_wp2
  go_loopg [2] (s.size + 1) (fun gk _ wr => ∃ q, q + gk = s.size + 1 + p ∧ p ≤ q ∧ q ≤ s.size ∧ Hid (jbl (s.data.toList.drop q) = jbl (s.data.toList.drop p)) ∧ Hid (SrAt wr R s ⟨q, 0, 0⟩) ∧ Hid (Upd w wr (some R) (some R)))
  case atStart => exact ⟨p, by omega, Nat.le_refl _, hp, Lib.hid rfl, H, Lib.hid (Upd.refl _ _)⟩
  case round =>
    obtain ⟨q, hg, hpq, hq, HB, HS, HU⟩ := hrel
    have h0 := HS.out.c0
    have h1 := HS.out.c1
    have h2 := HS.out.c2
    simp only at h1 h2
    by_cases hlt : q < s.size
    · have f1 := HS.out.f1
      have hd : (q : Int) < (s.size : Int) := by omega
      rcases blanks_of (c := s[q]) with ⟨y32, hb⟩ | ⟨n32, y9, hb⟩ | ⟨n32, n9, y10, hb⟩ | ⟨n32, n9, n10, y13, hb⟩ | ⟨n32, n9, n10, n13, hb⟩
      · have m32 : ((s[q].toNat : Int) != 32) = false := bne_of' (byte_eq (d := 32) y32)
        have HLT := Lib.hid (And.intro hb hlt)
        clear y32 hb
        go_wp2
        go_quiet (fail)
        go_wp2
        go_quiet (fail)
        go_wp2
        go_roundg (gk - 1)
        case measure => omega
        case rel => exact ⟨q + 1, by omega, by omega, HLT.out.2, Lib.hid ((jbl_step HLT.out.2 HLT.out.1).symm.trans HB.out), Lib.hid (HS.out.one rfl HLT.out.2), Lib.hid ((HU.out.trans (Upd.of_below (below_drewN' _ _) _)).trans (Upd.of_setCell _ ⟨R, 1, none⟩ _))⟩
      · have m32 : ((s[q].toNat : Int) != 32) = true := bne_of (byte_ne (d := 32) n32)
        have m9 : ((s[q].toNat : Int) != 9) = false := bne_of' (byte_eq (d := 9) y9)
        have HLT := Lib.hid (And.intro hb hlt)
        clear n32 y9 hb
        go_wp2
        go_quiet (fail)
        go_wp2
        go_quiet (fail)
        go_wp2
        go_roundg (gk - 1)
        case measure => omega
        case rel => exact ⟨q + 1, by omega, by omega, HLT.out.2, Lib.hid ((jbl_step HLT.out.2 HLT.out.1).symm.trans HB.out), Lib.hid (HS.out.one rfl HLT.out.2), Lib.hid ((HU.out.trans (Upd.of_below (below_drewN' _ _) _)).trans (Upd.of_setCell _ ⟨R, 1, none⟩ _))⟩
      · have m32 : ((s[q].toNat : Int) != 32) = true := bne_of (byte_ne (d := 32) n32)
        have m9 : ((s[q].toNat : Int) != 9) = true := bne_of (byte_ne (d := 9) n9)
        have m10 : ((s[q].toNat : Int) != 10) = false := bne_of' (byte_eq (d := 10) y10)
        have HLT := Lib.hid (And.intro hb hlt)
        clear n32 n9 y10 hb
        go_wp2
        go_quiet (fail)
        go_wp2
        go_quiet (fail)
        go_wp2
        go_roundg (gk - 1)
        case measure => omega
        case rel => exact ⟨q + 1, by omega, by omega, HLT.out.2, Lib.hid ((jbl_step HLT.out.2 HLT.out.1).symm.trans HB.out), Lib.hid (HS.out.one rfl HLT.out.2), Lib.hid ((HU.out.trans (Upd.of_below (below_drewN' _ _) _)).trans (Upd.of_setCell _ ⟨R, 1, none⟩ _))⟩
      · have m32 : ((s[q].toNat : Int) != 32) = true := bne_of (byte_ne (d := 32) n32)
        have m9 : ((s[q].toNat : Int) != 9) = true := bne_of (byte_ne (d := 9) n9)
        have m10 : ((s[q].toNat : Int) != 10) = true := bne_of (byte_ne (d := 10) n10)
        have m13 : ((s[q].toNat : Int) != 13) = false := bne_of' (byte_eq (d := 13) y13)
        have HLT := Lib.hid (And.intro hb hlt)
        clear n32 n9 n10 y13 hb
        go_wp2
        go_quiet (fail)
        go_wp2
        go_quiet (fail)
        go_wp2
        go_roundg (gk - 1)
        case measure => omega
        case rel => exact ⟨q + 1, by omega, by omega, HLT.out.2, Lib.hid ((jbl_step HLT.out.2 HLT.out.1).symm.trans HB.out), Lib.hid (HS.out.one rfl HLT.out.2), Lib.hid ((HU.out.trans (Upd.of_below (below_drewN' _ _) _)).trans (Upd.of_setCell _ ⟨R, 1, none⟩ _))⟩
      · have m32 : ((s[q].toNat : Int) != 32) = true := bne_of (byte_ne (d := 32) n32)
        have m9 : ((s[q].toNat : Int) != 9) = true := bne_of (byte_ne (d := 9) n9)
        have m10 : ((s[q].toNat : Int) != 10) = true := bne_of (byte_ne (d := 10) n10)
        have m13 : ((s[q].toNat : Int) != 13) = true := bne_of (byte_ne (d := 13) n13)
        have HLT := Lib.hid (And.intro hb hlt)
        clear n32 n9 n10 n13 hb
        go_wp2
        go_quiet (fail)
        go_wp2
        go_quiet (fail)
        go_wp2
        refine bodyPost_ret (results_none rfl _ _ _) rfl ?_
        exact ⟨rfl, q, hpq, hq, by rw [← HB.out]; exact (jbl_stop HLT.out.2 HLT.out.1).symm, HS.out.same rfl, HU.out.trans (Upd.of_below (below_drewN' _ _) _)⟩
    · have hd : decide ((q : Int) < (s.size : Int)) = false := by rw [decide_eq_false_iff_not]; omega
      go_wp2
      go_quiet (fail)
      go_wp2
      go_end0
      exact ⟨rfl, q, hpq, hq, by rw [← HB.out]; exact (jbl_end hlt).symm, HS.out.same rfl, HU.out.trans (Upd.of_below (below_drewN' _ _) _)⟩
set_option maxHeartbeats 2000000 in
theorem dword_c (R : Nat) (s x : ByteArray) (p : Nat) (hs : s.size < 9223372036854775807) (hx : x.size < 9223372036854775807) (w : World) (h : SrAt w R s ⟨p, 0, 0⟩) :
    Calls Tryd.prog 68 #[.pointer (some ⟨R, 0, none⟩), .string x] w (DJ R s w p (fun _ v _ => v = .tuple #[]) (fun v _ => v = .tuple #[]) (jword s.size x.data.toList (s.data.toList.drop p))) := by
  have hp := h.pos
  simp only at hp
  have H := Lib.hid h
  clear h
  obtain ⟨res, hres⟩ : ∃ res, jword s.size x.data.toList (s.data.toList.drop p) = res := ⟨_, rfl⟩
  rw [hres]
  have HRES := Lib.hid hres
  clear hres
  go_enter Tryd.func68, Tryd.ntmps68
  go_wp2
  go_loopg [4, 5, 6] (x.size + 1) (fun gk iv _ _ wr => ∃ (i q : Nat), iv = .int .i64 i ∧ i + gk = x.size + 1 ∧ i ≤ x.size ∧ p ≤ q ∧ q ≤ s.size ∧ Hid (jword s.size (x.data.toList.drop i) (s.data.toList.drop q) = res) ∧ Hid (SrAt wr R s ⟨q, 0, 0⟩) ∧ Hid (Upd w wr (some R) (some R)))
  case atStart => exact ⟨0, p, rfl, by omega, Nat.zero_le _, Nat.le_refl _, hp, by rw [List.drop_zero]; exact HRES, H, Lib.hid (Upd.refl _ _)⟩
  case round =>
    obtain ⟨i, q, rfl, hg, hi, hpq, hq, HJ, HS, HU⟩ := hrel
    clear HRES
    by_cases hxi : i < x.size
    · have hxd : x.data.toList.drop i = x[i] :: x.data.toList.drop (i + 1) := rest_cons hxi
      have hi2 : (i : Int) < (x.size : Int) := by omega
      by_cases hlt : q < s.size
      · have HJ2 := Lib.hid (show (if s[q] = x[i] then jword s.size (x.data.toList.drop (i + 1)) (s.data.toList.drop (q + 1)) else .bad 10 q) = res from by rw [← HJ.out, hxd, rest_cons hlt, jword, rest_at hlt])
        have HLT := Lib.hid hlt
        clear hxd HJ
        by_cases he : s[q] = x[i]
        · have hb : ((s[q].toNat : Int) != (x[i].toNat : Int)) = false := by rw [he]; simp
          have HJ3 := Lib.hid ((if_pos he).symm.trans HJ2.out)
          clear he HJ2
          go_wp2_with fail
          refine (dnext_in R s q hlt wr HS.out).mono ?_; rintro e w1 ⟨rfl, m, rfl⟩
          have h1 := HS.out.c1
          have f1 := HS.out.f1
          simp only at h1
          go_wp2
          go_roundg (gk - 1)
          case measure => omega
          case rel => exact ⟨i + 1, q + 1, by go_num, by omega, by omega, by omega, HLT.out, Lib.hid HJ3.out, Lib.hid (HS.out.one rfl HLT.out), Lib.hid ((HU.out.trans (Upd.of_below (below_drewN' _ _) _)).trans (Upd.of_setCell _ ⟨R, 1, none⟩ _))⟩
        · have hb : ((s[q].toNat : Int) != (x[i].toNat : Int)) = true := by simp only [bne, byte_ne he]; rfl
          have HJ3 := Lib.hid ((if_neg he).symm.trans HJ2.out)
          clear he HJ2
          go_wp2_with fail
          refine (dnext_in R s q hlt wr HS.out).mono ?_; rintro e w1 ⟨rfl, m, rfl⟩
          have h1 := HS.out.c1
          simp only at h1
          go_wp2_with fail
          refine (dfail_c R s q 10 q (by decide) (wr.drewN m) (HS.out.same rfl)).mono ?_; rintro e w1 ⟨rfl, hr, hu⟩
          have HR := Lib.hid (And.intro hr hu)
          clear hr hu
          go_wp2
          go_end0
          exact dj_bad HJ3.out rfl HR.out.1 ((HU.out.trans (Upd.of_below (below_drewN' _ _) _)).trans HR.out.2)
      · have HJ2 := Lib.hid (show JR.bad 3 s.size = res from by rw [← HJ.out, hxd, rest_nil hlt, jword])
        clear hxd HJ
        go_wp2_with fail
        refine (dnext_out R s q hlt wr HS.out).mono ?_; rintro e w1 ⟨rfl, hr, hu⟩
        have HR := Lib.hid (And.intro hr hu)
        clear hr hu
        go_wp2
        go_end0
        exact dj_bad HJ2.out rfl HR.out.1 (HU.out.trans HR.out.2)
    · obtain rfl : i = x.size := by omega
      have HJ2 := Lib.hid (show JR.ok () (s.data.toList.drop q) = res from by rw [← HJ.out, rest_nil hxi, jword])
      have hi2 : ¬ ((x.size : Int) < (x.size : Int)) := by omega
      clear HJ
      go_wp2
      go_end0
      exact dj_ok HJ2.out rfl hpq HS.out HU.out
end Go.Proofs.YtbkbokfegjodnaaDoor
