/- How the document's reader stands, without a fault or behind one, in one sentence: its small methods. Conditions: a text has less than 2 to the 40 bytes. -/
import Derived.Test.YtbkbokfegjodnaaDoorDlist
import Derived.Test.YtbkbokfegjodnaaDoorDtext
namespace Go.Proofs.YtbkbokfegjodnaaDoor
open Go.RowKit
/-- at a place without a fault, or behind its first fault -/
inductive DM where
  | on (q : Nat)
  | flt (er pl : Nat)
def DMAt (w : World) (R : Nat) (s : ByteArray) : DM → Prop
  | .on q => SrAt w R s ⟨q, 0, 0⟩
  | .flt er pl => FltAt w R s er pl
def DM.code : DM → Nat
  | .on _ => 0
  | .flt er _ => er
theorem DMAt.below {w w' : World} {R : Nat} {s : ByteArray} : ∀ {m : DM}, DMAt w R s m → Below w.heap.size w w' → DMAt w' R s m
  | .on _, h, hb => SrAt.below h hb
  | .flt _ _, h, hb => FltAt.below h hb
theorem DMAt.after {w w' : World} {R : Nat} {s : ByteArray} : ∀ {m : DM}, DMAt w R s m → w'.heap[R]? = w.heap[R]? → DMAt w' R s m
  | .on _, h, hb => SrAt.after h hb
  | .flt _ _, h, hb => FltAt.after h hb
theorem DMAt.same {w w' : World} {R : Nat} {s : ByteArray} {m : DM} (h : DMAt w R s m) (hh : w'.heap = w.heap) : DMAt w' R s m := h.after (by rw [hh])
theorem DMAt.c2 {w : World} {R : Nat} {s : ByteArray} : ∀ {m : DM}, DMAt w R s m → w.cell? ⟨R, 2, none⟩ = some (.int .i64 (m.code : Int))
  | .on _, h => SrAt.c2 h
  | .flt _ _, h => FltAt.c2 h
/-- the place in its cell -/
theorem DMAt.c1 {w : World} {R : Nat} {s : ByteArray} : ∀ {m : DM}, DMAt w R s m → ∃ z : Int, w.cell? ⟨R, 1, none⟩ = some (.int .i64 z) ∧ w.frozen? ⟨R, 1, none⟩ = false ∧ ∀ q, m = .on q → z = (q : Int)
  | .on q, h => ⟨(q : Int), SrAt.c1 h, SrAt.f1 h, fun _ e => by injection e with e; rw [e]⟩
  | .flt _ _, h => by
    obtain ⟨z, hz⟩ := FltAt.c1 h
    exact ⟨z, hz, FltAt.f1 h, fun _ e => by cases e⟩
def DM.succ : DM → DM
  | .on q => .on (q + 1)
  | .flt er pl => .flt er pl
theorem DMAt.go {w : World} {R : Nat} {s : ByteArray} (hs : s.size < 1099511627776) (z : Int) : ∀ {m : DM}, DMAt w R s m → (∀ q, m = .on q → z = (q : Int) ∧ q < s.size) → DMAt (w.setCell ⟨R, 1, none⟩ (.int .i64 (wrap64 (z + 1)))) R s m.succ
  | .on q, h, hq => by
    obtain ⟨rfl, hlt⟩ := hq q rfl
    rw [show wrap64 ((q : Int) + 1) = (q : Int) + 1 by unfold wrap64; omega]
    exact SrAt.one h rfl hlt
  | .flt _ _, h, _ => FltAt.go h _
/-- blanks -/
def BlM (s : ByteArray) : DM → DM → Prop
  | .on p, m => ∃ q, m = .on q ∧ p ≤ q ∧ q ≤ s.size ∧ s.data.toList.drop q = jbl (s.data.toList.drop p)
  | .flt er pl, m => m = .flt er pl
theorem dblanks_m (R : Nat) (s : ByteArray) (hs : s.size < 1099511627776) (w : World) (m : DM) (h : DMAt w R s m) :
    Calls Tryd.prog 45 #[.pointer (some ⟨R, 0, none⟩)] w fun r w' => r = .returned (.tuple #[]) ∧ ∃ m', BlM s m m' ∧ DMAt w' R s m' ∧ Upd w w' (some R) (some R) := by
  cases m with
  | on p => exact (dblanks_c R s p (by omega) w h).mono fun _ _ ⟨he, q, h1, h2, h3, h4, h5⟩ => ⟨he, .on q, ⟨q, rfl, h1, h2, h3⟩, h4, h5⟩
  | flt er pl =>
    refine (dblanks_bad R s er pl w h).mono fun _ w' hh => ?_
    obtain ⟨he, n, hw⟩ := hh
    subst hw
    exact ⟨he, .flt er pl, rfl, FltAt.same h rfl, Upd.of_below (below_drewN' w n) _⟩
/-- next -/
def NxL (s : ByteArray) (p : Nat) (c : Int) (ok : Bool) (m : DM) : List UInt8 → Prop
  | [] => ok = false ∧ m = .flt 3 s.size
  | x :: _ => ok = true ∧ c = (x.toNat : Int) ∧ m = .on p
def NxM (s : ByteArray) : DM → Int → Bool → DM → Prop
  | .on p, c, ok, m => NxL s p c ok m (s.data.toList.drop p)
  | .flt er pl, _, ok, m => ok = false ∧ m = .flt er pl
theorem dnext_m (R : Nat) (s : ByteArray) (w : World) (m : DM) (h : DMAt w R s m) :
    Calls Tryd.prog 67 #[.pointer (some ⟨R, 0, none⟩)] w fun r w' => ∃ (c : Int) (ok : Bool) (m' : DM), r = .returned (.tuple #[.int .u8 c, .bool ok]) ∧ Hid (NxM s m c ok m') ∧ Hid (DMAt w' R s m') ∧ Hid (Upd w w' (some R) (some R)) := by
  cases m with
  | on p =>
    cases hl : s.data.toList.drop p with
    | nil => exact (dnext_e R s p hl w h).mono fun _ _ ⟨he, h1, h2⟩ => ⟨0, false, .flt 3 s.size, he, Lib.hid (by show NxL _ _ _ _ _ _; rw [hl]; exact ⟨rfl, rfl⟩), Lib.hid h1, Lib.hid h2⟩
    | cons x r =>
      refine (dnext_l R s p x r hl w h).mono fun _ w' hh => ?_
      obtain ⟨he, n, hw⟩ := hh
      subst hw
      exact ⟨(x.toNat : Int), true, .on p, he, Lib.hid (by show NxL _ _ _ _ _ _; rw [hl]; exact ⟨rfl, rfl, rfl⟩), Lib.hid (SrAt.same h rfl), Lib.hid (Upd.of_below (below_drewN' w n) _)⟩
  | flt er pl =>
    refine (dnext_bad R s er pl w h).mono fun _ w' hh => ?_
    obtain ⟨he, hw⟩ := hh
    subst hw
    exact ⟨0, false, .flt er pl, he, Lib.hid ⟨rfl, rfl⟩, Lib.hid h, Lib.hid (Upd.refl w' _)⟩
/-- a text -/
def TxM (s : ByteArray) (p : Nat) (res : JR (List UInt8)) (v : ByteArray) (m : DM) : Prop :=
  match res with
  | .ok x r => ∃ q, m = .on q ∧ v = ⟨x.toArray⟩ ∧ r = s.data.toList.drop q ∧ p ≤ q ∧ q ≤ s.size
  | .bad er pl => m = .flt er pl
theorem dtext_m {R : Nat} {s : ByteArray} {p : Nat} {w : World} {res : JR (List UInt8)} {e : Ending} {w' : World} (h : dTxt R s p w res e w') :
    ∃ (v : ByteArray) (m : DM), e = .returned (.string v) ∧ Hid (TxM s p res v m) ∧ Hid (DMAt w' R s m) ∧ Hid (Upd w w' (some R) (some R)) := by
  unfold dTxt DJ at h
  cases res with
  | ok x r =>
    obtain ⟨q, v, he, ⟨hv, _⟩, hr, hp, hq, hs, hu⟩ := h
    subst hv
    exact ⟨_, .on q, he, Lib.hid ⟨q, rfl, rfl, hr, hp, hq⟩, Lib.hid hs, Lib.hid hu⟩
  | bad er pl =>
    obtain ⟨v, he, hv, hf, hu⟩ := h
    subst hv
    exact ⟨_, .flt er pl, he, Lib.hid rfl, Lib.hid hf, Lib.hid hu⟩
/-- is the name there already? -/
def dupB (ns : List ByteArray) (v : ByteArray) : DM → Bool
  | .on _ => hasB ns v
  | .flt _ _ => false
def DupM (ns : List ByteArray) (v : ByteArray) (q : Nat) (m m' : DM) : Prop := m' = if dupB ns v m then .flt 16 q else m
/-- a colon -/
def ColM (c : Int) (ok : Bool) (m m' : DM) : Prop :=
  match m with
  | .on q => m' = if (ok && (c != 58)) then .flt 10 q else .on q
  | .flt er pl => m' = .flt er pl
theorem col_lt {s : ByteArray} {c : Int} {ok : Bool} {m3 m4 m5 : DM} (h4 : NxM s m3 c ok m4) (h5 : ColM c ok m4 m5) (p : Nat) (e : m5 = .on p) : p < s.size := by
  subst e
  cases m4 with
  | flt er pl => cases (show DM.on p = .flt er pl from h5)
  | on q4 =>
    have h5' : DM.on p = if (ok && (c != 58)) then DM.flt 10 q4 else DM.on q4 := h5
    have e4 : p = q4 := by
      revert h5'
      cases (ok && (c != 58)) with
      | true => intro h; cases h
      | false => intro h; injection h
    subst e4
    cases m3 with
    | flt er pl => cases h4.2
    | on q3 =>
      have h4 : NxL s q3 c ok (.on p) (s.data.toList.drop q3) := h4
      cases hl : s.data.toList.drop q3 with
      | nil => rw [hl] at h4; cases h4.2
      | cons x r =>
        rw [hl] at h4
        have : p = q3 := by have := h4.2.2; injection this
        subst this
        exact (drop_parts hl).1
/-- what comes of a value -/
def resM (val : List UInt8 → JR JV) (s : ByteArray) : DM → JR JV
  | .flt er pl => .bad er pl
  | .on q => val (s.data.toList.drop q)
/-- what is read of a member, from its name on -/
theorem mem_res {s : ByteArray} {q : Nat} {r : List UInt8} {ns : List ByteArray} {v : ByteArray} {val : List UInt8 → JR JV} {rest : ByteArray → JV → List UInt8 → JR JV} {m1 m2 m3 m4 m5 m6 : DM} {c : Int} {ok : Bool}
    (hq : s.data.toList.drop q = 34 :: r) (h1 : TxM s (q + 1) (jtext s.size (r.length + 1) r []) v m1) (h2 : DupM ns v q m1 m2) (h3 : BlM s m2 m3) (h4 : NxM s m3 c ok m4) (h5 : ColM c ok m4 m5) (h6 : BlM s m5.succ m6) :
    (match jname s.size ns (s.data.toList.drop q) with
      | .bad e p => JR.bad e p
      | .ok x r3 => match val r3 with
        | .bad e p => JR.bad e p
        | .ok u r4 => rest x u r4) = (match resM val s m6 with | .bad e p => JR.bad e p | .ok u r4 => rest v u r4) ∧
    (∀ p, m6 = .on p → q < p ∧ p ≤ s.size) := by
  obtain ⟨hqs, _, hqn⟩ := drop_parts hq
  rw [hq, jname, if_pos rfl, hqn]
  unfold TxM at h1
  cases hx : jtext s.size (r.length + 1) r [] with
  | bad er pl =>
    rw [hx] at h1
    subst h1
    have e2 : m2 = .flt er pl := by rw [h2]; rfl
    subst e2
    have e3 : m3 = .flt er pl := h3
    subst e3
    have e4 : m4 = .flt er pl := h4.2
    subst e4
    have e5 : m5 = .flt er pl := h5
    subst e5
    have e6 : m6 = .flt er pl := h6
    subst e6
    exact ⟨rfl, fun _ e => by cases e⟩
  | ok x r2 =>
    rw [hx] at h1
    obtain ⟨q1, e1, hv, hr, hp1, hq1⟩ := h1
    subst e1
    subst hv
    subst hr
    simp only
    have e2 : m2 = if hasB ns ⟨x.toArray⟩ then DM.flt 16 q else DM.on q1 := h2
    cases hd : hasB ns ⟨x.toArray⟩ with
    | true =>
      rw [hd] at e2
      simp only [if_true] at e2 ⊢
      subst e2
      have e3 : m3 = .flt 16 q := h3
      subst e3
      have e4 : m4 = .flt 16 q := h4.2
      subst e4
      have e5 : m5 = .flt 16 q := h5
      subst e5
      have e6 : m6 = .flt 16 q := h6
      subst e6
      exact ⟨rfl, fun _ e => by cases e⟩
    | false =>
      rw [hd] at e2
      simp only [Bool.false_eq_true, if_false] at e2 ⊢
      subst e2
      obtain ⟨q3, e3, hq3, hq3s, hd3⟩ := h3
      subst e3
      rw [← hd3]
      have h4 : NxL s q3 c ok m4 (s.data.toList.drop q3) := h4
      cases hl : s.data.toList.drop q3 with
      | nil =>
        rw [hl] at h4
        obtain ⟨rfl, rfl⟩ := h4
        have e5 : m5 = .flt 3 s.size := h5
        subst e5
        have e6 : m6 = .flt 3 s.size := h6
        subst e6
        exact ⟨rfl, fun _ e => by cases e⟩
      | cons c2 r3 =>
        rw [hl] at h4
        obtain ⟨rfl, rfl, rfl⟩ := h4
        obtain ⟨hlt, hdr, hn⟩ := drop_parts hl
        have e5 : m5 = if (true && ((c2.toNat : Int) != 58)) then DM.flt 10 q3 else DM.on q3 := h5
        simp only
        by_cases h58 : c2 = 58
        · have hb : ((c2.toNat : Int) != 58) = false := bne_of' (byte_eq (d := 58) h58)
          rw [hb] at e5
          simp only [Bool.and_false, Bool.false_eq_true, if_false] at e5
          subst e5
          obtain ⟨q6, e6, hq6, hq6s, hd6⟩ := h6
          subst e6
          rw [if_pos h58]
          refine ⟨?_, fun p e => by injection e with e; omega⟩
          simp only [resM]
          rw [hd6, hdr]
        · have hb : ((c2.toNat : Int) != 58) = true := bne_of (byte_ne (d := 58) h58)
          rw [hb] at e5
          simp only [Bool.and_true, if_true] at e5
          subst e5
          have e6 : m6 = .flt 10 q3 := h6
          subst e6
          rw [if_neg h58, hn]
          exact ⟨rfl, fun _ e => by cases e⟩
end Go.Proofs.YtbkbokfegjodnaaDoor
