/- Any move; moves as an argument; the walk of the law WireMeet. Conditions: what comes in is of bulk at most 1048576. -/
import Derived.Test.YtkpickojeghppaaDoorWm5
import Derived.Test.YtkpickojeghppaaDoorWacts
import Derived.Lib.QuietBelow
namespace Go.Proofs.YtkpickojeghppaaDoor
open Go.Joins Go.ChangeShapes Go.WideShapes Go.RowKit Go.Deep
structure MoveP where
  kind : Int
  body : ByteArray
  n : Int
def moveV (m : MoveP) : List Value := [.int .i64 m.kind, .string m.body, .int .i64 m.n]
def MovesIn (w : World) (A : Option Addr) (l : List MoveP) : Prop := l = [] ∨ ∃ G o, A = some ⟨G, o, none⟩ ∧ ∀ i (h : i < l.length), w.rangeAt G (o + i * 3) (moveV l[i])
def movesW (l : List MoveP) : Nat := (l.map fun m => m.body.size + 1).sum
def bodiesM (l : List MoveP) : Nat := (l.map fun m => m.body.size).sum
theorem bodiesM_snoc (l : List MoveP) (k : Nat) (h : k < l.length) : bodiesM (l.take (k + 1)) = bodiesM (l.take k) + (l[k]).body.size := by
  unfold bodiesM
  rw [List.take_succ_eq_append_getElem h, List.map_append, List.sum_append]
  simp
theorem bodiesM_le (l : List MoveP) (k : Nat) : bodiesM (l.take k) ≤ movesW l := by
  have h : ∀ l : List MoveP, bodiesM l ≤ movesW l := fun l => by
    induction l with
    | nil => exact Nat.le_refl _
    | cons a r ih => simp only [bodiesM, movesW, List.map_cons, List.sum_cons] at *; omega
  have e : movesW l = movesW (l.take k) + movesW (l.drop k) := by
    unfold movesW
    rw [← List.sum_append, ← List.map_append, List.take_append_drop]
  have := h (l.take k)
  omega
theorem movesW_get {l : List MoveP} {i : Nat} (h : i < l.length) : (l[i]).body.size + 1 ≤ movesW l := by
  induction l generalizing i with
  | nil => simp at h
  | cons a r ih =>
    simp only [movesW, List.map_cons, List.sum_cons] at *
    cases i with
    | zero => simp
    | succ i => have := ih (i := i) (by simpa using h); simp only [List.getElem_cons_succ]; omega
theorem movesW_len (l : List MoveP) : l.length ≤ movesW l := by
  induction l with
  | nil => exact Nat.le_refl _
  | cons a r ih => simp only [movesW, List.map_cons, List.sum_cons, List.length_cons] at *; omega
section
variable {H : Type} {enc : TypeId × Value → H} {w : World} {base : Nat} {spare : Nat → Bool} {held : Bool} {fuel : Nat} {v : Value} {y : DataW H × List MemPlace}
set_option maxRecDepth 100000 in
theorem moves_trod (h : DataW.trod enc Tryd.prog w base spare held fuel 81 [v] = some y) :
    ∃ (A : Option Addr) (l : List MoveP) (c : Nat), v = .slice A l.length c ∧ l.length ≤ c ∧ c ≤ maxLen ∧ MovesIn w A l ∧ movesW l ≤ Rows.uptoBulk y.1 := by
  rcases open_slice_fields Tryd.underlying81 Tryd.underlying83 (by kernel_rfl) (by kernel_rfl) h with ⟨h1, h2⟩ | ⟨a, len, cap, m, D, Q, h1, hlc, hcm, hlm, h2, hD⟩
  · injection h1 with h1 _
    exact ⟨none, [], 0, h1, Nat.zero_le _, Nat.zero_le _, .inl rfl, Nat.zero_le _⟩
  · injection h1 with h1 _
    obtain ⟨l, hll, hl⟩ := build (fun i (x : MoveP) => (∀ j (hj : j < 3), w.cell? (a.add (i * 3 + j)) = (moveV x)[j]?) ∧ x.body.size + 1 ≤ Rows.uptoBulk (D i)) len (fun i hi => by
      obtain ⟨ys, n, hDi, hyl, hf⟩ := hD i (by omega)
      obtain ⟨v0, y0, hc0, hy0, t0⟩ := hf 0 _ rfl
      obtain ⟨v1, y1, hc1, hy1, t1⟩ := hf 1 _ rfl
      obtain ⟨v2, y2, hc2, hy2, t2⟩ := hf 2 _ rfl
      obtain ⟨k, e0, x0, w0⟩ := DataW.trod_int Tryd.underlying3 t0
      obtain ⟨s, e1, x1, hs⟩ := DataW.trod_string Tryd.underlying9 t1
      obtain ⟨n2, e2, x2, w2⟩ := DataW.trod_int Tryd.underlying3 t2
      injection e0 with e0 _
      injection e1 with e1 _
      injection e2 with e2 _
      subst e0; subst e1; subst e2
      refine ⟨⟨k, s, n2⟩, fun j hj => ?_, ?_⟩
      · have : j = 0 ∨ j = 1 ∨ j = 2 := by omega
        rcases this with rfl | rfl | rfl
        · exact hc0
        · exact hc1
        · exact hc2
      · have hys : ys = [y0, y1, y2] := by
          match ys, hyl with
          | [z0, z1, z2], _ =>
            simp at hy0 hy1 hy2
            rw [hy0, hy1, hy2]
        rw [hDi, hys, x0, x1, x2]
        simp only [List.map_cons, List.map_nil]
        rw [Rows.uptoBulk]
        simp only [Rows.uptoBulkAll, bulk_int, bulk_str]
        show s.size + 1 ≤ _
        omega)
    subst hll
    refine ⟨some a, l, cap, h1, hlc, hcm, ?_, ?_⟩
    · by_cases h0 : l = []
      · exact .inl h0
      · right
        have hpos : 0 < l.length := by
          rcases Nat.eq_zero_or_pos l.length with h | h
          · exact absurd (List.eq_nil_of_length_eq_zero h) h0
          · exact h
        have hsp : a.spot = none := by
          obtain ⟨hc, _⟩ := hl 0 hpos
          exact spot_none (w := w) (a := a) (v := .int .i64 (l[0]).kind) (by have h := hc 0 (by omega); rw [show (moveV l[0])[0]? = some (.int .i64 (l[0]).kind) from rfl] at h; simpa [Addr.add] using h)
        obtain ⟨B, o, sp⟩ := a
        obtain rfl : sp = none := hsp
        refine ⟨B, o, rfl, fun i hi => ?_⟩
        obtain ⟨hc, _⟩ := hl i hi
        intro j u hj
        have hjl : j < 3 := (List.getElem?_eq_some_iff.1 hj).1
        have h := hc j hjl
        rw [add_none] at h
        rw [Nat.add_assoc, h, hj]
    · rw [h2]
      rw [Rows.uptoBulk]
      have e := sum_get (fun x : MoveP => x.body.size + 1) l (fun i => if h : i < l.length then (l[i]).body.size + 1 else 0) (fun i h => by simp [h])
      have hb := bulk_map D (fun i => if h : i < l.length then (l[i]).body.size + 1 else 0) (List.range l.length) (fun i hi => by
        have hi' := List.mem_range.1 hi
        show (if h : i < l.length then (l[i]).body.size + 1 else 0) ≤ _
        rw [dif_pos hi']
        exact (hl i hi').2)
      unfold movesW
      rw [e]
      omega
theorem moves_open {d : DataW H} {p : List MemPlace} (h : DataW.Trod enc Tryd.prog w base spare held 81 v d p) (hv : ∃ A n c, v = .slice A n c) :
    ∃ (A : Option Addr) (l : List MoveP) (c : Nat), v = .slice A l.length c ∧ l.length ≤ c ∧ c ≤ maxLen ∧ MovesIn w A l ∧ movesW l ≤ Rows.uptoBulk d := by
  obtain ⟨fuel, hf⟩ := h
  obtain ⟨A0, n, c0, rfl⟩ := hv
  have hf' : DataW.trod enc Tryd.prog w base spare held fuel 81 [.slice A0 n c0] = some (d, p) := hf
  exact moves_trod hf'
end
/-- the state keeps its law, whatever is told and held -/
def MOk (sums : Bool) (t : MS) : Prop := ∃ Y Z H Q sb cb se ce, MInv sums t Y Z H Q sb cb se ce
theorem MOk.n {sums : Bool} {t : MS} (h : MOk sums t) : t.asked.length ≤ 1000 := by obtain ⟨_, _, _, _, _, _, _, _, h⟩ := h; exact h.n
theorem ms_ask_len (t : MS) (body : ByteArray) : (t.ask body).asked.length ≤ t.asked.length + 1 := by
  unfold MS.ask
  split
  · show (t.asked ++ [body]).length ≤ _; simp
  · exact Nat.le_succ _
theorem answer_asked (t : MS) : t.answer.asked = t.asked := by unfold MS.answer; split <;> rfl
/-- what a move makes of the state -/
def MS.move (t : MS) (m : MoveP) : MS := if m.kind = 1 then t.ask m.body else if m.kind = 2 then t.bye else if m.kind = 3 then t.toS m.n else if m.kind = 4 then t.toC m.n else if m.kind = 5 then t.answer else t
theorem moves_c {sums : Bool} {t : MS} (hi : MOk sums t) (m : MoveP) (hb : m.body.size ≤ 100000) (hn : t.asked.length + 1 ≤ 1000) (w0 w : World) (P C R : Nat) (V : PV) (h : TriP w0 w P C R V t) :
    MOk sums (t.move m) ∧ (t.move m).asked.length ≤ t.asked.length + 1 ∧ Calls Tryd.prog 47 #[.pointer (some ⟨P, 0, none⟩), .agg #[.int .i64 m.kind, .string m.body, .int .i64 m.n]] w (MovePost w0 P C R (t.move m)) := by
  obtain ⟨Y, Z, H, Q, sb, cb, se, ce, hi⟩ := hi
  obtain ⟨k, body, n⟩ := m
  unfold MS.move
  simp only at hb ⊢
  by_cases h1 : k = 1
  · subst h1
    rw [if_pos rfl]
    obtain ⟨Q', h2⟩ := hi.ask body hb hn
    exact ⟨⟨_, _, _, _, _, _, _, _, h2⟩, ms_ask_len t body, moves1_c hi body n hb hn w0 w P C R V h⟩
  rw [if_neg h1]
  by_cases h2 : k = 2
  · subst h2
    rw [if_pos rfl]
    exact ⟨⟨_, _, _, _, _, _, _, _, hi.bye⟩, Nat.le_succ _, moves2_c hi body n w0 w P C R V h⟩
  rw [if_neg h2]
  by_cases h3 : k = 3
  · subst h3
    rw [if_pos rfl]
    obtain ⟨H', Q', sb', se', h4, _⟩ := hi.toS n (by have := hi.upLe; omega)
    exact ⟨⟨_, _, _, _, _, _, _, _, h4⟩, Nat.le_succ _, moves3_c hi body n w0 w P C R V h⟩
  rw [if_neg h3]
  by_cases h4 : k = 4
  · subst h4
    rw [if_pos rfl]
    obtain ⟨Z1, Z2, cb', ce', _, _, h5, _⟩ := hi.toC n (by have := hi.dnLe; omega)
    exact ⟨⟨_, _, _, _, _, _, _, _, h5⟩, Nat.le_succ _, moves4_c hi body n w0 w P C R V h⟩
  rw [if_neg h4]
  by_cases h5 : k = 5
  · subst h5
    rw [if_pos rfl]
    refine ⟨?_, by rw [answer_asked]; exact Nat.le_succ _, ?_⟩
    · obtain ⟨Z', H', h6, _⟩ := answer_step hi
      exact ⟨_, _, _, _, _, _, _, _, h6⟩
    · cases H with
      | nil => exact moves5n_c hi body n w0 w P C R V h
      | cons b r => exact moves5_c hi body n w0 w P C R V h
  rw [if_neg h5]
  exact ⟨⟨_, _, _, _, _, _, _, _, hi⟩, Nat.le_succ _, moves0_c hi k ⟨h1, h2, h3, h4, h5⟩ body n w0 w P C R V h⟩
/-- how it stands at the head of a round -/
def RdAt (sums : Bool) (t : MS) (r : Nat) : Prop := MOk sums t ∧ t.ended = true ∧ t.asked.length ≤ 900 ∧ (1 ≤ r → MDone sums t (16 - r))
theorem RdAt.round {sums : Bool} {t : MS} {r : Nat} (h : RdAt sums t r) : MOk sums (t.toS (-1)) ∧ MOk sums ((t.toS (-1)).answer) ∧ RdAt sums t.round (r + 1) := by
  obtain ⟨⟨Y, Z, H, Q, sb, cb, se, ce, hi⟩, he, hn, hd⟩ := h
  obtain ⟨H1, Q1, sb1, se1, i1, _⟩ := hi.toS (-1) (by have := hi.upLe; omega)
  obtain ⟨Z2, H2, i2, _⟩ := answer_step i1
  have hall : MDone sums t.round (16 - (r + 1)) := by
    rcases Nat.eq_zero_or_pos r with h0 | h0
    · subst h0
      have h1 := round_done hi he
      have := hi.h16
      obtain ⟨Y', H', ce', i, c, l⟩ := h1.inv
      exact ⟨Y', H', ce', i, c, by omega⟩
    · have h1 := (hd h0).round
      obtain ⟨Y', H', ce', i, c, l⟩ := h1.inv
      exact ⟨Y', H', ce', i, c, by omega⟩
  refine ⟨⟨_, _, _, _, _, _, _, _, i1⟩, ⟨_, _, _, _, _, _, _, _, i2⟩, ?_, hall.ended, ?_, fun _ => hall⟩
  · obtain ⟨Y', H', ce', i, _⟩ := hall.inv
    exact ⟨_, _, _, _, _, _, _, _, i⟩
  · show ((t.toS (-1)).answer).asked.length ≤ _
    rw [answer_asked]
    exact hn
theorem RdAt.all {sums : Bool} {t : MS} {r : Nat} (h : RdAt sums t r) (hr : 16 ≤ r) : t.heard = t.asked.length ∧ t.got = t.asked.length ∧ t.c.closed = true ∧ t.s.closed = true := by
  have h1 := h.2.2.2 (by omega)
  rw [show 16 - r = 0 by omega] at h1
  exact h1.all
/-- the three, at the start -/
theorem tri_start {w W4 w5 : World} {V0 : CV} {sums : Bool} {C R P : Nat} (hT : WTabs w) (h2 : Two w.heap.size w w5 C V0 (cl0 sums) R (.slice none 0 0) (.slice none 0 0) (.slice none 0 0) sv0) (hP : P = w5.heap.size)
    (hW : W4 = w5.alloc (.cells #[.pointer (some ⟨C, 0, none⟩), .pointer (some ⟨R, 0, none⟩), .slice none 0 0, .slice none 0 0, .slice none 0 0, .int .i64 0, .int .i64 0, .bool false] 87)) :
    TriP w W4 P C R ⟨C, R, .slice none 0 0, .slice none 0 0, .slice none 0 0⟩ (ms0 sums) := by
  subst hW; subst hP
  have hb : Below w5.heap.size w5 (w5.alloc (.cells #[.pointer (some ⟨C, 0, none⟩), .pointer (some ⟨R, 0, none⟩), .slice none 0 0, .slice none 0 0, .slice none 0 0, .int .i64 0, .int .i64 0, .bool false] 87)) := (Below.refl _ _).alloc (Nat.le_refl _) _
  have hF : ∀ g, PK.F w5.heap.size ⟨C, R, .slice none 0 0, .slice none 0 0, .slice none 0 0⟩ (ms0 sums) g → g = w5.heap.size := fun g hg => by
    rcases hg with e | ⟨p, hp, hg⟩
    · exact e
    · simp only [PK, pkParts, List.mem_cons, List.not_mem_nil, or_false] at hp
      rcases hp with rfl | rfl | rfl <;> cases hg
  have hc := EK.F_lt h2.cx.at_
  have hs := SvF_lt h2.sx.sv
  refine ⟨V0, _, _, _, ⟨h2.below hb, ?_, rfl, rfl, fun g hg hg2 => ?_, fun g hg hg2 => ?_, fun g hg => ?_, hT.size⟩⟩
  · refine ⟨heap_alloc_new w5 _, fun p hp _ => ?_, fun p hp => ?_, ?_, fun p hp g hg => ?_⟩
    · simp only [PK, pkParts, List.mem_cons, List.not_mem_nil, or_false] at hp
      rcases hp with rfl | rfl | rfl <;> exact slab_nil _ _
    · simp only [PK, pkParts, List.mem_cons, List.not_mem_nil, or_false] at hp
      rcases hp with rfl | rfl | rfl <;> (intro e; cases e)
    · simp [PK, pkParts, apart, Value.ownBlock]
    · simp only [PK, pkParts, List.mem_cons, List.not_mem_nil, or_false] at hp
      rcases hp with rfl | rfl | rfl <;> cases hg
  · have e := hF g hg
    have := hc g hg2
    omega
  · have e := hF g hg
    have := hs g hg2
    omega
  · have e := hF g hg
    have := h2.size
    omega
theorem TriP.bl {w0 w : World} {P C R : Nat} {V : PV} {t : MS} (h : TriP w0 w P C R V t) : Below w0.heap.size w0 w := by obtain ⟨_, _, _, _, h⟩ := h; exact h.two.bl
theorem TriP.below {w0 w w' : World} {P C R : Nat} {V : PV} {t : MS} (h : TriP w0 w P C R V t) (hb : Below w.heap.size w w') : TriP w0 w' P C R V t := by
  obtain ⟨U, vi, vo, vh, h⟩ := h
  exact ⟨U, vi, vo, vh, ⟨h.two.below hb, StAt.below h.pk hb, h.vc, h.vr, h.ap1, h.ap2, h.pB, h.h5⟩⟩
theorem TriP.pk {w0 w : World} {P C R : Nat} {V : PV} {t : MS} (h : TriP w0 w P C R V t) : PK.At w P V t ∧ V.c = C ∧ V.r = R := by obtain ⟨_, _, _, _, h⟩ := h; exact ⟨h.pk, h.vc, h.vr⟩
theorem pOpenC {w0 w : World} {P C R : Nat} {V : PV} {t : MS} (h : TriP w0 w P C R V t) : Calls Tryd.prog 45 #[.pointer (some ⟨C, 0, none⟩)] w fun e w' => e = .returned (.bool (!t.c.closed)) ∧ w = w' := by
  obtain ⟨U, vi, vo, vh, h⟩ := h
  exact clOpen_c C U t.c w h.two.cx.at_
theorem pOpenS {w0 w : World} {P C R : Nat} {V : PV} {t : MS} (h : TriP w0 w P C R V t) : Calls Tryd.prog 32 #[.pointer (some ⟨R, 0, none⟩)] w fun e w' => e = .returned (.bool (!t.s.closed)) ∧ w = w' := by
  obtain ⟨U, vi, vo, vh, h⟩ := h
  exact (svOpen_c R vi vo vh t.s w h.two.sx.sv).mono (fun e w' h => ⟨h.1, h.2.symm⟩)
theorem mv2 {sums : Bool} {t : MS} (hi : MOk sums t) (body : ByteArray) (n : Int) {w0 w : World} {P C R : Nat} {V : PV} (h : TriP w0 w P C R V t) : Calls Tryd.prog 47 #[.pointer (some ⟨P, 0, none⟩), .agg #[.int .i64 2, .string body, .int .i64 n]] w (MovePost w0 P C R t.bye) := by
  obtain ⟨_, _, _, _, _, _, _, _, hi⟩ := hi
  exact moves2_c hi body n w0 w P C R V h
theorem mv3 {sums : Bool} {t : MS} (hi : MOk sums t) (body : ByteArray) (n : Int) {w0 w : World} {P C R : Nat} {V : PV} (h : TriP w0 w P C R V t) : Calls Tryd.prog 47 #[.pointer (some ⟨P, 0, none⟩), .agg #[.int .i64 3, .string body, .int .i64 n]] w (MovePost w0 P C R (t.toS n)) := by
  obtain ⟨_, _, _, _, _, _, _, _, hi⟩ := hi
  exact moves3_c hi body n w0 w P C R V h
theorem mv4 {sums : Bool} {t : MS} (hi : MOk sums t) (body : ByteArray) (n : Int) {w0 w : World} {P C R : Nat} {V : PV} (h : TriP w0 w P C R V t) : Calls Tryd.prog 47 #[.pointer (some ⟨P, 0, none⟩), .agg #[.int .i64 4, .string body, .int .i64 n]] w (MovePost w0 P C R (t.toC n)) := by
  obtain ⟨_, _, _, _, _, _, _, _, hi⟩ := hi
  exact moves4_c hi body n w0 w P C R V h
theorem mv5 {sums : Bool} {t : MS} (hi : MOk sums t) (body : ByteArray) (n : Int) {w0 w : World} {P C R : Nat} {V : PV} (h : TriP w0 w P C R V t) : Calls Tryd.prog 47 #[.pointer (some ⟨P, 0, none⟩), .agg #[.int .i64 5, .string body, .int .i64 n]] w (MovePost w0 P C R t.answer) := by
  obtain ⟨_, _, H, _, _, _, _, _, hi⟩ := hi
  cases H with
  | nil => exact moves5n_c hi body n w0 w P C R V h
  | cons b r => exact moves5_c hi body n w0 w P C R V h
set_option maxRecDepth 100000 in
set_option maxHeartbeats 16000000 in
theorem wireMeet_c (sums : Bool) (A : Option Addr) (c : Nat) (l : List MoveP) (hcm : l.length ≤ maxLen) (hw : movesW l ≤ 1048576) (w : World) (h : MovesIn w A l) (hT : WTabs w) :
    Calls Tryd.prog 9 #[.bool sums, .slice A l.length c] w fun r w' => r = .returned (.bool true) ∧ Below w.heap.size w w' := by
  have HT := Lib.hid hT
  have HA := Lib.hid h
  have hll := movesW_len l
  clear hT h
  unfold maxLen at hcm
  go_enter Tryd.func9, Tryd.ntmps9
  go_wp2
  go_loopw [5, 6] (fun s i wr => ∃ (k : Nat), k ≤ l.length ∧ i = .int .i64 k ∧ s = .int .i64 (bodiesM (l.take k) : Int) ∧ Hid (∀ j (hj : j < l.length), j < k → (l[j]).body.size ≤ 100000) ∧ w = wr) (fun _ i _ => l.length - (intOf i).toNat)
  case atStart => exact ⟨0, Nat.zero_le _, rfl, rfl, Lib.hid (fun j _ hj => absurd hj (by omega)), rfl⟩
  case round =>
    obtain ⟨k, hk, rfl, rfl, HBS, rfl⟩ := hrel
    by_cases hlt : k < l.length
    · obtain ⟨G, o, rfl, hr⟩ : ∃ G o, A = some ⟨G, o, none⟩ ∧ ∀ i (h : i < l.length), w.rangeAt G (o + i * 3) (moveV l[i]) := by
        rcases HA.out with h | h
        · rw [h] at hlt; simp at hlt
        · exact h
      have hc1 : w.cell? ⟨G, o + k * 3 + 1, none⟩ = some (.string (l[k]).body) := hr k hlt 1 _ rfl
      have hsn := bodiesM_snoc l k hlt
      have hle := bodiesM_le l (k + 1)
      have HS := Lib.hid hsn
      obtain ⟨b, hb⟩ : ∃ b, (l[k]).body = b := ⟨_, rfl⟩
      rw [hb] at hc1 hsn HS
      have HBB := Lib.hid hb
      obtain ⟨n0, hn0⟩ : ∃ n, bodiesM (l.take k) = n := ⟨_, rfl⟩
      rw [hn0] at hsn HS ⊢
      rw [hsn] at hle
      clear hr hb hn0 hsn
      by_cases hbig : 100000 < b.size
      · go_wp2
        go_ret
        exact ⟨rfl, Below.refl _ _⟩
      · have hbig2 : b.size ≤ 100000 := by omega
        go_wp2
        go_roundw
        case rel => exact ⟨k + 1, by omega, by go_num, by rw [HS.out]; go_num, Lib.hid (fun j hj hjk => by
          rcases Nat.lt_or_ge j k with e | e
          · exact HBS.out j hj e
          · obtain rfl : j = k := by omega
            rw [HBB.out]; exact hbig2), by first | rfl | trivial⟩
        case measure => simp [intOf]; omega
    · obtain rfl : k = l.length := by omega
      have HBA := Lib.hid (show ∀ j (hj : j < l.length), (l[j]).body.size ≤ 100000 from fun j hj => HBS.out j hj hj)
      have hle := bodiesM_le l l.length
      obtain ⟨n0, hn0⟩ : ∃ n, bodiesM (l.take l.length) = n := ⟨_, rfl⟩
      rw [hn0] at hle ⊢
      clear HBS hn0
      by_cases h300 : 300 < l.length
      · go_wp2
        go_ret
        exact ⟨rfl, Below.refl _ _⟩
      have h300' : l.length ≤ 300 := by omega
      go_wp2_with (first
        | (go_at_call 34; refine (newClient_c sums _).mono ?_; rintro e w1 ⟨U0, rfl, hs1, hb1, hf1⟩; have HS1 := Lib.hid (And.intro hs1 (And.intro hb1 hf1)); clear hs1 hb1 hf1)
        | (go_at_call 23; refine (newServer_c _).mono ?_; rintro e w2 ⟨rfl, hs2, hb2⟩; have HS2 := Lib.hid (And.intro hs2 hb2); clear hs2 hb2))
      have HP0 := Lib.hid (tri_start HT.out (two_start HT.out (Below.refl _ _) HS1.out.1 HS1.out.2.1 HS1.out.2.2 HS2.out.1 HS2.out.2) rfl rfl)
      clear HS1 HS2
      go_loopw [8] (fun i wr => ∃ (k : Nat) (t : MS) (V : PV), k ≤ l.length ∧ i = .int .i64 k ∧ Hid (TriP w wr w2.heap.size w.heap.size w1.heap.size V t) ∧ Hid (MOk sums t ∧ t.asked.length ≤ k)) (fun i _ => l.length - (intOf i).toNat)
      case atStart => exact ⟨0, ms0 sums, _, Nat.zero_le _, rfl, HP0, Lib.hid ⟨⟨_, _, _, _, _, _, _, _, ms0_inv sums⟩, Nat.le_refl 0⟩⟩
      case round =>
        obtain ⟨k, t, V, hk, rfl, HP, HOK⟩ := hrel
        clear HP0
        by_cases hlt : k < l.length
        · obtain ⟨G, o, rfl, hr⟩ : ∃ G o, A = some ⟨G, o, none⟩ ∧ ∀ i (h : i < l.length), w.rangeAt G (o + i * 3) (moveV l[i]) := by
            rcases HA.out with h | h
            · rw [h] at hlt; simp at hlt
            · exact h
          have hc := rangeAt_below (hr k hlt) HP.out.bl
          have a0 : wr.cell? ⟨G, o + k * 3, none⟩ = some (.int .i64 (l[k]).kind) := hc 0 _ rfl
          have a1 : wr.cell? ⟨G, o + k * 3 + 1, none⟩ = some (.string (l[k]).body) := hc 1 _ rfl
          have a2 : wr.cell? ⟨G, o + k * 3 + 2, none⟩ = some (.int .i64 (l[k]).n) := hc 2 _ rfl
          obtain ⟨hm1, hm2, hm3⟩ := moves_c HOK.out.1 l[k] (HBA.out k hlt) (by have := HOK.out.2; omega) w wr _ _ _ V HP.out
          have HOK2 := Lib.hid (show MOk sums (t.move l[k]) ∧ (t.move l[k]).asked.length ≤ k + 1 from ⟨hm1, by have := HOK.out.2; omega⟩)
          obtain ⟨t2, ht2⟩ : ∃ x, t.move l[k] = x := ⟨_, rfl⟩
          rw [ht2] at hm3 HOK2
          have HM := Lib.hid hm3
          clear hm1 hm2 hm3 hc hr ht2
          generalize (l[k]).kind = q0 at *
          generalize (l[k]).body = q1 at *
          generalize (l[k]).n = q2 at *
          clear HP HOK
          go_wp2_with fail
          refine HM.out.mono ?_; rintro e w3 ⟨rfl, V3, ht3⟩
          have HT3 := Lib.hid ht3
          clear ht3 HM a0 a1 a2
          go_wp2
          go_roundw
          case rel => exact ⟨k + 1, t2, V3, by omega, by go_num, HT3, HOK2⟩
          case measure => simp [intOf]; omega
        · obtain rfl : k = l.length := by omega
          have HM := Lib.hid (mv2 HOK.out.1 ⟨#[]⟩ 0 HP.out)
          have HRD := Lib.hid (show RdAt sums t.bye 0 from ⟨by obtain ⟨_, _, _, _, _, _, _, _, hi⟩ := HOK.out.1; exact ⟨_, _, _, _, _, _, _, _, hi.bye⟩, rfl, by have := HOK.out.2; show t.asked.length ≤ _; omega, fun h => absurd h (by omega)⟩)
          clear HP HOK
          go_wp2_with fail
          refine HM.out.mono ?_; rintro e w3 ⟨rfl, V3, ht3⟩
          have HT3 := Lib.hid ht3
          clear ht3 HM
          go_wp2
          go_loopw [9] (fun i wr => ∃ (r : Nat) (t : MS) (V : PV), r ≤ 60 ∧ i = .int .i64 r ∧ Hid (TriP w wr w2.heap.size w.heap.size w1.heap.size V t) ∧ Hid (RdAt sums t r)) (fun i _ => 60 - (intOf i).toNat)
          case atStart => exact ⟨0, _, _, Nat.zero_le _, rfl, HT3, HRD⟩
          case round =>
            clear HRD HT3
            obtain ⟨r, t, V, hr, rfl, HP, HRD⟩ := hrel
            by_cases hlt : r < 60
            · have HM1 := Lib.hid (mv3 HRD.out.1 ⟨#[]⟩ (-1) HP.out)
              have HG := Lib.hid HRD.out.round
              clear HP HRD
              go_wp2_with fail
              refine HM1.out.mono ?_; rintro e w4 ⟨rfl, V4, ht4⟩
              have HM2 := Lib.hid (mv5 HG.out.1 ⟨#[]⟩ 0 ht4)
              clear ht4 HM1
              go_wp2_with fail
              refine HM2.out.mono ?_; rintro e w5 ⟨rfl, V5, ht5⟩
              have HM3 := Lib.hid (show Calls Tryd.prog 47 #[.pointer (some ⟨w2.heap.size, 0, none⟩), .agg #[.int .i64 4, .string ⟨#[]⟩, .int .i64 (-1)]] w5 (MovePost w w2.heap.size w.heap.size w1.heap.size t.round) from mv4 HG.out.2.1 ⟨#[]⟩ (-1) ht5)
              clear ht5 HM2
              go_wp2_with fail
              refine HM3.out.mono ?_; rintro e w6 ⟨rfl, V6, ht6⟩
              have HT6 := Lib.hid ht6
              have HG6 := Lib.hid HG.out.2.2
              clear ht6 HM3 HG
              go_wp2
              go_roundw
              case rel => exact ⟨r + 1, _, V6, by omega, by go_num, HT6, HG6⟩
              case measure => simp [intOf]; omega
            · obtain ⟨g1, g2, g3, g4⟩ := HRD.out.all (by omega)
              have HPK := Lib.hid HP.out.pk
              obtain ⟨Aa, ca, hva, _⟩ := Slab.form (pk_asked HPK.out.1)
              obtain ⟨N, hN⟩ : ∃ x, t.asked.length = x := ⟨_, rfl⟩
              rw [hN] at g1 g2 hva
              have p0 : wr.cell? ⟨w2.heap.size, 0, none⟩ = some (.pointer (some ⟨w.heap.size, 0, none⟩)) := by have h := (pk_cells HPK.out.1).1.1; rw [HPK.out.2.1] at h; exact h
              have p1 : wr.cell? ⟨w2.heap.size, 1, none⟩ = some (.pointer (some ⟨w1.heap.size, 0, none⟩)) := by have h := (pk_cells HPK.out.1).1.2.1; rw [HPK.out.2.2] at h; exact h
              have p4 : wr.cell? ⟨w2.heap.size, 4, none⟩ = some (.slice Aa N ca) := by have h := (pk_cells HPK.out.1).1.2.2.2.2.1; rw [hva] at h; exact h
              have p5 : wr.cell? ⟨w2.heap.size, 5, none⟩ = some (.int .i64 (N : Int)) := by have h := (pk_cells HPK.out.1).1.2.2.2.2.2.1; rw [g1] at h; exact h
              have p6 : wr.cell? ⟨w2.heap.size, 6, none⟩ = some (.int .i64 (N : Int)) := by have h := (pk_cells HPK.out.1).1.2.2.2.2.2.2.1; rw [g2] at h; exact h
              have HO1 := Lib.hid (fun (d : Nat) (os : Array Obj) => Calls.regrown_of (w := wr) (d := d) (os := os) ((pOpenC (HP.out.below (below_regrown wr d os))).mono (R' := fun e w' => e = .returned (.bool false) ∧ Below (Sort.grow (redrawn wr d) os).heap.size (Sort.grow (redrawn wr d) os) w') (fun e w' h => ⟨by have h1 := h.1; rw [g3] at h1; exact h1, by rw [← h.2]; exact Below.refl _ _⟩)))
              have HO2 := Lib.hid (fun (d : Nat) (os : Array Obj) => Calls.regrown_of (w := wr) (d := d) (os := os) ((pOpenS (HP.out.below (below_regrown wr d os))).mono (R' := fun e w' => e = .returned (.bool false) ∧ Below (Sort.grow (redrawn wr d) os).heap.size (Sort.grow (redrawn wr d) os) w') (fun e w' h => ⟨by have h1 := h.1; rw [g4] at h1; exact h1, by rw [← h.2]; exact Below.refl _ _⟩)))
              have HL := Lib.hid (fun (d : Nat) (os : Array Obj) => Calls.regrown_of (w := wr) (d := d) (os := os) (live_c _ (HT.out.below (HP.out.below (below_regrown wr d os)).bl)))
              have HBL := Lib.hid HP.out.bl
              have k0 := cell_regrown p0
              have k1 := cell_regrown p1
              have k4 := cell_regrown p4
              have k5 := cell_regrown p5
              have k6 := cell_regrown p6
              clear g1 g2 g3 g4 HPK hva hN HRD HP
              go_wp2
              refine wp_region_quiet_below (by kernel_rfl) (by kernel_rfl) ?_
              repeat (go_big_quiet_step ((first | (go_at_call 45; exact HO1.out _ _) | (go_at_call 32; exact HO2.out _ _) | (go_at_call 12; exact HL.out _ _))))
              refine wpQuiet_nil ?_
              intro _ hw'
              obtain ⟨⟨dq, osq⟩, hw''⟩ := hw'
              subst hw''
              go_wp2
              go_ret
              exact ⟨rfl, HBL.out.trans ((below_regrown wr dq osq).mono HBL.out.size)⟩
end Go.Proofs.YtkpickojeghppaaDoor
