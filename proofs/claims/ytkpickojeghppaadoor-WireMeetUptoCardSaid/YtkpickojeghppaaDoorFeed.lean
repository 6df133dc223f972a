/- The walk of the server Feed. Conditions: what the laws name. -/
import Derived.Test.YtkpickojeghppaaDoorWans
namespace Go.Proofs.YtkpickojeghppaaDoor
def Sv.feedE : Nat → Sv → Sv × Nat
  | 0, s => (s, 0)
  | n + 1, s => if s.closed || s.ending then (s, 0) else
    match unpack s.inp with
    | .bad e => if e = 3 then (s, 0) else (s, e)
    | .ok m k => if (({ s with inp := s.inp.drop k } : Sv).take m).2 = 0 then Sv.feedE n (({ s with inp := s.inp.drop k } : Sv).take m).1 else ({ s with inp := s.inp.drop k } : Sv).take m
theorem whole_bad (l : List UInt8) (n e : Nat) (h : whole l n = .bad e) : 280 ≤ e ∧ e ≤ 283 := by
  unfold whole at h
  repeat' (split at h)
  all_goals (first | (injection h with h; omega) | cases h)
theorem unpack_err (l : List UInt8) (e : Nat) (h : unpack l = .bad e) : 1 ≤ e ∧ e ≤ 283 := by
  unfold unpack at h
  repeat' (split at h)
  all_goals (first | (injection h with h; omega) | (have := whole_bad _ _ _ h; omega))
theorem loop_eq : ∀ (n : Nat) (s : Sv), Sv.loop n s = (s.feedE n).1.failed (s.feedE n).2
  | 0, s => by simp [Sv.loop, Sv.feedE, Sv.failed]
  | n + 1, s => by
    rw [Sv.loop, Sv.feedE]
    split
    · simp [Sv.failed]
    · cases hu : unpack s.inp with
      | bad e =>
        simp only
        split
        · simp [Sv.failed]
        · have := unpack_err _ _ hu
          exact (if_neg (by show ¬ e = 0; omega)).symm
      | ok m k =>
        simp only
        split
        · exact loop_eq n _
        · rename_i h
          exact (if_neg h).symm
/-- what is read: a message, and how many bytes it had -/
theorem unpack_ok (l : List UInt8) (hl : l.length ≤ 9223372036854770000) (m : WMsg) (k : Nat) (h : unpack l = .ok m k) : MsgOk m ∧ 24 ≤ k ∧ k ≤ l.length := by
  have hb : ∀ a b, (bodyOf l a b).size ≤ l.length := fun a b => by
    show (((l.take b).drop a).toArray).size ≤ _
    simp; omega
  have key : ∀ b sm, MsgOk ⟨numb l 8, numb l 12, numb l 16, bodyOf l 24 b, sm⟩ := fun b sm =>
    ⟨numb_lt _ _, numb_lt _ _, by have := numb_lt l 16; show _ ≤ ((numb l 16 : Nat) : Int); omega, by have := numb_lt l 16; show ((numb l 16 : Nat) : Int) ≤ _; omega, Nat.le_trans (hb _ _) hl⟩
  unfold unpack at h
  repeat' (split at h)
  all_goals (first | cases h | skip)
  unfold whole at h
  repeat' (split at h)
  all_goals (first | cases h | skip)
  all_goals exact ⟨key _ _, by omega, by omega⟩
theorem parts_ok (s : Sv) (hok : s.Ok) : s.parts.Ok ∧ s.parts.out.length ≤ s.out.length + 131072 ∧ s.parts.inp = s.inp := by
  unfold Sv.parts
  split
  · exact ⟨⟨hok.bye, hok.held, hok.ids⟩, send_out s _, rfl⟩
  · exact ⟨hok, by omega, rfl⟩
/-- what a message leaves -/
theorem take_ok (s : Sv) (m : WMsg) (hok : s.Ok) (hm : MsgOk m) : (s.take m).1.Ok ∧ (s.take m).1.out.length ≤ s.out.length + 131072 ∧ (s.take m).1.inp = s.inp ∧ (s.take m).2 ≤ 284 := by
  unfold Sv.take
  split
  · split
    · exact ⟨hok, by simp, rfl, by simp⟩
    · exact ⟨⟨hok.bye, hok.held, hok.ids⟩, send_out { s with sums := m.sum, began := true } _, rfl, by have := packE_le ((msgTo m.id 2 m.body).summed m.sum); simp only; omega⟩
  · split
    · split
      · exact ⟨hok, by simp, rfl, by simp⟩
      · split
        · exact ⟨hok, by simp, rfl, by simp⟩
        · refine ⟨⟨hok.bye, by simp; omega, fun x hx => ?_⟩, by simp, rfl, by simp⟩
          rcases List.mem_append.1 hx with h | h
          · exact hok.ids x h
          · rw [List.mem_singleton.1 h]; exact hm.1
    · split
      · have := parts_ok { s with bye := m.id, ending := true } ⟨hm.1, hok.held, hok.ids⟩
        exact ⟨this.1, this.2.1, this.2.2, by simp⟩
      · exact ⟨hok, by simp, rfl, by simp⟩
end Go.Proofs.YtkpickojeghppaaDoor
namespace Go.Proofs.YtkpickojeghppaaDoor
open Go.RowKit
def lenOf : Option Value → Nat
  | some (.slice _ n _) => n
  | _ => 0
/-- how much is left to read -/
def leftW (R : Nat) (w : World) : Nat := match w.cell? ⟨R, 2, none⟩, w.cell? ⟨R, 3, none⟩ with
  | some (.bool true), some (.bool false) => lenOf (w.cell? ⟨R, 0, none⟩) + 1
  | _, _ => 0
theorem leftW_lt {R : Nat} {w : World} {vi vo vh : Value} {s : Sv} (h : SvAt w R vi vo vh s) (n : Nat) (hn : s.inp.length < n) : leftW R w < n + 1 := by
  unfold leftW
  obtain ⟨⟨c0, _, c2, c3, _⟩, _⟩ := h.cells
  rw [c2, c3, c0]
  split
  · rename_i h1 h2
    injection h1 with h1; injection h1 with h1
    injection h2 with h2; injection h2 with h2
    obtain ⟨A, cap, rfl, _⟩ := (h.sin (by simpa using h1) h2).form
    simp only [lenOf]
    omega
  · omega
/-- what came is other -/
theorem SvAt.came {w w1 : World} {R : Nat} {vi vo vh vi' : Value} {s : Sv} (h : SvAt w R vi vo vh s) (ht : Turn (fun g => vi.ownBlock = some g) w w1) (hn : ∀ g, vi'.ownBlock = some g → vi.ownBlock = some g ∨ w.heap.size ≤ g) (p : List UInt8) (hs : BSlab w1 vi' p) :
    SvAt (w1.setCell ⟨R, 0, none⟩ vi') R vi' vo vh { s with inp := p } ∧ Turn (SvF R vi vo vh) w (w1.setCell ⟨R, 0, none⟩ vi') ∧ ∀ g, SvF R vi' vo vh g → SvF R vi vo vh g ∨ w.heap.size ≤ g := by
  have hR := h.lt
  have hb1 : w1.heap[R]? = some (.cells (svCells R vi vo vh s) 101 (0, 0)) := ht.obj h.blk (fun e => h.nR.1 e)
  have ht1 : Turn (fun g => g = R ∨ vi.ownBlock = some g) w (w1.setCell ⟨R, 0, none⟩ vi') := (ht.weak (fun g hg => .inr hg)).set (g := R) (.inl (.inl rfl)) 0 vi'
  have hneR : ∀ g, vi'.ownBlock = some g → g ≠ R := fun g hg e => by
    subst e
    rcases hn g hg with e | e
    · exact h.nR.1 e
    · omega
  refine ⟨⟨heap_setCell_same _ R 0 _ _ vi' hb1, fun _ _ => Slab.same hs (fun g hg => heap_setCell_other _ _ _ _ (hneR g hg)), Slab.turn h.sout ht1 (fun g hg e => ?_), Slab.turn h.sheld ht1 (fun g hg e => ?_), ⟨fun e => hneR R e rfl, h.nR.2.1, h.nR.2.2⟩, fun g hg => ⟨(h.ap g hg).1, fun e => ?_⟩, fun g hg e => ?_, fun g hg => by have := Slab.lt hs hg; simpa using this⟩, ht1.weak (fun g hg => hg.elim .inl (fun e => .inr (.inl e))), fun g hg => ?_⟩
  · rcases e with e | e
    · exact h.nR.2.1 (by rw [← e]; exact hg)
    · exact (h.ap g hg).2 e
  · rcases e with e | e
    · exact h.nR.2.2 (by rw [← e]; exact hg)
    · exact h.ap2 g hg e
  · rcases hn g e with e | e
    · exact (h.ap g hg).2 e
    · have := Slab.lt h.sout hg; omega
  · rcases hn g e with e | e
    · exact h.ap2 g hg e
    · have := Slab.lt h.sheld hg; omega
  · rcases hg with hg | hg | hg | hg
    · exact .inl (.inl hg)
    · exact (hn g hg).imp (fun e => .inr (.inl e)) (fun e => e)
    · exact .inl (.inr (.inr (.inl hg)))
    · exact .inl (.inr (.inr (.inr hg)))
theorem feedE_stop (n : Nat) (s : Sv) (h : (s.closed || s.ending) = true) : s.feedE n = (s, 0) := by
  cases n with
  | zero => rfl
  | succ n => rw [Sv.feedE, if_pos h]
/-- what holds at the loop's head -/
structure FdAt (w : World) (R : Nat) (vi vo vh : Value) (w0 : World) (vi0 vo0 vh0 : Value) (s0 : Sv) (n0 : Nat) (s : Sv) (n : Nat) : Prop where
  x : SvX w R vi vo vh s
  turn : Turn (SvF R vi0 vo0 vh0) w0 w
  new : ∀ g, SvF R vi vo vh g → SvF R vi0 vo0 vh0 g ∨ w0.heap.size ≤ g
  fuel : s.inp.length < n
  same : s.feedE n = s0.feedE n0
  ok : s.Ok
  room : 24 * s.out.length + 131072 * s.inp.length ≤ 3298534883328
theorem FdAt.post {w : World} {R : Nat} {vi vo vh : Value} {w0 : World} {vi0 vo0 vh0 : Value} {s0 : Sv} {n0 : Nat} {s : Sv} {n : Nat} (h : FdAt w R vi vo vh w0 vi0 vo0 vh0 s0 n0 s n) {s2 : Sv} {e : Nat} (he : s.feedE n = (s2, e)) {vi' vo' vh' : Value} {w' : World} (h2 : SvAt w' R vi' vo' vh' s2) (ht : Turn (SvF R vi vo vh) w w') (hn : ∀ g, SvF R vi' vo' vh' g → SvF R vi vo vh g ∨ w.heap.size ≤ g) :
    SvPost R vi0 vo0 vh0 w0 (s0.feedE n0).1 (.int .i64 ((s0.feedE n0).2 : Int)) (.returned (.int .i64 (e : Int))) w' := by
  rw [← h.same, he]
  exact SvPost.seq h.turn h.new ⟨vi', vo', vh', rfl, h2, ht, hn⟩
end Go.Proofs.YtkpickojeghppaaDoor
namespace Go.Proofs.YtkpickojeghppaaDoor
open Go.RowKit
theorem feedE_bad (n : Nat) (s : Sv) (e : Nat) (h : ¬ (s.closed || s.ending) = true) (hu : unpack s.inp = .bad e) : s.feedE (n + 1) = if e = 3 then (s, 0) else (s, e) := by rw [Sv.feedE, if_neg h, hu]
theorem feedE_ok (n : Nat) (s : Sv) (m : WMsg) (k : Nat) (h : ¬ (s.closed || s.ending) = true) (hu : unpack s.inp = .ok m k) : s.feedE (n + 1) = if (({ s with inp := s.inp.drop k } : Sv).take m).2 = 0 then Sv.feedE n (({ s with inp := s.inp.drop k } : Sv).take m).1 else ({ s with inp := s.inp.drop k } : Sv).take m := by rw [Sv.feedE, if_neg h, hu]
theorem take_c (R : Nat) (vi vo vh : Value) (s : Sv) (hc : s.closed = false) (he : s.ending = false) (hok : s.Ok) (m : WMsg) (hm : MsgOk m) (hlen : s.out.length ≤ 274877906944) (w : World) (h : SvAt w R vi vo vh s) :
    Calls Tryd.prog (if s.began then 73 else 54) #[.pointer (some ⟨R, 0, none⟩), .agg (msgV m).toArray] w (SvPost R vi vo vh w (s.take m).1 (.int .i64 ((s.take m).2 : Int))) := by
  cases hb : s.began with
  | true => exact later_c R vi vo vh s hb m hm hlen (by have := hok.held; omega) w h
  | false => exact hello_c R vi vo vh s hb hc he m hm hlen w h
theorem BSlab.tail {w : World} {G o o2 cap k : Nat} {l : List UInt8} (h : BSlab w (.slice (some ⟨G, o, none⟩) l.length cap) l) (hk : k ≤ l.length) (hp : o2 = o + k ∨ cap - k = 0) : BSlab w (.slice (some ⟨G, o2, none⟩) (l.length - k) (cap - k)) (l.drop k) := by
  have := Slab.tail h k hk (o2 := o2) (by simpa using hp)
  unfold BSlab
  rw [List.length_drop, bytesV, List.map_drop]
  rw [Nat.mul_one] at this
  exact this
/-- behind a message: what came is shorter; the message is taken -/
theorem fed_c {R : Nat} {vo vh : Value} {w0 : World} {vi0 vo0 vh0 : Value} {s0 s : Sv} {n0 n G o cap : Nat} {w : World} (HF : FdAt w R (.slice (some ⟨G, o, none⟩) s.inp.length cap) vo vh w0 vi0 vo0 vh0 s0 n0 s (n + 1)) (hc : s.closed = false) (he : s.ending = false) {w2 : World} (hb : Below w.heap.size w w2) (m : WMsg) (hm : MsgOk m) (k : Nat) (hk : k ≤ s.inp.length) (o2 c2 : Nat) (hc2 : c2 = cap - k) (hp : o2 = o + k ∨ cap - k = 0) (W3 : World) (hbq : Below (w2.setCell ⟨R, 0, none⟩ (.slice (some ⟨G, o2, none⟩) (s.inp.length - k) c2)).heap.size (w2.setCell ⟨R, 0, none⟩ (.slice (some ⟨G, o2, none⟩) (s.inp.length - k) c2)) W3) :
    Calls Tryd.prog (if s.began then 73 else 54) #[.pointer (some ⟨R, 0, none⟩), .agg (msgV m).toArray] W3 (fun e w3 => ∃ vi3 vo3 vh3, e = .returned (.int .i64 ((({ s with inp := s.inp.drop k } : Sv).take m).2 : Int)) ∧ Hid (SvX w3 R vi3 vo3 vh3 (({ s with inp := s.inp.drop k } : Sv).take m).1) ∧ Hid (Turn (SvF R vi0 vo0 vh0) w0 w3) ∧ Hid (∀ g, SvF R vi3 vo3 vh3 g → SvF R vi0 vo0 vh0 g ∨ w0.heap.size ≤ g)) := by
  subst hc2
  have h2 := HF.x.below hb
  have hs := BSlab.tail (h2.sv.sin hc he) hk hp
  obtain ⟨h3, ht3, hn3⟩ := h2.sv.came (Turn.refl _ _) (vi' := .slice (some ⟨G, o2, none⟩) (s.inp.length - k) (cap - k)) (fun g hg => .inl hg) _ hs
  have hx3 := h2.of h3 ht3 hn3
  have hx4 := hx3.below hbq
  refine (take_c R _ vo vh { s with inp := s.inp.drop k } hc he ⟨HF.ok.bye, HF.ok.held, HF.ok.ids⟩ m hm (by have := HF.room; show s.out.length ≤ _; omega) _ hx4.sv).mono ?_
  rintro e w3 ⟨vi3, vo3, vh3, he3, h5, ht5, hn5⟩
  have hT : Turn (SvF R vi0 vo0 vh0) w0 W3 :=
    (HF.turn.trans ((((Turn.of_below hb).trans (ht3.weak (fun g hg => .inl hg))).trans (Turn.of_below hbq)).weak HF.new))
  have hN : ∀ g, SvF R (.slice (some ⟨G, o2, none⟩) (s.inp.length - k) (cap - k)) vo vh g → SvF R vi0 vo0 vh0 g ∨ w0.heap.size ≤ g := fun g hg => HF.new g hg
  obtain ⟨a1, a2, a3, a4, a5, a6, a7⟩ := SvPost.seq hT hN ⟨vi3, vo3, vh3, he3, h5, ht5, hn5⟩
  exact ⟨vi3, vo3, vh3, he3, Lib.hid (hx4.of h5 ht5 hn5), Lib.hid (hT.trans (ht5.weak hN)), Lib.hid (fun g hg => (hn5 g hg).elim (hN g) (fun e => .inr (Nat.le_trans hT.size e)))⟩
theorem leftW_eq {R : Nat} {w : World} {vi vo vh : Value} {s : Sv} (h : SvAt w R vi vo vh s) (hc : s.closed = false) (he : s.ending = false) : leftW R w = s.inp.length + 1 := by
  unfold leftW
  obtain ⟨⟨c0, _, c2, c3, _⟩, _⟩ := h.cells
  rw [c2, c3, c0, hc, he]
  obtain ⟨A, cap, rfl, _⟩ := (h.sin hc he).form
  rfl
/-- a message more has been taken -/
theorem FdAt.next {w : World} {R : Nat} {vi vo vh : Value} {w0 : World} {vi0 vo0 vh0 : Value} {s0 : Sv} {n0 : Nat} {s : Sv} {n : Nat} (h : FdAt w R vi vo vh w0 vi0 vo0 vh0 s0 n0 s (n + 1)) (hc : s.closed = false) (he : s.ending = false) {m : WMsg} {k : Nat} (hu : unpack s.inp = .ok m k) {s4 : Sv} (ht4 : ({ s with inp := s.inp.drop k } : Sv).take m = (s4, 0)) {vi3 vo3 vh3 : Value} {w3 : World} (hx : SvX w3 R vi3 vo3 vh3 s4) (ht : Turn (SvF R vi0 vo0 vh0) w0 w3) (hn : ∀ g, SvF R vi3 vo3 vh3 g → SvF R vi0 vo0 vh0 g ∨ w0.heap.size ≤ g) :
    FdAt w3 R vi3 vo3 vh3 w0 vi0 vo0 vh0 s0 n0 s4 n ∧ leftW R w3 < leftW R w := by
  have hr := h.room
  obtain ⟨hm, hk, hkl⟩ := unpack_ok s.inp (by omega) m k hu
  obtain ⟨a1, a2, a3, a4⟩ := take_ok { s with inp := s.inp.drop k } m ⟨h.ok.bye, h.ok.held, h.ok.ids⟩ hm
  rw [ht4] at a1 a2 a3
  simp only at a1 a2 a3
  have hl : s4.inp.length = s.inp.length - k := by rw [a3, List.length_drop]
  have hf := h.fuel
  refine ⟨⟨hx, ht, hn, by omega, ?_, a1, by omega⟩, ?_⟩
  · rw [← h.same, feedE_ok n s m k (by rw [hc, he]; decide) hu, ht4]; rfl
  · rw [leftW_eq h.x.sv hc he]
    exact leftW_lt hx.sv s.inp.length (by omega)
theorem FdAt.halt {w : World} {R : Nat} {vi vo vh : Value} {w0 : World} {vi0 vo0 vh0 : Value} {s0 : Sv} {n0 : Nat} {s : Sv} {n : Nat} (h : FdAt w R vi vo vh w0 vi0 vo0 vh0 s0 n0 s (n + 1)) (hc : s.closed = false) (he : s.ending = false) {m : WMsg} {k : Nat} (hu : unpack s.inp = .ok m k) {s4 : Sv} {e4 : Nat} (ht4 : ({ s with inp := s.inp.drop k } : Sv).take m = (s4, e4)) (h4 : e4 ≠ 0) {vi3 vo3 vh3 : Value} {w3 : World} (hx : SvX w3 R vi3 vo3 vh3 s4) (ht : Turn (SvF R vi0 vo0 vh0) w0 w3) (hn : ∀ g, SvF R vi3 vo3 vh3 g → SvF R vi0 vo0 vh0 g ∨ w0.heap.size ≤ g) :
    SvPost R vi0 vo0 vh0 w0 (s0.feedE n0).1 (.int .i64 ((s0.feedE n0).2 : Int)) (.returned (.int .i64 (e4 : Int))) w3 := by
  have : s0.feedE n0 = (s4, e4) := by rw [← h.same, feedE_ok n s m k (by rw [hc, he]; decide) hu, ht4]; exact if_neg h4
  rw [this]
  exact ⟨vi3, vo3, vh3, rfl, hx.sv, ht, hn⟩
set_option maxRecDepth 20000 in
set_option maxHeartbeats 8000000 in
theorem feed_c (R : Nat) (vi vo vh : Value) (s : Sv) (hok : s.Ok) (pv : Value) (p : List UInt8) (w : World) (hp : Src Tryd.prog 1 28 pv p.length (bytesV p) w) (hroom : 24 * s.out.length + 131072 * (s.inp.length + p.length) ≤ 3298534883328) (hc : s.closed = false) (he : s.ending = false) (h : SvX w R vi vo vh s) :
    Calls Tryd.prog 56 #[.pointer (some ⟨R, 0, none⟩), pv] w (SvPost R vi vo vh w (Sv.feedE ((s.inp ++ p).length + 1) { s with inp := s.inp ++ p }).1 (.int .i64 ((Sv.feedE ((s.inp ++ p).length + 1) { s with inp := s.inp ++ p }).2 : Int))) := by
  obtain ⟨⟨c0, _, c2, c3, _⟩, hf⟩ := h.sv.cells
  have f0 := hf 0
  rw [hc] at c2
  rw [he] at c3
  have hin := h.sv.sin hc he
  have HI := Lib.hid hin
  have HP := Lib.hid hp
  have H := Lib.hid h
  have HOK := Lib.hid hok
  clear h hp hf hin hok
  go_enter Tryd.func56, Tryd.ntmps56
  go_wp2_with (at_builtin; refine wpList_slab bytTy 28 (by rfl) _ _ (by rfl) vi s.inp.length (bytesV s.inp) (by rfl) HI.out pv (by rfl) p.length (bytesV p) HP.out (by unfold maxLen; omega) (by omega) ?_; intro v2 w2 hs2 hu2; have hS2 : BSlab w2 v2 (s.inp ++ p) := (by unfold BSlab; rw [bytesV_append, List.length_append]; exact hs2); have ht2 : Turn (fun g => vi.ownBlock = some g) w w2 := (Turn.refl _ w).upd hu2 (fun g hg => .inl hg); have hn2 : ∀ g, v2.ownBlock = some g → vi.ownBlock = some g ∨ w.heap.size ≤ g := (fun g hg => hu2.own.elim (fun e => .inl (by rw [← e]; exact hg)) (fun ⟨q, e, hq⟩ => .inr (by rw [e] at hg; rw [← Option.some.inj hg]; exact hq))); have HC := Lib.hid (H.out.sv.came ht2 hn2 (s.inp ++ p) hS2); have hb2 := ht2.obj H.out.sv.blk (fun e => H.out.sv.nR.1 e); have d0 := cell_of_row _ _ 0 _ _ _ hb2; have e0 := frozen_of_row _ _ 0 _ _ hb2; obtain ⟨A2, cap2, hv2, hc21, hc22, _⟩ := Slab.form hs2; subst hv2; clear hs2 hu2 hS2 ht2 hn2 hb2)
  have HF0 := Lib.hid (show FdAt (w2.setCell ⟨R, 0, none⟩ (.slice A2 (s.inp.length + p.length) cap2)) R (.slice A2 (s.inp.length + p.length) cap2) vo vh w vi vo vh { s with inp := s.inp ++ p } ((s.inp ++ p).length + 1) { s with inp := s.inp ++ p } ((s.inp ++ p).length + 1) from
    ⟨H.out.of HC.out.1 HC.out.2.1 HC.out.2.2, HC.out.2.1, HC.out.2.2, Nat.lt_succ_self _, rfl, ⟨HOK.out.bye, HOK.out.held, HOK.out.ids⟩, by show 24 * s.out.length + 131072 * (s.inp ++ p).length ≤ _; rw [List.length_append]; exact hroom⟩)
  clear HC d0 e0 c0 c2 c3 f0
  go_loopw [5, 6, 7, 8] (fun _ _ _ _ wr => ∃ (s' : Sv) (n : Nat) (vi' vo' vh' : Value), Hid (FdAt wr R vi' vo' vh' w vi vo vh { s with inp := s.inp ++ p } ((s.inp ++ p).length + 1) s' n)) (fun _ _ _ _ wr => leftW R wr)
  case atStart => exact ⟨_, _, _, _, _, HF0⟩
  case round =>
    obtain ⟨s', n, vi', vo', vh', HF⟩ := hrel
    obtain ⟨⟨c0, _, c2, c3, _, _, c6, _⟩, hf⟩ := HF.out.x.sv.cells
    have f0 := hf 0
    clear hf
    by_cases hst : (s'.closed || s'.ending) = true
    · have HE := Lib.hid (feedE_stop n s' hst)
      cases hcl : s'.closed with
      | true =>
        rw [hcl] at c2
        go_wp2
        go_ret
        exact HF.out.post HE.out HF.out.x.sv (Turn.refl _ _) (fun _ hg => .inl hg)
      | false =>
        have hen : s'.ending = true := by rw [hcl] at hst; exact hst
        rw [hcl] at c2
        rw [hen] at c3
        go_wp2
        go_ret
        exact HF.out.post HE.out HF.out.x.sv (Turn.refl _ _) (fun _ hg => .inl hg)
    · have hcl : s'.closed = false := by cases h : s'.closed with | false => rfl | true => rw [h] at hst; exact absurd rfl hst
      have hen : s'.ending = false := by cases h : s'.ending with | false => rfl | true => rw [h, Bool.or_true] at hst; exact absurd rfl hst
      rw [hcl] at c2
      rw [hen] at c3
      obtain ⟨A3, cap3, rfl, hc31, hc32, hB⟩ := (HF.out.x.sv.sin hcl hen).bytes
      have hil : s'.inp.length ≤ 1099511627776 := by have := HF.out.room; omega
      have hU := unpack_c A3 cap3 s'.inp hil hc31 wr hB
      obtain ⟨n, rfl⟩ : ∃ k, n = k + 1 := ⟨n - 1, by have := HF.out.fuel; omega⟩
      cases hu : unpack s'.inp with
      | bad ee =>
        rw [hu] at hU
        have HE := Lib.hid (feedE_bad n s' ee hst hu)
        have hU' : Calls Tryd.prog 15 #[.slice A3 s'.inp.length cap3] wr (fun e w' => e = .returned (.tuple #[.agg #[.int .u32 0, .int .u32 0, .int .i64 0, .string ⟨#[]⟩, .bool false], .int .i64 0, .int .i64 (ee : Int)]) ∧ Below wr.heap.size wr w') := hU
        have HU := Lib.hid hU'
        clear hU hU' hB f0
        by_cases h3 : ee = 3
        · have HE3 := Lib.hid (HE.out.trans (if_pos h3))
          subst h3
          go_wp2_with fail
          refine HU.out.mono ?_; rintro e w2 ⟨rfl, hb2⟩
          have HB2 := Lib.hid hb2
          clear hb2
          go_wp2
          go_ret
          exact HF.out.post HE3.out (HF.out.x.sv.below (HB2.out.alloc HB2.out.size _)) (Turn.of_below (HB2.out.alloc HB2.out.size _)) (fun _ hg => .inl hg)
        · have HE3 := Lib.hid (HE.out.trans (if_neg h3))
          have k3 : ((ee : Int) == 3) = false := by rw [beq_eq_false_iff_ne]; omega
          have k0 : ((ee : Int) != 0) = true := by have := (unpack_err _ _ hu).1; rw [bne_iff_ne]; omega
          clear hu
          go_wp2_with fail
          refine HU.out.mono ?_; rintro e w2 ⟨rfl, hb2⟩
          have HB2 := Lib.hid hb2
          clear hb2
          go_wp2
          go_ret
          exact HF.out.post HE3.out (HF.out.x.sv.below (HB2.out.alloc HB2.out.size _)) (Turn.of_below (HB2.out.alloc HB2.out.size _)) (fun _ hg => .inl hg)
      | ok m k =>
        rw [hu] at hU
        obtain ⟨hm, hk24, hkl⟩ := unpack_ok s'.inp (by omega) m k hu
        have HUP := Lib.hid hu
        obtain ⟨mid, mto, mkind, mbody, msm⟩ := m
        have hU' : Calls Tryd.prog 15 #[.slice A3 s'.inp.length cap3] wr (fun e w' => e = .returned (.tuple #[.agg #[.int .u32 (mid : Int), .int .u32 (mto : Int), .int .i64 mkind, .string mbody, .bool msm], .int .i64 (k : Int), .int .i64 0]) ∧ Below wr.heap.size wr w') := hU
        have HU := Lib.hid hU'
        have HM := Lib.hid hm
        have HST := Lib.hid hst
        obtain ⟨G, o, rfl⟩ : ∃ G o, A3 = some ⟨G, o, none⟩ := by
          rcases hB with h | ⟨G, o, h, _⟩
          · rw [h] at hkl; simp at hkl; omega
          · exact ⟨G, o, h⟩
        clear hU hU' hB hu hm hst
        go_wp2_with fail
        refine HU.out.mono ?_; rintro e w2 ⟨rfl, hb2⟩
        have d0 := cell_below hb2 c0
        have d6 := cell_below hb2 c6
        have HB2 := Lib.hid hb2
        have HF2 := Lib.hid (HF.out.x.below hb2)
        have e0 := HF2.out.sv.cells.2 0
        have hRl2 := HF2.out.sv.lt
        clear hb2 c0 c2 c3 c6 f0
        obtain ⟨s4, e4, ht4⟩ : ∃ s4 e4, ({ s' with inp := s'.inp.drop k } : Sv).take ⟨mid, mto, mkind, mbody, msm⟩ = (s4, e4) := ⟨_, _, rfl⟩
        have HT4 := Lib.hid ht4
        have HC := Lib.hid (fun (o2 c2 : Nat) (hc2 : c2 = cap3 - k) (hp : o2 = o + k ∨ cap3 - k = 0) (W3 : World) hbq => fed_c HF.out hcl hen HB2.out ⟨mid, mto, mkind, mbody, msm⟩ HM.out k hkl o2 c2 hc2 hp W3 hbq)
        rw [ht4] at HC
        clear ht4
        cases hbg : s'.began with
        | true =>
          rw [hbg] at d6 HC
          have HC' := Lib.hid (fun (o2 c2 : Nat) (hc2 : c2 = cap3 - k) (hp : o2 = o + k ∨ cap3 - k = 0) (W3 : World) hbq => show Calls Tryd.prog 73 #[.pointer (some ⟨R, 0, none⟩), .agg #[.int .u32 (mid : Int), .int .u32 (mto : Int), .int .i64 mkind, .string mbody, .bool msm]] W3 _ from HC.out o2 c2 hc2 hp W3 hbq)
          have d6' : w2.cell? ⟨R, 6, none⟩ = some (.func (.func 73) #[.pointer (some ⟨R, 0, none⟩)] #[]) := d6
          clear HC hbg d6
          by_cases h4 : e4 = 0
          · subst h4
            by_cases hcap : cap3 - k = 0
            · go_wp2
              go_region_with (go_at_call 73; refine (HC'.out o 0 hcap.symm (.inr hcap) _ (by repeat (first | with_reducible exact Below.refl _ _ | with_reducible refine below_drewN ?_ _ | with_reducible refine Below.drew ?_ | with_reducible refine Below.alloc ?_ (by first | (simp; done) | (simp; omega)) _ | with_reducible refine Below.setCell ?_ (by first | (simp; done) | (simp; omega)) _))).mono ?_; rintro ee w3 ⟨vi3, vo3, vh3, rfl, HX3, HT3, HN3⟩)
              all_goals (
                have HFN := Lib.hid (HF.out.next hcl hen HUP.out HT4.out HX3.out HT3.out HN3.out)
                go_wp2
                go_roundw
                case rel => exact ⟨s4, n, vi3, vo3, vh3, Lib.hid HFN.out.1⟩
                case measure => exact HFN.out.2)
            · have hcx : k ≤ cap3 := by omega
              go_wp2
              go_region_with (go_at_call 73; refine (HC'.out (o + k) (cap3 - k) rfl (.inl rfl) _ (by repeat (first | with_reducible exact Below.refl _ _ | with_reducible refine below_drewN ?_ _ | with_reducible refine Below.drew ?_ | with_reducible refine Below.alloc ?_ (by first | (simp; done) | (simp; omega)) _ | with_reducible refine Below.setCell ?_ (by first | (simp; done) | (simp; omega)) _))).mono ?_; rintro ee w3 ⟨vi3, vo3, vh3, rfl, HX3, HT3, HN3⟩)
              all_goals (
                have HFN := Lib.hid (HF.out.next hcl hen HUP.out HT4.out HX3.out HT3.out HN3.out)
                go_wp2
                go_roundw
                case rel => exact ⟨s4, n, vi3, vo3, vh3, Lib.hid HFN.out.1⟩
                case measure => exact HFN.out.2)
          · have k4 : ((e4 : Int) != 0) = true := by rw [bne_iff_ne]; omega
            have HN4 := Lib.hid h4
            clear h4
            by_cases hcap : cap3 - k = 0
            · go_wp2
              go_region_with (go_at_call 73; refine (HC'.out o 0 hcap.symm (.inr hcap) _ (by repeat (first | with_reducible exact Below.refl _ _ | with_reducible refine below_drewN ?_ _ | with_reducible refine Below.drew ?_ | with_reducible refine Below.alloc ?_ (by first | (simp; done) | (simp; omega)) _ | with_reducible refine Below.setCell ?_ (by first | (simp; done) | (simp; omega)) _))).mono ?_; rintro ee w3 ⟨vi3, vo3, vh3, rfl, HX3, HT3, HN3⟩)
              all_goals (
                go_wp2
                go_ret
                exact HF.out.halt hcl hen HUP.out HT4.out HN4.out HX3.out HT3.out HN3.out)
            · have hcx : k ≤ cap3 := by omega
              go_wp2
              go_region_with (go_at_call 73; refine (HC'.out (o + k) (cap3 - k) rfl (.inl rfl) _ (by repeat (first | with_reducible exact Below.refl _ _ | with_reducible refine below_drewN ?_ _ | with_reducible refine Below.drew ?_ | with_reducible refine Below.alloc ?_ (by first | (simp; done) | (simp; omega)) _ | with_reducible refine Below.setCell ?_ (by first | (simp; done) | (simp; omega)) _))).mono ?_; rintro ee w3 ⟨vi3, vo3, vh3, rfl, HX3, HT3, HN3⟩)
              all_goals (
                go_wp2
                go_ret
                exact HF.out.halt hcl hen HUP.out HT4.out HN4.out HX3.out HT3.out HN3.out)
        | false =>
          rw [hbg] at d6 HC
          have HC' := Lib.hid (fun (o2 c2 : Nat) (hc2 : c2 = cap3 - k) (hp : o2 = o + k ∨ cap3 - k = 0) (W3 : World) hbq => show Calls Tryd.prog 54 #[.pointer (some ⟨R, 0, none⟩), .agg #[.int .u32 (mid : Int), .int .u32 (mto : Int), .int .i64 mkind, .string mbody, .bool msm]] W3 _ from HC.out o2 c2 hc2 hp W3 hbq)
          have d6' : w2.cell? ⟨R, 6, none⟩ = some (.func (.func 54) #[.pointer (some ⟨R, 0, none⟩)] #[]) := d6
          clear HC hbg d6
          by_cases h4 : e4 = 0
          · subst h4
            by_cases hcap : cap3 - k = 0
            · go_wp2
              go_region_with (go_at_call 54; refine (HC'.out o 0 hcap.symm (.inr hcap) _ (by repeat (first | with_reducible exact Below.refl _ _ | with_reducible refine below_drewN ?_ _ | with_reducible refine Below.drew ?_ | with_reducible refine Below.alloc ?_ (by first | (simp; done) | (simp; omega)) _ | with_reducible refine Below.setCell ?_ (by first | (simp; done) | (simp; omega)) _))).mono ?_; rintro ee w3 ⟨vi3, vo3, vh3, rfl, HX3, HT3, HN3⟩)
              all_goals (
                have HFN := Lib.hid (HF.out.next hcl hen HUP.out HT4.out HX3.out HT3.out HN3.out)
                go_wp2
                go_roundw
                case rel => exact ⟨s4, n, vi3, vo3, vh3, Lib.hid HFN.out.1⟩
                case measure => exact HFN.out.2)
            · have hcx : k ≤ cap3 := by omega
              go_wp2
              go_region_with (go_at_call 54; refine (HC'.out (o + k) (cap3 - k) rfl (.inl rfl) _ (by repeat (first | with_reducible exact Below.refl _ _ | with_reducible refine below_drewN ?_ _ | with_reducible refine Below.drew ?_ | with_reducible refine Below.alloc ?_ (by first | (simp; done) | (simp; omega)) _ | with_reducible refine Below.setCell ?_ (by first | (simp; done) | (simp; omega)) _))).mono ?_; rintro ee w3 ⟨vi3, vo3, vh3, rfl, HX3, HT3, HN3⟩)
              all_goals (
                have HFN := Lib.hid (HF.out.next hcl hen HUP.out HT4.out HX3.out HT3.out HN3.out)
                go_wp2
                go_roundw
                case rel => exact ⟨s4, n, vi3, vo3, vh3, Lib.hid HFN.out.1⟩
                case measure => exact HFN.out.2)
          · have k4 : ((e4 : Int) != 0) = true := by rw [bne_iff_ne]; omega
            have HN4 := Lib.hid h4
            clear h4
            by_cases hcap : cap3 - k = 0
            · go_wp2
              go_region_with (go_at_call 54; refine (HC'.out o 0 hcap.symm (.inr hcap) _ (by repeat (first | with_reducible exact Below.refl _ _ | with_reducible refine below_drewN ?_ _ | with_reducible refine Below.drew ?_ | with_reducible refine Below.alloc ?_ (by first | (simp; done) | (simp; omega)) _ | with_reducible refine Below.setCell ?_ (by first | (simp; done) | (simp; omega)) _))).mono ?_; rintro ee w3 ⟨vi3, vo3, vh3, rfl, HX3, HT3, HN3⟩)
              all_goals (
                go_wp2
                go_ret
                exact HF.out.halt hcl hen HUP.out HT4.out HN4.out HX3.out HT3.out HN3.out)
            · have hcx : k ≤ cap3 := by omega
              go_wp2
              go_region_with (go_at_call 54; refine (HC'.out (o + k) (cap3 - k) rfl (.inl rfl) _ (by repeat (first | with_reducible exact Below.refl _ _ | with_reducible refine below_drewN ?_ _ | with_reducible refine Below.drew ?_ | with_reducible refine Below.alloc ?_ (by first | (simp; done) | (simp; omega)) _ | with_reducible refine Below.setCell ?_ (by first | (simp; done) | (simp; omega)) _))).mono ?_; rintro ee w3 ⟨vi3, vo3, vh3, rfl, HX3, HT3, HN3⟩)
              all_goals (
                go_wp2
                go_ret
                exact HF.out.halt hcl hen HUP.out HT4.out HN4.out HX3.out HT3.out HN3.out)
end Go.Proofs.YtkpickojeghppaaDoor
namespace Go.Proofs.YtkpickojeghppaaDoor
open Go.RowKit
set_option maxRecDepth 20000 in
set_option maxHeartbeats 4000000 in
theorem feedStop_c (R : Nat) (vi vo vh : Value) (s : Sv) (pv : Value) (w : World) (hst : (s.closed || s.ending) = true) (h : SvX w R vi vo vh s) :
    Calls Tryd.prog 56 #[.pointer (some ⟨R, 0, none⟩), pv] w (SvPost R vi vo vh w s (.int .i64 0)) := by
  obtain ⟨⟨_, _, c2, c3, _⟩, _⟩ := h.sv.cells
  have H := Lib.hid h
  clear h
  cases hcl : s.closed with
  | true =>
    rw [hcl] at c2
    go_enter Tryd.func56, Tryd.ntmps56
    go_wp2
    go_ret
    exact svPost_same H.out.sv _
  | false =>
    have hen : s.ending = true := by rw [hcl] at hst; exact hst
    rw [hcl] at c2
    rw [hen] at c3
    go_enter Tryd.func56, Tryd.ntmps56
    go_wp2
    go_ret
    exact svPost_same H.out.sv _
theorem feedE_ok2 : ∀ (n : Nat) (s : Sv), s.Ok → s.inp.length ≤ 9223372036854770000 → (s.feedE n).1.Ok ∧ (s.feedE n).1.out.length * 24 ≤ 24 * s.out.length + 131072 * s.inp.length ∧ (s.feedE n).2 ≤ 284
  | 0, s, h, _ => ⟨h, by show s.out.length * 24 ≤ _; omega, Nat.zero_le _⟩
  | n + 1, s, h, hl => by
    rw [Sv.feedE]
    split
    · exact ⟨h, by show s.out.length * 24 ≤ _; omega, Nat.zero_le _⟩
    · cases hu : unpack s.inp with
      | bad e =>
        have := unpack_err _ _ hu
        simp only
        split
        · exact ⟨h, by show s.out.length * 24 ≤ _; omega, Nat.zero_le _⟩
        · exact ⟨h, by show s.out.length * 24 ≤ _; omega, by show e ≤ 284; omega⟩
      | ok m k =>
        obtain ⟨hm, hk, hkl⟩ := unpack_ok s.inp hl m k hu
        obtain ⟨a1, a2, a3, a4⟩ := take_ok { s with inp := s.inp.drop k } m ⟨h.bye, h.held, h.ids⟩ hm
        simp only
        have hl3 : (({ s with inp := s.inp.drop k } : Sv).take m).1.inp.length = s.inp.length - k := by rw [a3]; exact List.length_drop
        have ho : (({ s with inp := s.inp.drop k } : Sv).take m).1.out.length ≤ s.out.length + 131072 := a2
        split
        · obtain ⟨b1, b2, b3⟩ := feedE_ok2 n _ a1 (by omega)
          exact ⟨b1, by omega, b3⟩
        · exact ⟨a1, by omega, a4⟩
set_option maxRecDepth 20000 in
set_option maxHeartbeats 4000000 in
theorem svFeed_c (R : Nat) (vi vo vh : Value) (s : Sv) (hok : s.Ok) (pv : Value) (p : List UInt8) (w : World) (hp : Src Tryd.prog 1 28 pv p.length (bytesV p) w) (hroom : 24 * s.out.length + 131072 * (s.inp.length + p.length) ≤ 3298534883328) (h : SvX w R vi vo vh s) :
    Calls Tryd.prog 24 #[.pointer (some ⟨R, 0, none⟩), pv] w (SvPost R vi vo vh w (s.feed p) (.tuple #[])) := by
  have key : ∀ (s2 : Sv) (e : Nat), e ≤ 999999 → s2.out.length ≤ 274877906944 → Calls Tryd.prog 56 #[.pointer (some ⟨R, 0, none⟩), pv] w (SvPost R vi vo vh w s2 (.int .i64 (e : Int))) → Calls Tryd.prog 24 #[.pointer (some ⟨R, 0, none⟩), pv] w (SvPost R vi vo vh w (s2.failed e) (.tuple #[])) := by
    intro s2 e he hl hfe
    have HFE := Lib.hid hfe
    have H := Lib.hid h
    clear hfe h hp hok hroom
    go_enter Tryd.func24, Tryd.ntmps24
    go_wp2_with fail
    refine HFE.out.mono ?_; rintro e w1 ⟨vi1, vo1, vh1, rfl, h1, ht1, hn1⟩
    have HX1 := Lib.hid (H.out.of h1 ht1 hn1)
    have HT1 := Lib.hid ht1
    have HN1 := Lib.hid hn1
    clear h1 ht1 hn1
    go_wp2_with fail
    refine (fail_c R vi1 vo1 vh1 s2 _ he hl w1 HX1.out).mono ?_; rintro e w2 ⟨vi2, vo2, vh2, rfl, h2, ht2, hn2⟩
    have HF := Lib.hid (SvPost.seq HT1.out HN1.out ⟨vi2, vo2, vh2, rfl, h2, ht2, hn2⟩ : SvPost R vi vo vh w _ (.tuple #[]) _ w2)
    clear h2 ht2 hn2
    go_wp2
    go_end0
    exact HF.out
  by_cases hst : (s.closed || s.ending) = true
  · have := key s 0 (by omega) (by omega) (feedStop_c R vi vo vh s pv w hst h)
    have e : s.feed p = s.failed 0 := by unfold Sv.feed Sv.failed; rw [if_pos hst]; rfl
    rw [e]; exact this
  · have hcl : s.closed = false := by cases h : s.closed with | false => rfl | true => rw [h] at hst; exact absurd rfl hst
    have hen : s.ending = false := by cases h : s.ending with | false => rfl | true => rw [h, Bool.or_true] at hst; exact absurd rfl hst
    have e : s.feed p = (Sv.feedE ((s.inp ++ p).length + 1) { s with inp := s.inp ++ p }).1.failed (Sv.feedE ((s.inp ++ p).length + 1) { s with inp := s.inp ++ p }).2 := by
      unfold Sv.feed; rw [if_neg hst]; exact loop_eq _ _
    rw [e]
    have hb := feedE_ok2 ((s.inp ++ p).length + 1) { s with inp := s.inp ++ p } ⟨hok.bye, hok.held, hok.ids⟩ (by show (s.inp ++ p).length ≤ _; rw [List.length_append]; omega)
    obtain ⟨_, b2, b3⟩ := hb
    have b2' : (Sv.feedE ((s.inp ++ p).length + 1) { s with inp := s.inp ++ p }).1.out.length * 24 ≤ 24 * s.out.length + 131072 * (s.inp ++ p).length := b2
    rw [List.length_append] at b2'
    rw [List.length_append] at b3 ⊢
    exact key _ _ (by omega) (by omega) (by have := feed_c R vi vo vh s hok pv p w hp hroom hcl hen h; rw [List.length_append] at this; exact this)
end Go.Proofs.YtkpickojeghppaaDoor
