/- The program's client and the document's beside each other in memory; the walks of both, told as steps of the pair. Conditions: what goes out is shorter than 2 to the 38. -/
import Derived.Test.YtkpickojeghppaaDoorRcfw
import Derived.Test.YtkpickojeghppaaDoorWtold
import Derived.Test.YtkpickojeghppaaDoorWacts
namespace Go.Proofs.YtkpickojeghppaaDoor
open Go.RowKit
structure PC (w0 w : World) (R : Nat) (U : CV) (R2 : Nat) (V : CV) (s r : Cl) : Prop where
  sx : CK.X w R U s
  rx : RCK.At w R2 V r
  ap : ∀ g, CK.F R U s g → ¬ RCK.F R2 V r g
  sB : ∀ g, CK.F R U s g → w0.heap.size ≤ g
  rB : ∀ g, RCK.F R2 V r g → w0.heap.size ≤ g
  bl : Below w0.heap.size w0 w
section
variable {w0 w w' : World} {R R2 : Nat} {U V : CV} {s r : Cl}
theorem PC.turn (h : PC w0 w R U R2 V s r) {S : Nat → Prop} (ht : Turn S w w') (h1 : ∀ g, CK.F R U s g → ¬ S g) (h2 : ∀ g, RCK.F R2 V r g → ¬ S g) (hS : ∀ g, S g → w0.heap.size ≤ g) (h5 : 5 ≤ w0.heap.size) : PC w0 w' R U R2 V s r :=
  ⟨⟨StAt.turn h.sx.at_ ht h1, h.sx.tabs.turn ht (fun g hg => Nat.le_trans h5 (hS g hg)), h.sx.own⟩, StAt.turn h.rx ht h2, h.ap, h.sB, h.rB, h.bl.trans (ht.below hS h.bl.size)⟩
theorem PC.below (h : PC w0 w R U R2 V s r) (hb : Below w.heap.size w w') : PC w0 w' R U R2 V s r :=
  ⟨h.sx.below hb, StAt.below h.rx hb, h.ap, h.sB, h.rB, h.bl.trans (hb.mono h.bl.size)⟩
/-- the program's server has made a step -/
theorem PC.sv (h : PC w0 w R U R2 V s r) {U' : CV} {s' : Cl} (ha : CK.At w' R U' s') (ht : Turn (CK.F R U s) w w') (hn : ∀ g, CK.F R U' s' g → CK.F R U s g ∨ w.heap.size ≤ g) : PC w0 w' R U' R2 V s' r := by
  have hr := EK.F_lt h.rx
  refine ⟨h.sx.of ha ht hn, StAt.turn h.rx ht (fun g hg hg2 => h.ap g hg2 hg), fun g hg hg2 => ?_, fun g hg => (hn g hg).elim (h.sB g) (fun e => Nat.le_trans h.bl.size e), h.rB, h.bl.trans (ht.below h.sB h.bl.size)⟩
  rcases hn g hg with e | e
  · exact h.ap g e hg2
  · have := hr g hg2; omega
/-- the document's has -/
theorem PC.rf (h : PC w0 w R U R2 V s r) (h5 : 5 ≤ w0.heap.size) {V' : CV} {r' : Cl} (ha : RCK.At w' R2 V' r') (ht : Turn (RCK.F R2 V r) w w') (hn : ∀ g, RCK.F R2 V' r' g → RCK.F R2 V r g ∨ w.heap.size ≤ g) : PC w0 w' R U R2 V' s r' := by
  have hs := EK.F_lt h.sx.at_
  refine ⟨⟨StAt.turn h.sx.at_ ht (fun g hg hg2 => h.ap g hg hg2), h.sx.tabs.turn ht (fun g hg => Nat.le_trans h5 (h.rB g hg)), h.sx.own⟩, ha, fun g hg hg2 => ?_, h.sB, fun g hg => (hn g hg).elim (h.rB g) (fun e => Nat.le_trans h.bl.size e), h.bl.trans (ht.below h.rB h.bl.size)⟩
  rcases hn g hg2 with e | e
  · exact h.ap g hg e
  · have := hs g hg; omega
/-- what is new lies in neither -/
theorem PC.new (h : PC w0 w R U R2 V s r) {g : Nat} (hg : w.heap.size ≤ g) : ¬ CK.F R U s g ∧ ¬ RCK.F R2 V r g :=
  ⟨fun e => by have := EK.F_lt h.sx.at_ g e; omega, fun e => by have := EK.F_lt h.rx g e; omega⟩
end
def PCAny (w0 w : World) (R R2 : Nat) (s r : Cl) (g0 : Nat → Prop) : Prop := ∃ U V, PC w0 w R U R2 V s r ∧ ∀ g, g0 g → ¬ CK.F R U s g ∧ ¬ RCK.F R2 V r g
section
variable {w0 w : World} {R R2 : Nat} {s r : Cl} {g0 : Nat → Prop}
theorem PCAny.below (h : PCAny w0 w R R2 s r g0) {w' : World} (hb : Below w.heap.size w w') : PCAny w0 w' R R2 s r g0 := by
  obtain ⟨U, V, h, hg⟩ := h
  exact ⟨U, V, h.below hb, hg⟩
theorem PCAny.with (h : PCAny w0 w R R2 s r g0) {g1 : Nat → Prop} (hg1 : ∀ g, g1 g → g0 g ∨ w.heap.size ≤ g) : PCAny w0 w R R2 s r g1 := by
  obtain ⟨U, V, h, hg⟩ := h
  exact ⟨U, V, h, fun g e => (hg1 g e).elim (hg g) (fun e => h.new e)⟩
theorem PCAny.turn (h : PCAny w0 w R R2 s r g0) {w' : World} {S : Nat → Prop} (ht : Turn S w w') (hS : ∀ g, S g → g0 g) (hB : ∀ g, S g → w0.heap.size ≤ g) (h5 : 5 ≤ w0.heap.size) : PCAny w0 w' R R2 s r g0 := by
  obtain ⟨U, V, h, hg⟩ := h
  exact ⟨U, V, h.turn ht (fun g e e2 => (hg g (hS g e2)).1 e) (fun g e e2 => (hg g (hS g e2)).2 e) hB h5, hg⟩
theorem PCAny.none (h : PCAny w0 w R R2 s r g0) : PCAny w0 w R R2 s r (fun _ => False) := h.with (fun _ e => e.elim)
theorem PCAny.bl (h : PCAny w0 w R R2 s r g0) : Below w0.heap.size w0 w := by obtain ⟨_, _, h, _⟩ := h; exact h.bl
theorem PCAny.tabs (h : PCAny w0 w R R2 s r g0) : WTabs w := by obtain ⟨_, _, h, _⟩ := h; exact h.sx.tabs
/-- what a step of the program's server leaves -/
def StepC (w0 w : World) (R R2 : Nat) (s' r : Cl) (g0 : Nat → Prop) (w' : World) : Prop := PCAny w0 w' R R2 s' r g0 ∧ ∃ S : Nat → Prop, Turn S w w' ∧ (∀ g, g0 g → ¬ S g) ∧ ∀ g, S g → w0.heap.size ≤ g
theorem StepC.slab {w' : World} {s' : Cl} (h : StepC w0 w R R2 s' r g0 w') {size n : Nat} {v : Value} {xs : List Value} (hs : Slab w size v n xs) (hg : ∀ g, v.ownBlock = some g → g0 g) : Slab w' size v n xs := by
  obtain ⟨_, S, ht, hS, _⟩ := h
  exact Slab.turn hs ht (fun g hv => hS g (hg g hv))
theorem StepC.obj {w' : World} {s' : Cl} (h : StepC w0 w R R2 s' r g0 w') {k : Nat} {o : Obj} (hb : w.heap[k]? = some o) (hk : g0 k) : w'.heap[k]? = some o := by
  obtain ⟨_, S, ht, hS, _⟩ := h
  exact ht.obj hb (hS k hk)
theorem stepC {w' : World} {s' : Cl} {U V : CV} (h : PC w0 w R U R2 V s r) (hg : ∀ g, g0 g → g < w.heap.size ∧ ¬ CK.F R U s g ∧ ¬ RCK.F R2 V r g) {x : Value} {e : Ending} (hp : CK.Post R U s w s' x e w') : e = .returned x ∧ StepC w0 w R R2 s' r g0 w' := by
  obtain ⟨U', he, h2, ht, hn⟩ := hp
  exact ⟨he, ⟨U', V, h.sv h2 ht hn, fun g e => ⟨fun e2 => (hn g e2).elim (hg g e).2.1 (fun e3 => by have := (hg g e).1; omega), (hg g e).2.2⟩⟩, _, ht, fun g e => (hg g e).2.1, h.sB⟩
theorem stepCR {w' : World} {r' : Cl} {U V : CV} (h : PC w0 w R U R2 V s r) (h5 : 5 ≤ w0.heap.size) (hg : ∀ g, g0 g → g < w.heap.size ∧ ¬ CK.F R U s g ∧ ¬ RCK.F R2 V r g) {x : Value} {e : Ending} (hp : RCK.Post R2 V r w r' x e w') : e = .returned x ∧ StepC w0 w R R2 s r' g0 w' := by
  obtain ⟨V', he, h2, ht, hn⟩ := hp
  exact ⟨he, ⟨U, V', h.rf h5 h2 ht hn, fun g e => ⟨(hg g e).2.1, fun e2 => (hn g e2).elim (hg g e).2.2 (fun e3 => by have := (hg g e).1; omega)⟩⟩, _, ht, fun g e => (hg g e).2.2, h.rB⟩
variable (h : PCAny w0 w R R2 s r g0) (hg : ∀ g, g0 g → g < w.heap.size)
include h hg
theorem pcFeed (hok : s.Ok) (A : Option Addr) (cap : Nat) (p : List UInt8) (hp : BytesIn w A p) (hroom : s.came.length + (s.inp.length + p.length) ≤ 1099511627776) :
    Calls Tryd.prog 36 #[.pointer (some ⟨R, 0, none⟩), .slice A p.length cap] w fun e w' => e = .returned (.tuple #[]) ∧ StepC w0 w R R2 (s.feed p) r g0 w' := by
  obtain ⟨U, V, h, hn⟩ := h
  exact (clFeed_c R U s hok A cap p w hp hroom h.sx).mono (fun e w' hp => stepC h (fun g e => ⟨hg g e, hn g e⟩) hp)
theorem qcFeed (h5 : 5 ≤ w0.heap.size) (hok : r.Ok) (pv : Value) (p : List UInt8) (hp : BSlab w pv p) (hroom : r.came.length + (r.inp.length + p.length) ≤ 1099511627776) :
    Calls Tryd.prog 37 #[.pointer (some ⟨R2, 0, none⟩), pv] w fun e w' => e = .returned (.tuple #[]) ∧ StepC w0 w R R2 s (r.feed p) g0 w' := by
  obtain ⟨U, V, h, hn⟩ := h
  exact (rcFeed_c R2 V r hok pv p w hp hroom h.rx).mono (fun e w' hp => stepCR h h5 (fun g e => ⟨hg g e, hn g e⟩) hp)
theorem pcAsk (hok : s.Ok) (body : ByteArray) (hbs : body.size ≤ 9223372036854770000) (hlen : s.out.length ≤ 274877906944) :
    Calls Tryd.prog 38 #[.pointer (some ⟨R, 0, none⟩), .string body] w fun e w' => e = .returned (Cl.askV (s.ask body)) ∧ StepC w0 w R R2 (s.ask body).1 r g0 w' := by
  obtain ⟨U, V, h, hn⟩ := h
  exact (ask_c R U s hok body hbs hlen w h.sx.at_).mono (fun e w' hp => stepC h (fun g e => ⟨hg g e, hn g e⟩) hp)
theorem qcAsk (h5 : 5 ≤ w0.heap.size) (hok : r.Ok) (h1 : 1 ≤ r.id) (body : ByteArray) (hbs : body.size ≤ 9223372036854770000) (hlen : r.out.length ≤ 274877906944) :
    Calls Tryd.prog 39 #[.pointer (some ⟨R2, 0, none⟩), .string body] w fun e w' => e = .returned (Cl.askV (r.ask body)) ∧ StepC w0 w R R2 s (r.ask body).1 g0 w' := by
  obtain ⟨U, V, h, hn⟩ := h
  exact (rcAsk_c R2 V r hok h1 body hbs hlen w h.rx).mono (fun e w' hp => stepCR h h5 (fun g e => ⟨hg g e, hn g e⟩) hp)
theorem pcBye (hok : s.Ok) (hlen : s.out.length ≤ 274877906944) :
    Calls Tryd.prog 40 #[.pointer (some ⟨R, 0, none⟩)] w fun e w' => e = .returned (.int .i64 (s.part.2 : Int)) ∧ StepC w0 w R R2 s.part.1 r g0 w' := by
  obtain ⟨U, V, h, hn⟩ := h
  exact (bye_c R U s hok hlen w h.sx.at_).mono (fun e w' hp => stepC h (fun g e => ⟨hg g e, hn g e⟩) hp)
theorem qcBye (h5 : 5 ≤ w0.heap.size) (hok : r.Ok) (h1 : 1 ≤ r.id) (hlen : r.out.length ≤ 274877906944) :
    Calls Tryd.prog 41 #[.pointer (some ⟨R2, 0, none⟩)] w fun e w' => e = .returned (.int .i64 (r.part.2 : Int)) ∧ StepC w0 w R R2 s r.part.1 g0 w' := by
  obtain ⟨U, V, h, hn⟩ := h
  exact (rcBye_c R2 V r hok h1 hlen w h.rx).mono (fun e w' hp => stepCR h h5 (fun g e => ⟨hg g e, hn g e⟩) hp)
theorem pcReply :
    Calls Tryd.prog 42 #[.pointer (some ⟨R, 0, none⟩)] w fun e w' => e = .returned s.reply.2 ∧ StepC w0 w R R2 s.reply.1 r g0 w' := by
  obtain ⟨U, V, h, hn⟩ := h
  exact (reply_c R U s w h.sx.at_).mono (fun e w' hp => stepC h (fun g e => ⟨hg g e, hn g e⟩) hp)
theorem qcReply (h5 : 5 ≤ w0.heap.size) :
    Calls Tryd.prog 43 #[.pointer (some ⟨R2, 0, none⟩)] w fun e w' => e = .returned r.reply.2 ∧ StepC w0 w R R2 s r.reply.1 g0 w' := by
  obtain ⟨U, V, h, hn⟩ := h
  exact (rcReply_c R2 V r w h.rx).mono (fun e w' hp => stepCR h h5 (fun g e => ⟨hg g e, hn g e⟩) hp)
/-- Out: what went out lies beside the pair -/
theorem pcOut :
    Calls Tryd.prog 44 #[.pointer (some ⟨R, 0, none⟩)] w fun e w' => ∃ v, e = .returned v ∧ BSlab w' v s.out ∧ PCAny w0 w' R R2 { s with out := [] } r (fun g => g0 g ∨ v.ownBlock = some g) := by
  obtain ⟨U, V, h, hn⟩ := h
  refine (clOut_c R U s w h.sx.at_).mono ?_
  rintro e w' ⟨he, ha, hs, ht⟩
  have ht2 : Turn (CK.F R U s) w w' := ht.weak (fun g e => .inl e)
  have hn2 : ∀ g, CK.F R { U with o := .slice none 0 0 } { s with out := [] } g → CK.F R U s g ∨ w.heap.size ≤ g := fun g e => by
    rcases e with e | ⟨p, hp, e⟩
    · exact .inl (.inl e)
    · simp only [CK, clParts, List.mem_cons, List.not_mem_nil, or_false] at hp
      rcases hp with rfl | rfl | rfl | rfl
      · exact .inl (.inr ⟨_, .head _, e⟩)
      · cases e
      · exact .inl (.inr ⟨_, .tail _ (.tail _ (.head _)), e⟩)
      · exact .inl (.inr ⟨_, .tail _ (.tail _ (.tail _ (.head _))), e⟩)
  have hps := h.sv ha ht2 hn2
  refine ⟨U.o, he, hs, ⟨_, V, hps, fun g e => ?_⟩⟩
  rcases e with e | e
  · exact ⟨fun e2 => (hn2 g e2).elim (hn g e).1 (fun e3 => by have := hg g e; omega), (hn g e).2⟩
  · refine ⟨fun e2 => ?_, h.ap g (.inr ⟨_, .tail _ (.head _), e⟩)⟩
    have hp := (StAt.ap h.sx.at_)
    simp only [CK, clParts, List.pairwise_cons, List.mem_cons, List.not_mem_nil, or_false, forall_eq_or_imp, forall_eq] at hp
    rcases e2 with e2 | ⟨p, hpm, e2⟩
    · exact h.sx.at_.nR _ (.tail _ (.head _)) (by rw [← e2]; exact e)
    · simp only [CK, clParts, List.mem_cons, List.not_mem_nil, or_false] at hpm
      rcases hpm with rfl | rfl | rfl | rfl
      · exact hp.1.1 g e2 e
      · cases e2
      · exact hp.2.1.1 g e e2
      · exact hp.2.1.2 g e e2
theorem qcSent (h5 : 5 ≤ w0.heap.size) :
    Calls Tryd.prog 31 #[.pointer (some ⟨R2, 0, none⟩)] w fun e w' => ∃ v, e = .returned v ∧ BSlab w' v r.out ∧ StepC w0 w R R2 s { r with out := [] } g0 w' := by
  obtain ⟨U, V, h, hn⟩ := h
  refine (rcSent_c R2 V r w h.rx).mono ?_
  rintro e w' ⟨he, ha, hs, ht⟩
  have ht2 : Turn (RCK.F R2 V r) w w' := ht.weak (fun g e => .inl e)
  have hn2 : ∀ g, RCK.F R2 { V with o := .slice none 0 0 } { r with out := [] } g → RCK.F R2 V r g ∨ w.heap.size ≤ g := fun g e => by
    rcases e with e | ⟨p, hp, e⟩
    · exact .inl (.inl e)
    · simp only [RCK, clParts, List.mem_cons, List.not_mem_nil, or_false] at hp
      rcases hp with rfl | rfl | rfl | rfl
      · exact .inl (.inr ⟨_, .head _, e⟩)
      · cases e
      · exact .inl (.inr ⟨_, .tail _ (.tail _ (.head _)), e⟩)
      · exact .inl (.inr ⟨_, .tail _ (.tail _ (.tail _ (.head _))), e⟩)
  exact ⟨_, he, hs, ⟨U, _, h.rf h5 ha ht2 hn2, fun g e => ⟨(hn g e).1, fun e2 => (hn2 g e2).elim (hn g e).2 (fun e3 => by have := hg g e; omega)⟩⟩, _, ht2, fun g e => (hn g e).2, h.rB⟩
omit hg
theorem pcOpen : Calls Tryd.prog 45 #[.pointer (some ⟨R, 0, none⟩)] w fun e w' => e = .returned (.bool (!s.closed)) ∧ w' = w := by
  obtain ⟨U, V, h, _⟩ := h
  exact (clOpen_c R U s w h.sx.at_).mono (fun e w' h => ⟨h.1, h.2.symm⟩)
theorem pcWhy : Calls Tryd.prog 46 #[.pointer (some ⟨R, 0, none⟩)] w fun e w' => e = .returned (.int .i64 (s.why : Int)) ∧ w' = w := by
  obtain ⟨U, V, h, _⟩ := h
  exact (clWhy_c R U s w h.sx.at_).mono (fun e w' h => ⟨h.1, h.2.symm⟩)
theorem qcCells : w.cell? ⟨R2, 2, none⟩ = some (.bool r.closed) ∧ w.cell? ⟨R2, 3, none⟩ = some (.int .i64 (r.why : Int)) ∧ R2 < w.heap.size := by
  obtain ⟨U, V, h, _⟩ := h
  exact ⟨(rc_cells h.rx).1.2.2.1, (rc_cells h.rx).1.2.2.2.1, h.rx.ltR⟩
end
/-- what a client keeps -/
structure Cl.Good (s : Cl) (f k : Nat) : Prop where
  id1 : 2 ≤ s.id
  id2 : s.id ≤ 2 + k
  asked : s.asked.length ≤ 16
  room : s.came.length + s.inp.length ≤ f
  out : s.out.length ≤ 131072 * (k + 1)
theorem Cl.Good.ok {s : Cl} {f k : Nat} (h : s.Good f k) (hk : k ≤ 1000000) : s.Ok := ⟨by have := h.id2; omega, h.asked⟩
theorem Cl.Good.mono {s : Cl} {f k f2 k2 : Nat} (h : s.Good f k) (hf : f ≤ f2) (hk : k ≤ k2) : s.Good f2 k2 := ⟨h.id1, by have := h.id2; omega, h.asked, by have := h.room; omega, by have := h.out; omega⟩
theorem take_same (s : Cl) (m : WMsg) : (s.take m).1.id = s.id ∧ (s.take m).1.asked.length ≤ s.asked.length := by
  unfold Cl.take
  repeat' (split)
  all_goals (first | exact ⟨rfl, Nat.le_refl _⟩ | skip)
  rename_i h _
  rw [h]
  exact ⟨rfl, by simp⟩
theorem took_same (s : Cl) (m : WMsg) : (s.took m).id = s.id ∧ (s.took m).asked.length ≤ s.asked.length := by
  unfold Cl.took Cl.failed
  split
  · exact take_same s m
  · exact take_same s m
theorem run_good (f k : Nat) (hf : f ≤ 9223372036854770000) (hk : k ≤ 1000000) : ∀ (n : Nat) (s : Cl), s.Good f k → (s.run n).Good f k
  | 0, s, h => by
    have e : s.run 0 = s := by unfold Cl.run; rw [Cl.feedE]; exact if_pos rfl
    rw [e]
    exact h
  | n + 1, s, h => by
    by_cases hc : s.closed = true
    · rw [crun_closed _ _ hc]; exact h
    · have hcl : s.closed = false := by cases h : s.closed with | false => rfl | true => exact absurd h hc
      cases hu : unpack s.inp with
      | bad e =>
        rw [crun_bad n s e hcl hu]
        split
        · exact h
        · exact ⟨h.id1, h.id2, h.asked, h.room, h.out⟩
      | ok m c =>
        rw [crun_ok n s m c hcl hu]
        have hr := h.room
        obtain ⟨_, hk24, hkl⟩ := unpack_ok s.inp (by omega) m c hu
        obtain ⟨_, b1, b2, b3⟩ := ctook_ok (s.cut c) m ⟨by have := h.id2; show s.id ≤ _; omega, h.asked⟩
        obtain ⟨c1, c2⟩ := took_same (s.cut c) m
        have hl : ((s.cut c).took m).inp.length = s.inp.length - c := by rw [b2]; exact List.length_drop
        have hcm : ((s.cut c).took m).came.length ≤ s.came.length + 1 := b3
        have hid : ((s.cut c).took m).id = s.id := c1
        have hal : ((s.cut c).took m).asked.length ≤ s.asked.length := c2
        have hou : ((s.cut c).took m).out = s.out := b1
        exact run_good f k hf hk n _ ⟨by rw [hid]; exact h.id1, by rw [hid]; exact h.id2, Nat.le_trans hal h.asked, by omega, by rw [hou]; exact h.out⟩
theorem feed_good {s : Cl} {f k : Nat} (h : s.Good f k) (p : List UInt8) (hf : f + p.length ≤ 9223372036854770000) (hk : k ≤ 1000000) : (s.feed p).Good (f + p.length) k := by
  by_cases hc : s.closed = true
  · rw [show s.feed p = s by unfold Cl.feed; rw [if_pos hc]]
    exact h.mono (by omega) (Nat.le_refl _)
  · have hcl : s.closed = false := by cases h : s.closed with | false => rfl | true => exact absurd h hc
    rw [rfeed_run s p hcl]
    exact run_good _ k hf hk _ _ ⟨h.id1, h.id2, h.asked, by have := h.room; show s.came.length + (s.inp ++ p).length ≤ _; rw [List.length_append]; omega, h.out⟩
theorem csend_out (s : Cl) (m : WMsg) : (s.send m).out.length ≤ s.out.length + 131072 := by
  show (s.out ++ packL _).length ≤ _
  rw [List.length_append]
  have := packL_len (m.summed s.sums)
  omega
theorem ask_good {s : Cl} {f k : Nat} (h : s.Good f k) (body : ByteArray) : (s.ask body).1.Good f (k + 1) := by
  have h1 := h.mono (Nat.le_refl f) (Nat.le_succ k)
  unfold Cl.ask
  split
  · exact h1
  · split
    · exact h1
    · split
      · exact h1
      · rename_i hq _
        have := csend_out ({ s with id := s.id + 1, asked := s.asked ++ [s.id] } : Cl) (s.askM body)
        have ho : (({ s with id := s.id + 1, asked := s.asked ++ [s.id] } : Cl).send (s.askM body)).out.length ≤ s.out.length + 131072 := this
        exact ⟨by have := h.id1; show 2 ≤ s.id + 1; omega, by have := h.id2; show s.id + 1 ≤ _; omega, by show (s.asked ++ [s.id]).length ≤ 16; rw [List.length_append]; simp; omega, h.room, by have := h.out; show (({ s with id := s.id + 1, asked := s.asked ++ [s.id] } : Cl).send (s.askM body)).out.length ≤ _; omega⟩
theorem part_good {s : Cl} {f k : Nat} (h : s.Good f k) : s.part.1.Good f (k + 1) := by
  have h1 := h.mono (Nat.le_refl f) (Nat.le_succ k)
  unfold Cl.part
  split
  · exact h1
  · have ho : (({ s with bye := s.id, ending := true, id := s.id + 1 } : Cl).send s.byeM).out.length ≤ s.out.length + 131072 := csend_out _ _
    exact ⟨by have := h.id1; show 2 ≤ s.id + 1; omega, by have := h.id2; show s.id + 1 ≤ _; omega, h.asked, h.room, by have := h.out; show (({ s with bye := s.id, ending := true, id := s.id + 1 } : Cl).send s.byeM).out.length ≤ _; omega⟩
theorem reply_good {s : Cl} {f k : Nat} (h : s.Good f k) : s.reply.1.Good f k := by
  unfold Cl.reply
  split
  · exact h
  · rename_i i b r hc
    exact ⟨h.id1, h.id2, h.asked, by have := h.room; rw [hc] at this; simp at this; show r.length + s.inp.length ≤ f; omega, h.out⟩
theorem cout_good {s : Cl} {f k : Nat} (h : s.Good f k) : ({ s with out := [] } : Cl).Good f k := ⟨h.id1, h.id2, h.asked, h.room, by show 0 ≤ _; omega⟩
theorem cl0_good (sums : Bool) : (cl0 sums).Good 0 0 := ⟨by show 2 ≤ 2; omega, by show 2 ≤ 2; omega, by show 0 ≤ 16; omega, by show 0 + 0 ≤ 0; omega, by
  have := packL_len ((⟨1, 0, 1, ⟨#[100, 111, 99, 107, 101, 116]⟩, false⟩ : WMsg).summed sums)
  show ([] ++ packL _).length ≤ _
  rw [List.nil_append]
  omega⟩
theorem reply_form (s : Cl) : ∃ (a : Nat) (b : ByteArray) (c : Bool), s.reply.2 = .tuple #[.int .u32 (a : Int), .string b, .bool c] := by
  unfold Cl.reply
  split
  · exact ⟨0, _, _, rfl⟩
  · exact ⟨_, _, _, rfl⟩
end Go.Proofs.YtkpickojeghppaaDoor
