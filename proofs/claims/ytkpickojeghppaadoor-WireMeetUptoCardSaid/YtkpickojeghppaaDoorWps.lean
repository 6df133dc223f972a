/- The program's server and the document's beside each other in memory; the walks of both, told as steps of the pair. Conditions: what came and goes out is shorter than 2 to the 37. -/
import Derived.Test.YtkpickojeghppaaDoorRans
import Derived.Test.YtkpickojeghppaaDoorRsfw
import Derived.Test.YtkpickojeghppaaDoorWtold
import Derived.Test.YtkpickojeghppaaDoorWacts
namespace Go.Proofs.YtkpickojeghppaaDoor
open Go.RowKit
structure PS (w0 w : World) (R : Nat) (vi vo vh : Value) (R2 : Nat) (V : RV) (s r : Sv) : Prop where
  sx : SvX w R vi vo vh s
  rx : RSK.At w R2 V r
  ap : ∀ g, SvF R vi vo vh g → ¬ RSK.F R2 V r g
  sB : ∀ g, SvF R vi vo vh g → w0.heap.size ≤ g
  rB : ∀ g, RSK.F R2 V r g → w0.heap.size ≤ g
  bl : Below w0.heap.size w0 w
section
variable {w0 w w' : World} {R R2 : Nat} {vi vo vh : Value} {V : RV} {s r : Sv}
theorem PS.turn (h : PS w0 w R vi vo vh R2 V s r) {S : Nat → Prop} (ht : Turn S w w') (h1 : ∀ g, SvF R vi vo vh g → ¬ S g) (h2 : ∀ g, RSK.F R2 V r g → ¬ S g) (hS : ∀ g, S g → w0.heap.size ≤ g) (h5 : 5 ≤ w0.heap.size) : PS w0 w' R vi vo vh R2 V s r :=
  ⟨⟨h.sx.sv.turn ht h1, h.sx.tabs.turn ht (fun g hg => Nat.le_trans h5 (hS g hg)), h.sx.own⟩, StAt.turn h.rx ht h2, h.ap, h.sB, h.rB, h.bl.trans (ht.below hS h.bl.size)⟩
theorem PS.below (h : PS w0 w R vi vo vh R2 V s r) (hb : Below w.heap.size w w') : PS w0 w' R vi vo vh R2 V s r :=
  ⟨h.sx.below hb, StAt.below h.rx hb, h.ap, h.sB, h.rB, h.bl.trans (hb.mono h.bl.size)⟩
/-- the program's server has made a step -/
theorem PS.sv (h : PS w0 w R vi vo vh R2 V s r) {vi' vo' vh' : Value} {s' : Sv} (ha : SvAt w' R vi' vo' vh' s') (ht : Turn (SvF R vi vo vh) w w') (hn : ∀ g, SvF R vi' vo' vh' g → SvF R vi vo vh g ∨ w.heap.size ≤ g) : PS w0 w' R vi' vo' vh' R2 V s' r := by
  have hr := EK.F_lt h.rx
  refine ⟨h.sx.of ha ht hn, StAt.turn h.rx ht (fun g hg hg2 => h.ap g hg2 hg), fun g hg hg2 => ?_, fun g hg => (hn g hg).elim (h.sB g) (fun e => Nat.le_trans h.bl.size e), h.rB, h.bl.trans (ht.below h.sB h.bl.size)⟩
  rcases hn g hg with e | e
  · exact h.ap g e hg2
  · have := hr g hg2; omega
/-- the document's has -/
theorem PS.rf (h : PS w0 w R vi vo vh R2 V s r) (h5 : 5 ≤ w0.heap.size) {V' : RV} {r' : Sv} (ha : RSK.At w' R2 V' r') (ht : Turn (RSK.F R2 V r) w w') (hn : ∀ g, RSK.F R2 V' r' g → RSK.F R2 V r g ∨ w.heap.size ≤ g) : PS w0 w' R vi vo vh R2 V' s r' := by
  have hs := SvF_lt h.sx.sv
  refine ⟨⟨h.sx.sv.turn ht (fun g hg hg2 => h.ap g hg hg2), h.sx.tabs.turn ht (fun g hg => Nat.le_trans h5 (h.rB g hg)), h.sx.own⟩, ha, fun g hg hg2 => ?_, h.sB, fun g hg => (hn g hg).elim (h.rB g) (fun e => Nat.le_trans h.bl.size e), h.bl.trans (ht.below h.rB h.bl.size)⟩
  rcases hn g hg2 with e | e
  · exact h.ap g hg e
  · have := hs g hg; omega
/-- what is new lies in neither -/
theorem PS.new (h : PS w0 w R vi vo vh R2 V s r) {g : Nat} (hg : w.heap.size ≤ g) : ¬ SvF R vi vo vh g ∧ ¬ RSK.F R2 V r g :=
  ⟨fun e => by have := SvF_lt h.sx.sv g e; omega, fun e => by have := EK.F_lt h.rx g e; omega⟩
end
def PSAny (w0 w : World) (R R2 : Nat) (s r : Sv) (g0 : Nat → Prop) : Prop := ∃ vi vo vh V, PS w0 w R vi vo vh R2 V s r ∧ ∀ g, g0 g → ¬ SvF R vi vo vh g ∧ ¬ RSK.F R2 V r g
section
variable {w0 w : World} {R R2 : Nat} {s r : Sv} {g0 : Nat → Prop}
theorem PSAny.below (h : PSAny w0 w R R2 s r g0) {w' : World} (hb : Below w.heap.size w w') : PSAny w0 w' R R2 s r g0 := by
  obtain ⟨vi, vo, vh, V, h, hg⟩ := h
  exact ⟨vi, vo, vh, V, h.below hb, hg⟩
theorem PSAny.with (h : PSAny w0 w R R2 s r g0) {g1 : Nat → Prop} (hg1 : ∀ g, g1 g → g0 g ∨ w.heap.size ≤ g) : PSAny w0 w R R2 s r g1 := by
  obtain ⟨vi, vo, vh, V, h, hg⟩ := h
  exact ⟨vi, vo, vh, V, h, fun g e => (hg1 g e).elim (hg g) (fun e => h.new e)⟩
theorem PSAny.turn (h : PSAny w0 w R R2 s r g0) {w' : World} {S : Nat → Prop} (ht : Turn S w w') (hS : ∀ g, S g → g0 g) (hB : ∀ g, S g → w0.heap.size ≤ g) (h5 : 5 ≤ w0.heap.size) : PSAny w0 w' R R2 s r g0 := by
  obtain ⟨vi, vo, vh, V, h, hg⟩ := h
  exact ⟨vi, vo, vh, V, h.turn ht (fun g e e2 => (hg g (hS g e2)).1 e) (fun g e e2 => (hg g (hS g e2)).2 e) hB h5, hg⟩
theorem PSAny.none (h : PSAny w0 w R R2 s r g0) : PSAny w0 w R R2 s r (fun _ => False) := h.with (fun _ e => e.elim)
theorem PSAny.bl (h : PSAny w0 w R R2 s r g0) : Below w0.heap.size w0 w := by obtain ⟨_, _, _, _, h, _⟩ := h; exact h.bl
theorem PSAny.tabs (h : PSAny w0 w R R2 s r g0) : WTabs w := by obtain ⟨_, _, _, _, h, _⟩ := h; exact h.sx.tabs
/-- what a step of the program's server leaves -/
def StepP (w0 w : World) (R R2 : Nat) (s' r : Sv) (g0 : Nat → Prop) (w' : World) : Prop := PSAny w0 w' R R2 s' r g0 ∧ ∃ S : Nat → Prop, Turn S w w' ∧ (∀ g, g0 g → ¬ S g) ∧ ∀ g, S g → w0.heap.size ≤ g
theorem StepP.slab {w' : World} {s' : Sv} (h : StepP w0 w R R2 s' r g0 w') {size n : Nat} {v : Value} {xs : List Value} (hs : Slab w size v n xs) (hg : ∀ g, v.ownBlock = some g → g0 g) : Slab w' size v n xs := by
  obtain ⟨_, S, ht, hS, _⟩ := h
  exact Slab.turn hs ht (fun g hv => hS g (hg g hv))
theorem StepP.obj {w' : World} {s' : Sv} (h : StepP w0 w R R2 s' r g0 w') {k : Nat} {o : Obj} (hb : w.heap[k]? = some o) (hk : g0 k) : w'.heap[k]? = some o := by
  obtain ⟨_, S, ht, hS, _⟩ := h
  exact ht.obj hb (hS k hk)
theorem stepP {w' : World} {s' : Sv} {vi vo vh : Value} {V : RV} (h : PS w0 w R vi vo vh R2 V s r) (hg : ∀ g, g0 g → g < w.heap.size ∧ ¬ SvF R vi vo vh g ∧ ¬ RSK.F R2 V r g) {x : Value} {e : Ending} (hp : SvPost R vi vo vh w s' x e w') : e = .returned x ∧ StepP w0 w R R2 s' r g0 w' := by
  obtain ⟨vi', vo', vh', he, h2, ht, hn⟩ := hp
  exact ⟨he, ⟨vi', vo', vh', V, h.sv h2 ht hn, fun g e => ⟨fun e2 => (hn g e2).elim (hg g e).2.1 (fun e3 => by have := (hg g e).1; omega), (hg g e).2.2⟩⟩, _, ht, fun g e => (hg g e).2.1, h.sB⟩
theorem stepR {w' : World} {r' : Sv} {vi vo vh : Value} {V : RV} (h : PS w0 w R vi vo vh R2 V s r) (h5 : 5 ≤ w0.heap.size) (hg : ∀ g, g0 g → g < w.heap.size ∧ ¬ SvF R vi vo vh g ∧ ¬ RSK.F R2 V r g) {x : Value} {e : Ending} (hp : RSK.Post R2 V r w r' x e w') : e = .returned x ∧ StepP w0 w R R2 s r' g0 w' := by
  obtain ⟨V', he, h2, ht, hn⟩ := hp
  exact ⟨he, ⟨vi, vo, vh, V', h.rf h5 h2 ht hn, fun g e => ⟨(hg g e).2.1, fun e2 => (hn g e2).elim (hg g e).2.2 (fun e3 => by have := (hg g e).1; omega)⟩⟩, _, ht, fun g e => (hg g e).2.2, h.rB⟩
variable (h : PSAny w0 w R R2 s r g0) (hg : ∀ g, g0 g → g < w.heap.size)
include h hg
theorem psFeed (hok : s.Ok) (pv : Value) (p : List UInt8) (hp : Src Tryd.prog 1 28 pv p.length (bytesV p) w) (hroom : 24 * s.out.length + 131072 * (s.inp.length + p.length) ≤ 3298534883328) :
    Calls Tryd.prog 24 #[.pointer (some ⟨R, 0, none⟩), pv] w fun e w' => e = .returned (.tuple #[]) ∧ StepP w0 w R R2 (s.feed p) r g0 w' := by
  obtain ⟨vi, vo, vh, V, h, hn⟩ := h
  exact (svFeed_c R vi vo vh s hok pv p w hp hroom h.sx).mono (fun e w' hp => stepP h (fun g e => ⟨hg g e, hn g e⟩) hp)
theorem prFeed (h5 : 5 ≤ w0.heap.size) (hok : r.Ok) (pv : Value) (p : List UInt8) (hp : BSlab w pv p) (hroom : 24 * r.out.length + 131072 * (r.inp.length + p.length) ≤ 3298534883328) :
    Calls Tryd.prog 25 #[.pointer (some ⟨R2, 0, none⟩), pv] w fun e w' => e = .returned (.tuple #[]) ∧ StepP w0 w R R2 s (r.feed p) g0 w' := by
  obtain ⟨vi, vo, vh, V, h, hn⟩ := h
  exact (rsFeed_c R2 V r hok pv p w hp hroom h.rx).mono (fun e w' hp => stepR h h5 (fun g e => ⟨hg g e, hn g e⟩) hp)
theorem psNext (hl : s.held.length ≤ 1000) :
    Calls Tryd.prog 26 #[.pointer (some ⟨R, 0, none⟩)] w fun e w' => e = .returned s.nextV ∧ StepP w0 w R R2 s.next r g0 w' := by
  obtain ⟨vi, vo, vh, V, h, hn⟩ := h
  exact (next_c R vi vo vh s hl w h.sx.sv).mono (fun e w' hp => stepP h (fun g e => ⟨hg g e, hn g e⟩) hp)
theorem prNext (h5 : 5 ≤ w0.heap.size) (hl : r.held.length ≤ 1000) :
    Calls Tryd.prog 27 #[.pointer (some ⟨R2, 0, none⟩)] w fun e w' => e = .returned r.nextV ∧ StepP w0 w R R2 s r.next g0 w' := by
  obtain ⟨vi, vo, vh, V, h, hn⟩ := h
  exact (rsNext_c R2 V r hl w h.rx).mono (fun e w' hp => stepR h h5 (fun g e => ⟨hg g e, hn g e⟩) hp)
theorem psAnswer (hok : s.Ok) (body : ByteArray) (hbs : body.size ≤ 9223372036854770000) (hlen : s.out.length ≤ 137438953472) :
    Calls Tryd.prog 28 #[.pointer (some ⟨R, 0, none⟩), .string body] w fun e w' => e = .returned (.int .i64 ((s.answer body).2 : Int)) ∧ StepP w0 w R R2 (s.answer body).1 r g0 w' := by
  obtain ⟨vi, vo, vh, V, h, hn⟩ := h
  exact (answer_c R vi vo vh s hok body hbs hlen w h.sx).mono (fun e w' hp => stepP h (fun g e => ⟨hg g e, hn g e⟩) hp)
theorem prAnswer (h5 : 5 ≤ w0.heap.size) (hok : r.Ok) (body : ByteArray) (hbs : body.size ≤ 9223372036854770000) (hlen : r.out.length ≤ 137438953472) :
    Calls Tryd.prog 29 #[.pointer (some ⟨R2, 0, none⟩), .string body] w fun e w' => e = .returned (.int .i64 ((r.answer body).2 : Int)) ∧ StepP w0 w R R2 s (r.answer body).1 g0 w' := by
  obtain ⟨vi, vo, vh, V, h, hn⟩ := h
  exact (rsAnswer_c R2 V r hok body hbs hlen w h.rx).mono (fun e w' hp => stepR h h5 (fun g e => ⟨hg g e, hn g e⟩) hp)
/-- Out: what went out lies beside the pair -/
theorem psOut :
    Calls Tryd.prog 30 #[.pointer (some ⟨R, 0, none⟩)] w fun e w' => ∃ v, e = .returned v ∧ BSlab w' v s.out ∧ StepP w0 w R R2 { s with out := [] } r g0 w' ∧ PSAny w0 w' R R2 { s with out := [] } r (fun g => g0 g ∨ v.ownBlock = some g) := by
  obtain ⟨vi, vo, vh, V, h, hn⟩ := h
  refine (svOut_c R vi vo vh s w h.sx.sv).mono ?_
  rintro e w' ⟨he, ha, hs, ht⟩
  have ht2 : Turn (SvF R vi vo vh) w w' := ht.weak (fun g e => .inl e)
  have hn2 : ∀ g, SvF R vi (.slice none 0 0) vh g → SvF R vi vo vh g ∨ w.heap.size ≤ g := fun g e => by
    rcases e with e | e | e | e
    · exact .inl (.inl e)
    · exact .inl (.inr (.inl e))
    · cases e
    · exact .inl (.inr (.inr (.inr e)))
  have hps := h.sv ha ht2 hn2
  have hg0 : ∀ g, g0 g → ¬ SvF R vi (.slice none 0 0) vh g ∧ ¬ RSK.F R2 V r g := fun g e => ⟨fun e2 => (hn2 g e2).elim (hn g e).1 (fun e3 => by have := hg g e; omega), (hn g e).2⟩
  refine ⟨vo, he, hs, ⟨⟨vi, _, vh, V, hps, hg0⟩, _, ht2, fun g e => (hn g e).1, h.sB⟩, ⟨vi, _, vh, V, hps, fun g e => ?_⟩⟩
  rcases e with e | e
  · exact hg0 g e
  · refine ⟨fun e2 => ?_, h.ap g (.inr (.inr (.inl e)))⟩
    rcases e2 with e2 | e2 | e2 | e2
    · exact h.sx.sv.nR.2.1 (by rw [← e2]; exact e)
    · exact (h.sx.sv.ap g e).2 e2
    · cases e2
    · exact (h.sx.sv.ap g e).1 e2
theorem prSent (h5 : 5 ≤ w0.heap.size) :
    Calls Tryd.prog 31 #[.pointer (some ⟨R2, 0, none⟩)] w fun e w' => ∃ v, e = .returned v ∧ BSlab w' v r.out ∧ StepP w0 w R R2 s { r with out := [] } g0 w' := by
  obtain ⟨vi, vo, vh, V, h, hn⟩ := h
  refine (rsSent_c R2 V r w h.rx).mono ?_
  rintro e w' ⟨he, ha, hs, ht⟩
  have ht2 : Turn (RSK.F R2 V r) w w' := ht.weak (fun g e => .inl e)
  have hn2 : ∀ g, RSK.F R2 { V with o := .slice none 0 0 } { r with out := [] } g → RSK.F R2 V r g ∨ w.heap.size ≤ g := fun g e => by
    rcases e with e | ⟨p, hp, e⟩
    · exact .inl (.inl e)
    · simp only [RSK, rsParts, List.mem_cons, List.not_mem_nil, or_false] at hp
      rcases hp with rfl | rfl | rfl
      · exact .inl (.inr ⟨_, .head _, e⟩)
      · cases e
      · exact .inl (.inr ⟨_, .tail _ (.tail _ (.head _)), e⟩)
  exact ⟨_, he, hs, ⟨vi, vo, vh, _, h.rf h5 ha ht2 hn2, fun g e => ⟨(hn g e).1, fun e2 => (hn2 g e2).elim (hn g e).2 (fun e3 => by have := hg g e; omega)⟩⟩, _, ht2, fun g e => (hn g e).2, h.rB⟩
omit hg
theorem psOpen : Calls Tryd.prog 32 #[.pointer (some ⟨R, 0, none⟩)] w fun e w' => e = .returned (.bool (!s.closed)) ∧ w' = w := by
  obtain ⟨vi, vo, vh, V, h, _⟩ := h
  exact svOpen_c R vi vo vh s w h.sx.sv
theorem psWhy : Calls Tryd.prog 33 #[.pointer (some ⟨R, 0, none⟩)] w fun e w' => e = .returned (.int .i64 (s.why : Int)) ∧ w' = w := by
  obtain ⟨vi, vo, vh, V, h, _⟩ := h
  exact svWhy_c R vi vo vh s w h.sx.sv
theorem prCells : w.cell? ⟨R2, 2, none⟩ = some (.bool r.closed) ∧ w.cell? ⟨R2, 3, none⟩ = some (.int .i64 (r.why : Int)) ∧ R2 < w.heap.size := by
  obtain ⟨vi, vo, vh, V, h, _⟩ := h
  exact ⟨(rs_cells h.rx).1.2.2.1, (rs_cells h.rx).1.2.2.2.1, h.rx.ltR⟩
end
end Go.Proofs.YtkpickojeghppaaDoor
