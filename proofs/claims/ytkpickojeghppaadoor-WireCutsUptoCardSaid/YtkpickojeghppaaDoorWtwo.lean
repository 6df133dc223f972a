/- Both ends beside each other in memory. Conditions: none. -/
import Derived.Test.YtkpickojeghppaaDoorWlivep
namespace Go.Proofs.YtkpickojeghppaaDoor
open Go.RowKit
structure Two (B : Nat) (w0 w : World) (C : Nat) (V : CV) (c : Cl) (R : Nat) (vi vo vh : Value) (s : Sv) : Prop where
  cx : CK.X w C V c
  sx : SvX w R vi vo vh s
  ap : ∀ g, CK.F C V c g → ¬ SvF R vi vo vh g
  cB : ∀ g, CK.F C V c g → B ≤ g
  sB : ∀ g, SvF R vi vo vh g → B ≤ g
  bl : Below B w0 w
theorem EK.F_lt {V S : Type} {K : EK V S} {w : World} {R : Nat} {v : V} {s : S} (h : K.At w R v s) : ∀ g, K.F R v s g → g < w.heap.size := fun g hg => by
  rcases hg with rfl | ⟨p, hp, hg⟩
  · exact h.ltR
  · exact h.lt p hp g hg
theorem SvF_lt {w : World} {R : Nat} {vi vo vh : Value} {s : Sv} (h : SvAt w R vi vo vh s) : ∀ g, SvF R vi vo vh g → g < w.heap.size := fun g hg => by
  rcases hg with rfl | hg | hg | hg
  · exact h.lt
  · exact h.lti g hg
  · exact Slab.lt h.sout hg
  · exact Slab.lt h.sheld hg
section
variable {B : Nat} {w0 w : World} {C R : Nat} {V : CV} {c : Cl} {vi vo vh : Value} {s : Sv}
theorem Two.size (h : Two B w0 w C V c R vi vo vh s) : B ≤ w.heap.size := Nat.le_trans (h.cB C (.inl rfl)) (Nat.le_of_lt (EK.F_lt h.cx.at_ C (.inl rfl)))
theorem Two.below (h : Two B w0 w C V c R vi vo vh s) {w' : World} (hb : Below w.heap.size w w') : Two B w0 w' C V c R vi vo vh s :=
  ⟨h.cx.below hb, h.sx.below hb, h.ap, h.cB, h.sB, h.bl.trans (hb.mono h.size)⟩
/-- the client has made a step -/
theorem Two.cl (h : Two B w0 w C V c R vi vo vh s) (hB : B ≤ w.heap.size) {V' : CV} {c' : Cl} {w' : World} (ha : CK.At w' C V' c') (ht : Turn (CK.F C V c) w w') (hn : ∀ g, CK.F C V' c' g → CK.F C V c g ∨ w.heap.size ≤ g) : Two B w0 w' C V' c' R vi vo vh s := by
  have hs := SvF_lt h.sx.sv
  refine ⟨h.cx.of ha ht hn, ?_, fun g hg hg2 => ?_, fun g hg => (hn g hg).elim (h.cB g) (fun e => Nat.le_trans hB e), h.sB, h.bl.trans (ht.below h.cB hB)⟩
  · have h1 := h.sx.sv.turn ht (fun g hg hg2 => h.ap g hg2 hg)
    exact ⟨h1, h.sx.tabs.turn ht h.cx.own, h.sx.own⟩
  · rcases hn g hg with e | e
    · exact h.ap g e hg2
    · have := hs g hg2; omega
/-- the server has made a step -/
theorem Two.sv (h : Two B w0 w C V c R vi vo vh s) (hB : B ≤ w.heap.size) {vi' vo' vh' : Value} {s' : Sv} {w' : World} (ha : SvAt w' R vi' vo' vh' s') (ht : Turn (SvF R vi vo vh) w w') (hn : ∀ g, SvF R vi' vo' vh' g → SvF R vi vo vh g ∨ w.heap.size ≤ g) : Two B w0 w' C V c R vi' vo' vh' s' := by
  have hc := EK.F_lt h.cx.at_
  refine ⟨?_, h.sx.of ha ht hn, fun g hg hg2 => ?_, h.cB, fun g hg => (hn g hg).elim (h.sB g) (fun e => Nat.le_trans hB e), h.bl.trans (ht.below h.sB hB)⟩
  · have h1 : CK.At w' C V c := StAt.turn h.cx.at_ ht (fun g hg hg2 => h.ap g hg hg2)
    exact ⟨h1, h.cx.tabs.turn ht h.sx.own, h.cx.own⟩
  · rcases hn g hg2 with e | e
    · exact h.ap g hg e
    · have := hc g hg; omega
/-- what went out has been taken -/
theorem Two.clOut (h : Two B w0 w C V c R vi vo vh s) {w' : World} (ha : CK.At w' C { V with o := .slice none 0 0 } { c with out := [] }) (ht : Turn (fun g => g = C) w w') : Two B w0 w' C { V with o := .slice none 0 0 } { c with out := [] } R vi vo vh s :=
  h.cl h.size ha (ht.weak (fun _ e => .inl e)) (fun g hg => by
    rcases hg with e | ⟨p, hp, e⟩
    · exact .inl (.inl e)
    · simp only [CK, clParts, List.mem_cons, List.not_mem_nil, or_false] at hp
      rcases hp with rfl | rfl | rfl | rfl
      · exact .inl (.inr ⟨_, .head _, e⟩)
      · cases e
      · exact .inl (.inr ⟨_, .tail _ (.tail _ (.head _)), e⟩)
      · exact .inl (.inr ⟨_, .tail _ (.tail _ (.tail _ (.head _))), e⟩))
theorem Two.svOut (h : Two B w0 w C V c R vi vo vh s) {w' : World} (ha : SvAt w' R vi (.slice none 0 0) vh { s with out := [] }) (ht : Turn (fun g => g = R) w w') : Two B w0 w' C V c R vi (.slice none 0 0) vh { s with out := [] } :=
  h.sv h.size ha (ht.weak (fun _ e => .inl e)) (fun g hg => by
    rcases hg with e | e | e | e
    · exact .inl (.inl e)
    · exact .inl (.inr (.inl e))
    · cases e
    · exact .inl (.inr (.inr (.inr e))))
end
theorem two_start {w W3 w4 w5 : World} {V0 : CV} {sums : Bool} (hT : WTabs w) (hb3 : Below w.heap.size w W3) (hc : CK.At w4 W3.heap.size V0 (cl0 sums)) (hb4 : Below W3.heap.size W3 w4) (hF : ∀ g, CK.F W3.heap.size V0 (cl0 sums) g → W3.heap.size ≤ g)
    (hs : SvAt w5 w4.heap.size (.slice none 0 0) (.slice none 0 0) (.slice none 0 0) sv0) (hb5 : Below w4.heap.size w4 w5) : Two w.heap.size w w5 W3.heap.size V0 (cl0 sums) w4.heap.size (.slice none 0 0) (.slice none 0 0) (.slice none 0 0) sv0 := by
  have h3 := hb3.size
  have h4 := hb4.size
  have h5 := hT.size
  have hcl := EK.F_lt hc
  have T5 := ((hT.below hb3).below hb4).below hb5
  have hsF : ∀ g, SvF w4.heap.size (.slice none 0 0) (.slice none 0 0) (.slice none 0 0) g → g = w4.heap.size := fun g hg => by
    rcases hg with e | e | e | e
    · exact e
    · cases e
    · cases e
    · cases e
  refine ⟨⟨StAt.below hc hb5, T5, fun g hg => ?_⟩, ⟨hs, T5, fun g hg => ?_⟩, fun g hg hg2 => ?_, fun g hg => ?_, fun g hg => ?_, ?_⟩
  · have := hF g hg; omega
  · have := hsF g hg; omega
  · have := hsF g hg2
    have := hcl g hg
    omega
  · have := hF g hg; omega
  · have := hsF g hg; omega
  · exact hb3.trans ((hb4.mono h3).trans (hb5.mono (by omega)))
end Go.Proofs.YtkpickojeghppaaDoor
