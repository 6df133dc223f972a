/- An argument of type Rest, read as data: three trees and a name. Conditions: none. -/
import Derived.Test.YtnmojmmgkipjcaaGreatDoorTreeread
namespace Go.Proofs.YtnmojmmgkipjcaaGreatDoor
open Go.ChangeShapes Go.WideShapes Go.RowKit Go.Deep
theorem restTy : ∃ f0 f1 f2 f3 : Field, Tryz.prog.underlying 36 = some (.struct #[f0, f1, f2, f3]) ∧ (f0.type = 25 ∧ f1.type = 25 ∧ f2.type = 9 ∧ f3.type = 25) ∧ (f0.offset = 0 ∧ f1.offset = 5 ∧ f2.offset = 10 ∧ f3.offset = 11) :=
  ⟨_, _, _, _, Tryz.underlying36, ⟨rfl, rfl, rfl, rfl⟩, ⟨rfl, rfl, rfl, rfl⟩⟩
theorem restCells : Tryz.prog.cellsOf 36 = 16 ∧ Tryz.prog.cellsOf 25 = 5 ∧ Tryz.prog.cellsOf 9 = 1 := ⟨by kernel_rfl, by kernel_rfl, by kernel_rfl⟩
theorem rest_of {P : Program} {T V S : TypeId} {f0 f1 f2 f3 : Field} {H : Type} {enc : TypeId × Value → H} {W : World} {base : Nat} {spare : Nat → Bool} {held : Bool} {r : Reach} {b0 : Nat} {v : Value} {d : DataW H} {p : List MemPlace} (hs : P.underlying T = some (.struct #[f0, f1, f2, f3])) (ht : f0.type = V ∧ f1.type = V ∧ f2.type = S ∧ f3.type = V) (ho : f0.offset = 0 ∧ f1.offset = 5 ∧ f2.offset = 10 ∧ f3.offset = 11)
    (hc : P.cellsOf T = 16 ∧ P.cellsOf V = 5 ∧ P.cellsOf S = 1) (hv : Value.okWide P W r b0 T v) (h : DataW.Trod enc P W base spare held T v d p) :
    ∃ (c0 c1 c3 : List Value) (c2 : Value) (y0 y1 y2 y3 : DataW H × List MemPlace) (n : Nat), v = .agg (c0 ++ (c1 ++ (c2 :: c3))).toArray ∧ d = .agg [y0.1, y1.1, y2.1, y3.1] ∧
      DataW.trod enc P W base spare held n V c0 = some y0 ∧ DataW.trod enc P W base spare held n V c1 = some y1 ∧ DataW.trod enc P W base spare held n S [c2] = some y2 ∧ DataW.trod enc P W base spare held n V c3 = some y3 := by
  obtain ⟨cs, rfl, hsz⟩ := okWide_struct hs hv
  obtain ⟨l⟩ := cs
  match l, hsz.trans hc.1 with
  | [c0, c1, c2, c3, c4, c5, c6, c7, c8, c9, c10, c11, c12, c13, c14, c15], _ =>
    obtain ⟨fuel, hf⟩ := h
    obtain ⟨xs, n, _, hx, _, hlen, hg⟩ := DataW.trod_struct hs hf
    match xs, hlen with
    | [y0, y1, y2, y3], _ =>
      have g0 := hg 0 f0 rfl
      have g1 := hg 1 f1 rfl
      have g2 := hg 2 f2 rfl
      have g3 := hg 3 f3 rfl
      rw [ht.1, ho.1, hc.2.1] at g0
      rw [ht.2.1, ho.2.1, hc.2.1] at g1
      rw [ht.2.2.1, ho.2.2.1, hc.2.2] at g2
      rw [ht.2.2.2, ho.2.2.2, hc.2.1] at g3
      exact ⟨[c0, c1, c2, c3, c4], [c5, c6, c7, c8, c9], [c11, c12, c13, c14, c15], c10, y0, y1, y2, y3, n, rfl, by injection hx, g0, g1, g2, g3⟩
set_option maxRecDepth 100000 in
theorem rest_open {H : Type} {enc : TypeId × Value → H} {W : World} {base : Nat} {spare : Nat → Bool} {held : Bool} {r : Reach} {b0 : Nat} {v : Value} {d : DataW H} {p : List MemPlace} (hv : Value.okWide Tryz.prog W r b0 36 v) (h : DataW.Trod enc Tryz.prog W base spare held 36 v d p) :
    ∃ (t u x : JV) (nm : ByteArray) (cs ds es : List Value), v = .agg (cs ++ (ds ++ (.string nm :: es))).toArray ∧ Rep W (fun _ => True) t cs ∧ Rep W (fun _ => True) u ds ∧ Rep W (fun _ => True) x es ∧ t.bulk + u.bulk + x.bulk + nm.size ≤ Rows.uptoBulk d := by
  obtain ⟨f0, f1, f2, f3, hs, ht, ho⟩ := restTy
  obtain ⟨e0, e1, e2, e3, e4, ty⟩ := valueTy
  obtain ⟨c0, c1, c3, c2, y0, y1, y2, y3, n, rfl, rfl, h0, h1, h2, h3⟩ := rest_of hs ht ho restCells hv h
  obtain ⟨t, r0, b0⟩ := tree_of ty n c0 y0 h0
  obtain ⟨u, r1, b1⟩ := tree_of ty n c1 y1 h1
  obtain ⟨x, r3, b3⟩ := tree_of ty n c3 y3 h3
  obtain ⟨s, e, rfl, hsz⟩ := DataW.trod_string Tryz.underlying9 h2
  obtain rfl : c2 = .string s := by injection e
  refine ⟨t, u, x, s, c0, c1, c3, rfl, r0, r1, r3, ?_⟩
  simp only [Rows.uptoBulk, Rows.uptoBulkAll]
  have : s.data.toList.length = s.size := by simp
  omega
end Go.Proofs.YtnmojmmgkipjcaaGreatDoor
