/- An argument of type api.Value, read as data: the tree that memory holds, and how much it holds. Conditions: none. -/
import Derived.Test.YtnmojmmgkipjcaaGreatDoorRows
import Derived.Test.YtnmojmmgkipjcaaGreatDoorBasea
import Derived.Deep.Fields
import Derived.Deep.Slices
import Derived.SliceStrings
import Derived.ProofKit
import Derived.Lib.SmallJoins
namespace Go.Proofs.YtnmojmmgkipjcaaGreatDoor
open Go.ChangeShapes Go.WideShapes Go.RowKit Go.Deep
section
variable {P : Program} {T TI TJ TS TN TL : TypeId} {f0 f1 f2 f3 f4 : Field}
variable {H : Type} {enc : TypeId × Value → H} {W : World} {base : Nat} {spare : Nat → Bool} {held : Bool}
theorem spot_none {a : Addr} {v : Value} (h : W.cell? a = some v) : a.spot = none := by
  cases e : a.spot with
  | none => rfl
  | some n =>
    unfold World.cell? at h
    rw [e] at h
    split at h <;> simp at h
theorem wf_i64 {n : Int} (h : (Lit.int .i64 n).wf = true) : -9223372036854775808 ≤ n ∧ n ≤ 9223372036854775807 := by
  simp [Lit.wf, IntKind.min, IntKind.max, IntKind.bits, IntKind.signed] at h; omega
theorem bulk_strs (l : List ByteArray) : Rows.uptoBulkAll (strs (H := H) l) = strsBulk l := by
  induction l with
  | nil => rfl
  | cons s r ih =>
    show Rows.uptoBulkAll (DataW.lit (.string s.data.toList) :: strs r) = _
    rw [Rows.uptoBulkAll, ih, Rows.uptoBulk, strsBulk]
    simp
theorem build : ∀ (elems : List (DataW H × List MemPlace)) (b off : Nat), (∀ (i : Nat) (hi : i < elems.length), ∃ cs t, Rep W (fun _ => True) t cs ∧ Lie W b (off + i * 5) cs ∧ t.bulk ≤ Rows.uptoBulk elems[i].1) →
    ∃ ts : List JV, ts.length = elems.length ∧ RepAll W (fun _ => True) ts b off ∧ JV.bulks ts ≤ Rows.uptoBulkAll (elems.map (·.1))
  | [], b, off, _ => ⟨[], rfl, by rw [RepAll]; trivial, by simp [JV.bulks]⟩
  | x :: r, b, off, h => by
    obtain ⟨ts, h1, h2, h3⟩ := build r b (off + 5) (fun i hi => by
      obtain ⟨cs, t, a1, a2, a3⟩ := h (i + 1) (by simpa using hi)
      exact ⟨cs, t, a1, by rw [show off + 5 + i * 5 = off + (i + 1) * 5 by omega]; exact a2, by simpa using a3⟩)
    obtain ⟨cs, t, a1, a2, a3⟩ := h 0 (by simp)
    refine ⟨t :: ts, by simp [h1], ?_, ?_⟩
    · rw [RepAll]; exact ⟨⟨cs, a1, by simpa using a2⟩, h2⟩
    · simp only [JV.bulks, List.map_cons, Rows.uptoBulkAll]
      have : t.bulk ≤ Rows.uptoBulk x.1 := by simpa using a3
      omega
/-- The type's fields, and what is below them. -/
structure ValTy (P : Program) (T TI TJ TS TN TL : TypeId) (f0 f1 f2 f3 f4 : Field) : Prop where
  struct : P.underlying T = some (.struct #[f0, f1, f2, f3, f4])
  one : oneCellFields P #[f0, f1, f2, f3, f4] = true
  cells : P.cellsOf T = 5
  t0 : f0.type = TI
  t1 : f1.type = TJ
  t2 : f2.type = TS
  t3 : f3.type = TN
  t4 : f4.type = TL
  u0 : P.underlying TI = some (.int .i64)
  u1 : P.underlying TJ = some (.int .i64)
  u2 : P.underlying TS = some .string
  u3 : P.underlying TN = some (.slice TS)
  u4 : P.underlying TL = some (.slice T)
  cS : P.cellsOf TS = 1
theorem tree_of (ty : ValTy P T TI TJ TS TN TL f0 f1 f2 f3 f4) (fuel : Nat) : ∀ (cs : List Value) (x : DataW H × List MemPlace), DataW.trod enc P W base spare held fuel T cs = some x → ∃ t : JV, Rep W (fun _ => True) t cs ∧ t.bulk ≤ Rows.uptoBulk x.1 := by
  induction fuel using Nat.strongRecOn with
  | _ fuel IH =>
  intro cs x h
  obtain ⟨xs, n, rfl, hx, hlen, hxl, hg⟩ := DataW.trod_struct ty.struct h
  have hC := ty.cells
  match cs, hlen.trans hC with
  | [c0, c1, c2, c3, c4], _ =>
  match xs, hxl with
  | [y0, y1, y2, y3, y4], _ =>
  obtain ⟨o0, k0⟩ := hone_of ty.one 0 f0 rfl
  have g0 : DataW.trod enc P W base spare held n TI [c0] = some y0 := by
    have := hg 0 f0 rfl
    rw [o0, k0, ty.t0] at this
    exact this
  obtain ⟨o1, k1⟩ := hone_of ty.one 1 f1 rfl
  have g1 : DataW.trod enc P W base spare held n TJ [c1] = some y1 := by
    have := hg 1 f1 rfl
    rw [o1, k1, ty.t1] at this
    exact this
  obtain ⟨o2, k2⟩ := hone_of ty.one 2 f2 rfl
  have g2 : DataW.trod enc P W base spare held n TS [c2] = some y2 := by
    have := hg 2 f2 rfl
    rw [o2, k2, ty.t2] at this
    exact this
  obtain ⟨o3, k3⟩ := hone_of ty.one 3 f3 rfl
  have g3 : DataW.trod enc P W base spare held n TN [c3] = some y3 := by
    have := hg 3 f3 rfl
    rw [o3, k3, ty.t3] at this
    exact this
  obtain ⟨o4, k4⟩ := hone_of ty.one 4 f4 rfl
  have g4 : DataW.trod enc P W base spare held n TL [c4] = some y4 := by
    have := hg 4 f4 rfl
    rw [o4, k4, ty.t4] at this
    exact this
  clear hg
  obtain ⟨k, e0, rfl, wk⟩ := DataW.trod_int ty.u0 g0
  obtain ⟨m, e1, rfl, wm⟩ := DataW.trod_int ty.u1 g1
  obtain ⟨s, e2, rfl, hs⟩ := DataW.trod_string ty.u2 g2
  simp only [List.cons.injEq, and_true] at e0 e1 e2
  subst e0 e1 e2
  clear g0 g1 g2
  have hN : ∃ (an : Option Addr) (cn : Nat) (ns : List ByteArray), c3 = .slice an ns.length cn ∧ (ns.length ≤ cn ∧ cn ≤ maxLen) ∧ StrsAt W (fun _ => True) an ns ∧ strsBulk ns ≤ Rows.uptoBulk y3.1 := by
    rcases open_strings ty.u3 ty.u2 ty.cS g3 with ⟨h1, _⟩ | ⟨a, len, cap, ss, h1, _, hlc, hcm, hss, rfl, hcell, _⟩
    · simp only [List.cons.injEq, and_true] at h1
      exact ⟨none, 0, [], h1, ⟨Nat.le_refl _, Nat.zero_le _⟩, .inl rfl, Nat.zero_le _⟩
    · simp only [List.cons.injEq, and_true] at h1
      have hle : len ≤ ss.length := by rw [hss]; split <;> omega
      refine ⟨some a, cap, ss.take len, by rw [h1, List.length_take, Nat.min_eq_left hle], by rw [List.length_take, Nat.min_eq_left hle]; exact ⟨hlc, hcm⟩, ?_, ?_⟩
      · rcases Nat.eq_zero_or_pos len with rfl | hpos
        · left; simp
        · right
          have hsp := spot_none (a := a) (v := .string (ss.getD 0 ByteArray.empty)) (by have := hcell 0 (by omega); simpa [Addr.add] using this)
          obtain ⟨b, off, sp⟩ := a
          obtain rfl : sp = none := hsp
          refine ⟨b, off, rfl, trivial, fun j v hj => ?_⟩
          rw [List.getElem?_map, List.getElem?_take] at hj
          split at hj
          · rename_i hjl
            have hjs : j < ss.length := by omega
            rw [List.getElem?_eq_getElem hjs] at hj
            simp only [Option.map_some, Option.some.injEq] at hj
            subst hj
            have := hcell j hjs
            rw [add_none] at this
            simpa [hjs] using this
          · simp at hj
      · show _ ≤ Rows.uptoBulk (.slice (strs (ss.take len)) _)
        rw [Rows.uptoBulk, bulk_strs]
        omega
  have hI : ∃ (ai : Option Addr) (ci : Nat) (is : List JV), c4 = .slice ai is.length ci ∧ (is.length ≤ ci ∧ ci ≤ maxLen) ∧ ItemsAt W (fun _ => True) ai is ∧ JV.bulks is ≤ Rows.uptoBulk y4.1 := by
    rcases DataW.trod_slice ty.u4 g4 with ⟨h1, _⟩ | ⟨a, len, cap, elems, rest, q, hq, h1, rfl, _, hlc, hcm, hel, hat, _⟩
    · simp only [List.cons.injEq, and_true] at h1
      exact ⟨none, 0, [], h1, ⟨Nat.le_refl _, Nat.zero_le _⟩, .inl rfl, Nat.zero_le _⟩
    · simp only [List.cons.injEq, and_true] at h1
      rw [hC] at hat
      have hat' : ∀ (i : Nat) (hi : i < elems.length), ∃ cs', W.cells? base (a.add (i * 5)) 5 = some cs' ∧ DataW.trod enc P W base spare held q T cs' = some elems[i] := fun i hi => by
        have := hat i (by omega)
        rw [List.getElem?_eq_getElem hi] at this
        exact Option.bind_eq_some_iff.1 this
      rcases Nat.eq_zero_or_pos len with h0 | hpos
      · subst h0
        exact ⟨some a, cap, [], by rw [h1]; rfl, ⟨Nat.zero_le _, hcm⟩, .inl rfl, Nat.zero_le _⟩
      · have hsp : a.spot = none := by
          obtain ⟨cs', hc, _⟩ := hat' 0 (by omega)
          obtain ⟨_, hl, hcell⟩ := World.cells?_some hc
          have h2 := hcell 0 (by omega)
          rw [List.getElem?_eq_getElem (by omega)] at h2
          exact spot_none (by simpa [Addr.add] using h2)
        obtain ⟨b, off, sp⟩ := a
        obtain rfl : sp = none := hsp
        obtain ⟨ts, t1, t2, t3⟩ := build (W := W) elems b off (fun i hi => by
          obtain ⟨cs', hc, ht⟩ := hat' i hi
          obtain ⟨t, r1, r2⟩ := IH q (by omega) cs' elems[i] ht
          obtain ⟨_, hl, hcell⟩ := World.cells?_some hc
          refine ⟨cs', t, r1, fun j v hj => ?_, r2⟩
          have hj5 : j < 5 := by have := (List.getElem?_eq_some_iff.1 hj).1; omega
          have := hcell j hj5
          rw [add_none, add_none, hj] at this
          exact this)
        refine ⟨_, cap, ts, by rw [h1, t1, hel], by rw [t1, hel]; exact ⟨hlc, hcm⟩, .inr ⟨b, off, rfl, trivial, t2⟩, ?_⟩
        show _ ≤ Rows.uptoBulk (.slice (elems.map (·.1)) _)
        rw [Rows.uptoBulk]
        omega
  obtain ⟨an, cn, ns, rfl, hcn, hst, hbn⟩ := hN
  obtain ⟨ai, ci, is, rfl, hci, hit, hbi⟩ := hI
  refine ⟨.mk k m s ns is, rep_mk.2 ⟨wf_i64 wk, wf_i64 wm, hs, an, cn, ai, ci, rfl, hcn, hci, hst, hit⟩, ?_⟩
  rw [hx, JV.bulk]
  simp only [List.map_cons, List.map_nil, Rows.uptoBulk, Rows.uptoBulkAll]
  have hsz : s.data.toList.length = s.size := by simp
  omega
/-- An argument. -/
theorem value_of (ty : ValTy P T TI TJ TS TN TL f0 f1 f2 f3 f4) {r : Reach} {b0 : Nat} {v : Value} {d : DataW H} {p : List MemPlace} (hv : Value.okWide P W r b0 T v) (h : DataW.Trod enc P W base spare held T v d p) :
    ∃ (t : JV) (cs : List Value), v = .agg cs.toArray ∧ Rep W (fun _ => True) t cs ∧ t.bulk ≤ Rows.uptoBulk d := by
  obtain ⟨cs, rfl, _⟩ := okWide_struct ty.struct hv
  obtain ⟨fuel, hf⟩ := h
  obtain ⟨t, h1, h2⟩ := tree_of ty fuel _ _ hf
  exact ⟨t, cs.toList, by simp, h1, h2⟩
end
theorem valueTy : ∃ f0 f1 f2 f3 f4, ValTy Tryz.prog 25 3 2 9 22 23 f0 f1 f2 f3 f4 :=
  ⟨_, _, _, _, _, Tryz.underlying25, by kernel_rfl, by kernel_rfl, rfl, rfl, rfl, rfl, rfl, Tryz.underlying3, Tryz.underlying2, Tryz.underlying9, Tryz.underlying22, Tryz.underlying23, by kernel_rfl⟩
set_option maxRecDepth 100000 in
theorem value_open {H : Type} {enc : TypeId × Value → H} {W : World} {base : Nat} {spare : Nat → Bool} {held : Bool} {r : Reach} {b0 : Nat} {v : Value} {d : DataW H} {p : List MemPlace} (hv : Value.okWide Tryz.prog W r b0 25 v) (h : DataW.Trod enc Tryz.prog W base spare held 25 v d p) :
    ∃ (t : JV) (cs : List Value), v = .agg cs.toArray ∧ Rep W (fun _ => True) t cs ∧ t.bulk ≤ Rows.uptoBulk d := by
  obtain ⟨f0, f1, f2, f3, f4, ty⟩ := valueTy
  exact value_of ty hv h
end Go.Proofs.YtnmojmmgkipjcaaGreatDoor
