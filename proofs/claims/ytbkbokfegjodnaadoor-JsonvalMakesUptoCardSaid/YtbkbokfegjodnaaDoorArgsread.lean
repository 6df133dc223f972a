/- Arguments of type []string and []api.Value, read as data. Conditions: none. -/
import Derived.Test.YtbkbokfegjodnaaDoorTreeread
namespace Go.Proofs.YtbkbokfegjodnaaDoor
open Go.ChangeShapes Go.WideShapes Go.RowKit Go.Deep
section
variable {P : Program} {T TI TJ TS TN TL : TypeId} {f0 f1 f2 f3 f4 : Field}
variable {H : Type} {enc : TypeId × Value → H} {W : World} {base : Nat} {spare : Nat → Bool} {held : Bool}
theorem strs_of (ty : ValTy P T TI TJ TS TN TL f0 f1 f2 f3 f4) {r : Reach} {b0 : Nat} {v : Value} {d : DataW H} {p : List MemPlace} (hv : Value.okWide P W r b0 TN v) (h : DataW.Trod enc P W base spare held TN v d p) :
    ∃ (an : Option Addr) (cn : Nat) (ns : List ByteArray), v = .slice an ns.length cn ∧ (ns.length ≤ cn ∧ cn ≤ maxLen) ∧ StrsAt W (fun _ => True) an ns ∧ strsBulk ns ≤ Rows.uptoBulk d := by
  obtain ⟨a0, len0, cap0, rfl⟩ := okWide_slice ty.u3 hv
  obtain ⟨fuel, hf⟩ := h
  have g3 : DataW.trod enc P W base spare held fuel TN [.slice a0 len0 cap0] = some (d, p) := hf
  rcases open_strings ty.u3 ty.u2 ty.cS g3 with ⟨h1, _⟩ | ⟨a, len, cap, ss, h1, _, hlc, hcm, hss, hd, hcell, _⟩
  · simp only [List.cons.injEq, and_true] at h1
    exact ⟨none, 0, [], h1, ⟨Nat.le_refl _, Nat.zero_le _⟩, .inl rfl, Nat.zero_le _⟩
  · simp only [List.cons.injEq, and_true] at h1
    injection hd with hd _
    subst hd
    have hle : len ≤ ss.length := by rw [hss]; split <;> omega
    refine ⟨some a, cap, ss.take len, by rw [h1, List.length_take, Nat.min_eq_left hle], by rw [List.length_take, Nat.min_eq_left hle]; exact ⟨hlc, hcm⟩, ?_, ?_⟩
    · rcases Nat.eq_zero_or_pos len with rfl | hpos
      · left; simp
      · right
        have hsp := spot_none (a := a) (v := .string (ss.getD 0 ByteArray.empty)) (by have := hcell 0 (by omega); simpa [Addr.add] using this)
        obtain ⟨b, off, sp⟩ := a
        obtain rfl : sp = none := hsp
        refine ⟨b, off, rfl, trivial, fun j v hj => ?_⟩
        rw [List.getElem?_map, List.getElem?_take] at hj
        split at hj
        · rename_i hjl
          have hjs : j < ss.length := by omega
          rw [List.getElem?_eq_getElem hjs] at hj
          simp only [Option.map_some, Option.some.injEq] at hj
          subst hj
          have := hcell j hjs
          rw [add_none] at this
          simpa [hjs] using this
        · simp at hj
    · rw [Rows.uptoBulk, bulk_strs]
      omega
theorem vals_of (ty : ValTy P T TI TJ TS TN TL f0 f1 f2 f3 f4) {r : Reach} {b0 : Nat} {v : Value} {d : DataW H} {p : List MemPlace} (hv : Value.okWide P W r b0 TL v) (h : DataW.Trod enc P W base spare held TL v d p) :
    ∃ (ai : Option Addr) (ci : Nat) (is : List JV), v = .slice ai is.length ci ∧ (is.length ≤ ci ∧ ci ≤ maxLen) ∧ ItemsAt W (fun _ => True) ai is ∧ JV.bulks is ≤ Rows.uptoBulk d := by
  obtain ⟨a0, len0, cap0, rfl⟩ := okWide_slice ty.u4 hv
  obtain ⟨fuel, hf⟩ := h
  have g4 : DataW.trod enc P W base spare held fuel TL [.slice a0 len0 cap0] = some (d, p) := hf
  have hC := ty.cells
  rcases DataW.trod_slice ty.u4 g4 with ⟨h1, _⟩ | ⟨a, len, cap, elems, rest, q, hq, h1, hd, _, hlc, hcm, hel, hat, _⟩
  · simp only [List.cons.injEq, and_true] at h1
    exact ⟨none, 0, [], h1, ⟨Nat.le_refl _, Nat.zero_le _⟩, .inl rfl, Nat.zero_le _⟩
  · simp only [List.cons.injEq, and_true] at h1
    injection hd with hd _
    subst hd
    rw [hC] at hat
    have hat' : ∀ (i : Nat) (hi : i < elems.length), ∃ cs', W.cells? base (a.add (i * 5)) 5 = some cs' ∧ DataW.trod enc P W base spare held q T cs' = some elems[i] := fun i hi => by
      have := hat i (by omega)
      rw [List.getElem?_eq_getElem hi] at this
      exact Option.bind_eq_some_iff.1 this
    rcases Nat.eq_zero_or_pos len with h0 | hpos
    · subst h0
      exact ⟨some a, cap, [], by rw [h1]; rfl, ⟨Nat.zero_le _, hcm⟩, .inl rfl, Nat.zero_le _⟩
    · have hsp : a.spot = none := by
        obtain ⟨cs', hc, _⟩ := hat' 0 (by omega)
        obtain ⟨_, hl, hcell⟩ := World.cells?_some hc
        have h2 := hcell 0 (by omega)
        rw [List.getElem?_eq_getElem (by omega)] at h2
        exact spot_none (by simpa [Addr.add] using h2)
      obtain ⟨b, off, sp⟩ := a
      obtain rfl : sp = none := hsp
      obtain ⟨ts, t1, t2, t3⟩ := build (W := W) elems b off (fun i hi => by
        obtain ⟨cs', hc, ht⟩ := hat' i hi
        obtain ⟨t, r1, r2⟩ := tree_of ty q cs' elems[i] ht
        obtain ⟨_, hl, hcell⟩ := World.cells?_some hc
        refine ⟨cs', t, r1, fun j v hj => ?_, r2⟩
        have hj5 : j < 5 := by have := (List.getElem?_eq_some_iff.1 hj).1; omega
        have := hcell j hj5
        rw [add_none, add_none, hj] at this
        exact this)
      refine ⟨_, cap, ts, by rw [h1, t1, hel], by rw [t1, hel]; exact ⟨hlc, hcm⟩, .inr ⟨b, off, rfl, trivial, t2⟩, ?_⟩
      rw [Rows.uptoBulk]
      omega
end
set_option maxRecDepth 100000 in
theorem strs_open {H : Type} {enc : TypeId × Value → H} {W : World} {base : Nat} {spare : Nat → Bool} {held : Bool} {r : Reach} {b0 : Nat} {v : Value} {d : DataW H} {p : List MemPlace} (hv : Value.okWide Tryd.prog W r b0 25 v) (h : DataW.Trod enc Tryd.prog W base spare held 25 v d p) :
    ∃ (an : Option Addr) (cn : Nat) (ns : List ByteArray), v = .slice an ns.length cn ∧ (ns.length ≤ cn ∧ cn ≤ maxLen) ∧ StrsAt W (fun _ => True) an ns ∧ strsBulk ns ≤ Rows.uptoBulk d := by
  obtain ⟨f0, f1, f2, f3, f4, ty⟩ := valueTy
  exact strs_of ty hv h
set_option maxRecDepth 100000 in
theorem vals_open {H : Type} {enc : TypeId × Value → H} {W : World} {base : Nat} {spare : Nat → Bool} {held : Bool} {r : Reach} {b0 : Nat} {v : Value} {d : DataW H} {p : List MemPlace} (hv : Value.okWide Tryd.prog W r b0 26 v) (h : DataW.Trod enc Tryd.prog W base spare held 26 v d p) :
    ∃ (ai : Option Addr) (ci : Nat) (is : List JV), v = .slice ai is.length ci ∧ (is.length ≤ ci ∧ ci ≤ maxLen) ∧ ItemsAt W (fun _ => True) ai is ∧ JV.bulks is ≤ Rows.uptoBulk d := by
  obtain ⟨f0, f1, f2, f3, f4, ty⟩ := valueTy
  exact vals_of ty hv h
/-- names and items as one value of kind 0 -/
theorem both_rep {W : World} {ok : Nat → Prop} {ns : List ByteArray} {is : List JV} {an ai : Option Addr} {cn ci : Nat} (hn : ns.length ≤ cn ∧ cn ≤ maxLen) (hi : is.length ≤ ci ∧ ci ≤ maxLen) (hs : StrsAt W ok an ns) (ht : ItemsAt W ok ai is) :
    Rep W ok (.mk 0 0 ⟨#[]⟩ ns is) [.int .i64 0, .int .i64 0, .string ⟨#[]⟩, .slice an ns.length cn, .slice ai is.length ci] :=
  rep_mk.2 ⟨by decide, by decide, by decide, an, cn, ai, ci, rfl, hn, hi, hs, ht⟩
theorem both_bulk {ns : List ByteArray} {is : List JV} {a b : Nat} (h1 : strsBulk ns ≤ a) (h2 : JV.bulks is ≤ b) (h : a + b ≤ 1048577) : (JV.mk 0 0 ⟨#[]⟩ ns is).bulk ≤ 1099511627776 := by
  rw [JV.bulk]
  have h1 : (⟨#[]⟩ : ByteArray).size = 0 := rfl
  omega
end Go.Proofs.YtbkbokfegjodnaaDoor
