/- Arguments: bytes, messages. Conditions: none. -/
import Derived.Test.YtkpickojeghppaaDoorTabs
import Derived.Test.YtkpickojeghppaaDoorWback
import Derived.Lib.SmallJoins
import Derived.Deep.Slices
import Derived.Deep.Fields
import Derived.ChangeSame
namespace Go.Proofs.YtkpickojeghppaaDoor
open Go.Joins Go.ChangeShapes Go.WideShapes Go.RowKit Go.Deep
theorem wf_u8 {n : Int} (h : (Lit.int .u8 n).wf = true) : 0 ≤ n ∧ n ≤ 255 := by
  simp [Lit.wf, IntKind.min, IntKind.max, IntKind.bits, IntKind.signed] at h; omega
theorem wf_u32 {n : Int} (h : (Lit.int .u32 n).wf = true) : 0 ≤ n ∧ n ≤ 4294967295 := by
  simp [Lit.wf, IntKind.min, IntKind.max, IntKind.bits, IntKind.signed] at h; omega
theorem wf_i64 {n : Int} (h : (Lit.int .i64 n).wf = true) : -9223372036854775808 ≤ n ∧ n ≤ 9223372036854775807 := by
  simp [Lit.wf, IntKind.min, IntKind.max, IntKind.bits, IntKind.signed] at h; omega
theorem spot_none {w : World} {a : Addr} {v : Value} (h : w.cell? a = some v) : a.spot = none := by
  cases e : a.spot with
  | none => rfl
  | some n =>
    unfold World.cell? at h
    rw [e] at h
    split at h <;> simp at h
theorem add_none (b o j : Nat) : (⟨b, o, none⟩ : Addr).add j = ⟨b, o + j, none⟩ := by unfold Addr.add; split <;> simp_all
theorem bytes_of {P : Program} {T E : TypeId} {H : Type} {enc : TypeId × Value → H} {W : World} {base : Nat} {spare : Nat → Bool} {held : Bool} {r : Reach} {b0 : Nat} {v : Value} {d : DataW H} {p : List MemPlace}
    (ht : P.underlying T = some (.slice E)) (he : P.underlying E = some (.int .u8)) (hc : P.cellsOf E = 1) (hv : Value.okWide P W r b0 T v) (h : DataW.Trod enc P W base spare held T v d p) :
    ∃ (A : Option Addr) (l : List UInt8) (c : Nat), v = .slice A l.length c ∧ l.length ≤ c ∧ c ≤ maxLen ∧ BytesIn W A l := by
  obtain ⟨a0, len0, cap0, rfl⟩ := okWide_slice ht hv
  obtain ⟨fuel, hf⟩ := h
  have hf' : DataW.trod enc P W base spare held fuel T [.slice a0 len0 cap0] = some (d, p) := hf
  rcases open_ints ht he hc hf' with ⟨h1, h2⟩ | ⟨a, len, cap, zs, h1, _, hlc, hcm, hz, h2, hcell, hwf⟩
  · injection h1 with h1 _
    injection h1 with e1 e2 e3
    subst e1; subst e2; subst e3
    exact ⟨none, [], 0, rfl, Nat.zero_le _, Nat.zero_le _, .inl rfl⟩
  · injection h1 with h1 _
    injection h1 with e1 e2 e3
    subst e1; subst e2; subst e3
    have hlz : len0 ≤ zs.length := by rw [hz]; split <;> omega
    have hl : ((zs.take len0).map (fun z => UInt8.ofNat z.toNat)).length = len0 := by rw [List.length_map, List.length_take]; omega
    refine ⟨some a, (zs.take len0).map (fun z => UInt8.ofNat z.toNat), cap0, by rw [hl], by rw [hl]; exact hlc, hcm, ?_⟩
    by_cases h0 : len0 = 0
    · left; subst h0; simp
    · right
      have hsp : a.spot = none := spot_none (w := W) (a := a) (v := .int .u8 (zs.getD 0 0)) (by have := hcell 0 (by omega); simpa [Addr.add] using this)
      obtain ⟨B, o, sp⟩ := a
      obtain rfl : sp = none := hsp
      refine ⟨B, o, rfl, fun j u hj => ?_⟩
      unfold bytesV at hj
      rw [List.map_map, List.getElem?_map] at hj
      have hjl : j < len0 := by
        rcases Nat.lt_or_ge j len0 with h | h
        · exact h
        · rw [List.getElem?_eq_none (by rw [List.length_take]; omega)] at hj; cases hj
      have hjz : j < zs.length := by omega
      rw [List.getElem?_take, if_pos hjl, List.getElem?_eq_getElem hjz] at hj
      injection hj with hj
      have h4 := hcell j hjz
      rw [add_none] at h4
      have h5 := wf_u8 (hwf zs[j] (List.getElem_mem hjz))
      rw [h4, ← hj]
      congr 2
      show zs.getD j 0 = (((UInt8.ofNat zs[j].toNat).toNat : Nat) : Int)
      rw [UInt8.toNat_ofNat', List.getD, List.getElem?_eq_getElem hjz, Option.getD_some]
      omega
section
variable {H : Type} {enc : TypeId × Value → H} {P : Program} {w : World} {base : Nat} {spare : Nat → Bool} {held : Bool}
theorem open_agg5 {r : Reach} {b0 : Nat} {t : TypeId} {f0 f1 f2 f3 f4 : Field} {v : Value} {d : DataW H} {p : List MemPlace} (hs : P.underlying t = some (.struct #[f0, f1, f2, f3, f4])) (hone : oneCellFields P #[f0, f1, f2, f3, f4] = true) (hC : P.cellsOf t = 5)
    (hv : Value.okWide P w r b0 t v) (h : DataW.Trod enc P w base spare held t v d p) :
    ∃ (v0 v1 v2 v3 v4 : Value) (y0 y1 y2 y3 y4 : DataW H × List MemPlace) (n : Nat), v = .agg #[v0, v1, v2, v3, v4] ∧
      DataW.trod enc P w base spare held n f0.type [v0] = some y0 ∧ DataW.trod enc P w base spare held n f1.type [v1] = some y1 ∧ DataW.trod enc P w base spare held n f2.type [v2] = some y2 ∧ DataW.trod enc P w base spare held n f3.type [v3] = some y3 ∧ DataW.trod enc P w base spare held n f4.type [v4] = some y4 := by
  obtain ⟨cs, rfl, hsz⟩ := okWide_struct hs hv
  obtain ⟨l⟩ := cs
  match l, hsz.trans hC with
  | [c0, c1, c2, c3, c4], _ =>
    obtain ⟨fuel, hf⟩ := h
    obtain ⟨xs, n, _, hx, _, hlen, hg⟩ := DataW.trod_struct hs hf
    obtain ⟨o0, k0⟩ := hone_of hone 0 f0 rfl
    obtain ⟨o1, k1⟩ := hone_of hone 1 f1 rfl
    obtain ⟨o2, k2⟩ := hone_of hone 2 f2 rfl
    obtain ⟨o3, k3⟩ := hone_of hone 3 f3 rfl
    obtain ⟨o4, k4⟩ := hone_of hone 4 f4 rfl
    match xs, hlen with
    | [y0, y1, y2, y3, y4], _ =>
      exact ⟨c0, c1, c2, c3, c4, y0, y1, y2, y3, y4, n, rfl, by simpa [Value.cells, o0, k0] using hg 0 f0 rfl, by simpa [Value.cells, o1, k1] using hg 1 f1 rfl, by simpa [Value.cells, o2, k2] using hg 2 f2 rfl, by simpa [Value.cells, o3, k3] using hg 3 f3 rfl, by simpa [Value.cells, o4, k4] using hg 4 f4 rfl⟩
end
set_option maxRecDepth 100000 in
theorem msg_open {H : Type} {enc : TypeId × Value → H} {w : World} {base : Nat} {spare : Nat → Bool} {held : Bool} {r : Reach} {b0 : Nat} {v : Value} {d : DataW H} {p : List MemPlace}
    (hv : Value.okWide Tryd.prog w r b0 27 v) (h : DataW.Trod enc Tryd.prog w base spare held 27 v d p) : ∃ m : WMsg, v = .agg (msgV m).toArray ∧ MsgIn m := by
  obtain ⟨v0, v1, v2, v3, v4, y0, y1, y2, y3, y4, n, rfl, h0, h1, h2, h3, h4⟩ := open_agg5 Tryd.underlying27 (by kernel_rfl) (by kernel_rfl) hv h
  obtain ⟨a, e0, _, w0⟩ := DataW.trod_int Tryd.underlying25 h0
  obtain ⟨b, e1, _, w1⟩ := DataW.trod_int Tryd.underlying25 h1
  obtain ⟨c, e2, _, w2⟩ := DataW.trod_int Tryd.underlying3 h2
  obtain ⟨s, e3, _, hs⟩ := DataW.trod_string Tryd.underlying9 h3
  obtain ⟨q, e4, _⟩ := DataW.trod_bool Tryd.underlying4 h4
  obtain rfl : v0 = .int .u32 a := by injection e0
  obtain rfl : v1 = .int .u32 b := by injection e1
  obtain rfl : v2 = .int .i64 c := by injection e2
  obtain rfl : v3 = .string s := by injection e3
  obtain rfl : v4 = .bool q := by injection e4
  have g0 := wf_u32 w0
  have g1 := wf_u32 w1
  have g2 := wf_i64 w2
  refine ⟨⟨a.toNat, b.toNat, c, s, q⟩, ?_, ?_⟩
  · have ea : ((a.toNat : Nat) : Int) = a := by omega
    have eb : ((b.toNat : Nat) : Int) = b := by omega
    show _ = Value.agg #[.int .u32 ((a.toNat : Nat) : Int), .int .u32 ((b.toNat : Nat) : Int), .int .i64 c, .string s, .bool q]
    rw [ea, eb]
  · unfold maxLen at hs
    exact ⟨by show a.toNat < _; omega, by show b.toNat < _; omega, g2.1, g2.2, hs⟩
end Go.Proofs.YtkpickojeghppaaDoor
