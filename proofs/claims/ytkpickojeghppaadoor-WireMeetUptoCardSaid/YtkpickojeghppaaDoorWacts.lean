/- Arguments: acts, numbers. Conditions: none. -/
import Derived.Test.YtkpickojeghppaaDoorMsgs
import Derived.Test.YtkpickojeghppaaDoorWtold
namespace Go.Proofs.YtkpickojeghppaaDoor
open Go.Joins Go.ChangeShapes Go.WideShapes Go.RowKit Go.Deep
section
variable {H : Type} {enc : TypeId × Value → H} {P : Program} {w : World} {base : Nat} {spare : Nat → Bool} {held : Bool}
theorem open_slice_fields {t e : TypeId} {fs : Array Field} {fuel : Nat} {cs : List Value} {x : DataW H × List MemPlace} (ht : P.underlying t = some (.slice e)) (he : P.underlying e = some (.struct fs))
    (hone : oneCellFields P fs = true) (hC : P.cellsOf e = fs.size) (h : DataW.trod enc P w base spare held fuel t cs = some x) :
    (cs = [.slice none 0 0] ∧ x.1 = .nil) ∨
    ∃ (a : Addr) (len cap m : Nat) (D : Nat → DataW H) (Q : List (DataW H)), cs = [.slice (some a) len cap] ∧ len ≤ cap ∧ cap ≤ maxLen ∧ len ≤ m ∧
      x.1 = .slice ((List.range len).map D) Q ∧
      ∀ i, i < m → ∃ (ys : List (DataW H × List MemPlace)) (n : Nat), D i = .agg (ys.map (·.1)) ∧ ys.length = fs.size ∧
        ∀ (j : Nat) (f : Field), fs[j]? = some f → ∃ (v : Value) (y : DataW H × List MemPlace), w.cell? (a.add (i * fs.size + j)) = some v ∧ ys[j]? = some y ∧ DataW.trod enc P w base spare held n f.type [v] = some y := by
  rcases open_slice ht h with ⟨h0, h1⟩ | ⟨a, len, cap, m, n, D, Pl, hcs, hb, hl, hm, hmm, hx, hi⟩
  · exact .inl ⟨h0, by rw [h1]⟩
  · refine .inr ⟨a, len, cap, m, D, _, hcs, hl, hm, by rw [hmm]; split <;> omega, by rw [hx], fun i him => ?_⟩
    obtain ⟨cs', hc, ht'⟩ := hi i him
    rw [hC] at hc
    obtain ⟨ys, n', hn', hy, hlen, hyl, hf⟩ := DataW.trod_struct he ht'
    obtain ⟨_, hcl, hat⟩ := World.cells?_some hc
    simp only [Prod.mk.injEq] at hy
    refine ⟨ys, n', hy.1, hyl, fun j f hj => ?_⟩
    obtain ⟨ho, hk⟩ := hone_of hone j f hj
    have hjl : j < fs.size := (Array.getElem?_eq_some_iff.1 hj).1
    have hcell := hat j hjl
    have hv : cs'[j]? = some (cs'[j]'(by omega)) := List.getElem?_eq_getElem (by omega)
    have h1 := hf j f hj
    rw [ho, hk] at h1
    have hone' : (cs'.drop j).take 1 = [cs'[j]'(by omega)] := by
      rw [List.drop_eq_getElem_cons (by omega)]
      rfl
    rw [hone'] at h1
    have hys : ys[j]? = some (ys[j]'(by omega)) := List.getElem?_eq_getElem (by omega)
    refine ⟨_, _, ?_, hys, h1.trans hys⟩
    rw [← Go.Deep.add_add, hcell, hv]
end
theorem msgsV_len (l : List WMsg) : (msgsV l).length = l.length * 5 := by
  induction l with
  | nil => rfl
  | cons x r ih => show (msgV x ++ msgsV r).length = _; rw [List.length_append, ih, List.length_cons]; show 5 + _ = _; omega
theorem build {α : Type} (Q : Nat → α → Prop) : ∀ n : Nat, (∀ i, i < n → ∃ x, Q i x) → ∃ l : List α, l.length = n ∧ ∀ i (h : i < l.length), Q i l[i]
  | 0, _ => ⟨[], rfl, fun i h => by simp at h⟩
  | n + 1, h => by
    obtain ⟨l, hl, hq⟩ := build Q n (fun i hi => h i (by omega))
    obtain ⟨x, hx⟩ := h n (by omega)
    refine ⟨l ++ [x], by simp [hl], fun i hi => ?_⟩
    rcases Nat.lt_or_ge i l.length with h1 | h1
    · rw [List.getElem_append_left h1]; exact hq i h1
    · have : i = l.length := by simp at hi; omega
      subst this
      rw [List.getElem_append_right (Nat.le_refl _)]
      simp
      rw [hl]; exact hx
theorem bulk_lits {H : Type} (k : IntKind) (zs : List Int) : Rows.uptoBulkAll (lits (H := H) k zs) = zs.length := by
  induction zs with
  | nil => rfl
  | cons z r ih =>
    show Rows.uptoBulkAll (DataW.lit (.int k z) :: lits k r) = _
    rw [Rows.uptoBulkAll, ih, Rows.uptoBulk, List.length_cons]
    · omega
    · intro b h; cases h
theorem bulk_int {H : Type} (k : IntKind) (z : Int) : Rows.uptoBulk (H := H) (.lit (.int k z)) = 1 := by rw [Rows.uptoBulk]; intro b h; cases h
theorem bulk_bool {H : Type} (z : Bool) : Rows.uptoBulk (H := H) (.lit (.bool z)) = 1 := by rw [Rows.uptoBulk]; intro b h; cases h
theorem bulk_str {H : Type} (s : ByteArray) : Rows.uptoBulk (H := H) (.lit (.string s.data.toList)) = s.size + 1 := by rw [Rows.uptoBulk]; simp
theorem bulk_map {H : Type} (D : Nat → DataW H) (f : Nat → Nat) : ∀ (l : List Nat), (∀ i ∈ l, f i ≤ Rows.uptoBulk (D i)) → (l.map f).sum ≤ Rows.uptoBulkAll (l.map D)
  | [], _ => by simp [Rows.uptoBulkAll]
  | i :: r, h => by
    have h1 := h i (.head _)
    have h2 := bulk_map D f r (fun j hj => h j (.tail _ hj))
    simp only [List.map_cons, List.sum_cons, Rows.uptoBulkAll]
    omega
theorem sum_get {α : Type} (f : α → Nat) (l : List α) (g : Nat → Nat) (h : ∀ i (h : i < l.length), g i = f l[i]) : (l.map f).sum = ((List.range l.length).map g).sum := by
  congr 1
  apply List.ext_getElem
  · simp
  · intro i h1 h2
    simp at h1
    simp [h i h1]
section
variable {H : Type} {enc : TypeId × Value → H} {w : World} {base : Nat} {spare : Nat → Bool} {held : Bool} {fuel : Nat} {v : Value} {y : DataW H × List MemPlace}
theorem bytes_trod (h : DataW.trod enc Tryd.prog w base spare held fuel 28 [v] = some y) :
    ∃ (A : Option Addr) (l : List UInt8) (c : Nat), v = .slice A l.length c ∧ l.length ≤ c ∧ c ≤ maxLen ∧ BytesIn w A l ∧ l.length ≤ Rows.uptoBulk y.1 := by
  rcases open_ints Tryd.underlying28 Tryd.underlying5 (by kernel_rfl) h with ⟨h1, h2⟩ | ⟨a, len, cap, zs, h1, _, hlc, hcm, hz, h2, hcell, hwf⟩
  · injection h1 with h1 _
    exact ⟨none, [], 0, h1, Nat.zero_le _, Nat.zero_le _, .inl rfl, Nat.zero_le _⟩
  · injection h1 with h1 _
    have hlz : len ≤ zs.length := by rw [hz]; split <;> omega
    have hl : ((zs.take len).map (fun z => UInt8.ofNat z.toNat)).length = len := by rw [List.length_map, List.length_take]; omega
    refine ⟨some a, (zs.take len).map (fun z => UInt8.ofNat z.toNat), cap, by rw [hl]; exact h1, by rw [hl]; exact hlc, hcm, ?_, ?_⟩
    · by_cases h0 : len = 0
      · left; subst h0; simp
      · right
        have hsp : a.spot = none := spot_none (w := w) (a := a) (v := .int .u8 (zs.getD 0 0)) (by have := hcell 0 (by omega); simpa [Addr.add] using this)
        obtain ⟨B, o, sp⟩ := a
        obtain rfl : sp = none := hsp
        refine ⟨B, o, rfl, fun j u hj => ?_⟩
        unfold bytesV at hj
        rw [List.map_map, List.getElem?_map] at hj
        have hjl : j < len := by
          rcases Nat.lt_or_ge j len with h | h
          · exact h
          · rw [List.getElem?_eq_none (by rw [List.length_take]; omega)] at hj; cases hj
        have hjz : j < zs.length := by omega
        rw [List.getElem?_take, if_pos hjl, List.getElem?_eq_getElem hjz] at hj
        injection hj with hj
        have h4 := hcell j hjz
        rw [add_none] at h4
        have h5 := wf_u8 (hwf zs[j] (List.getElem_mem hjz))
        rw [h4, ← hj]
        congr 2
        show zs.getD j 0 = (((UInt8.ofNat zs[j].toNat).toNat : Nat) : Int)
        rw [UInt8.toNat_ofNat', List.getD, List.getElem?_eq_getElem hjz, Option.getD_some]
        omega
    · rw [hl, h2]
      simp only
      rw [Rows.uptoBulk, bulk_lits, List.length_take]
      omega
theorem ints_trod (h : DataW.trod enc Tryd.prog w base spare held fuel 43 [v] = some y) :
    ∃ (A : Option Addr) (l : List Int) (c : Nat), v = .slice A l.length c ∧ l.length ≤ c ∧ c ≤ maxLen ∧ IntsIn w A l := by
  rcases open_ints Tryd.underlying43 Tryd.underlying3 (by kernel_rfl) h with ⟨h1, h2⟩ | ⟨a, len, cap, zs, h1, _, hlc, hcm, hz, h2, hcell, hwf⟩
  · injection h1 with h1 _
    exact ⟨none, [], 0, h1, Nat.zero_le _, Nat.zero_le _, .inl rfl⟩
  · injection h1 with h1 _
    have hlz : len ≤ zs.length := by rw [hz]; split <;> omega
    have hl : (zs.take len).length = len := by rw [List.length_take]; omega
    refine ⟨some a, zs.take len, cap, by rw [hl]; exact h1, by rw [hl]; exact hlc, hcm, ?_⟩
    by_cases h0 : len = 0
    · left; subst h0; simp
    · right
      have hsp : a.spot = none := spot_none (w := w) (a := a) (v := .int .i64 (zs.getD 0 0)) (by have := hcell 0 (by omega); simpa [Addr.add] using this)
      obtain ⟨B, o, sp⟩ := a
      obtain rfl : sp = none := hsp
      refine ⟨B, o, rfl, fun j u hj => ?_⟩
      rw [List.getElem?_map] at hj
      have hjl : j < len := by
        rcases Nat.lt_or_ge j len with h | h
        · exact h
        · rw [List.getElem?_eq_none (by rw [List.length_take]; omega)] at hj; cases hj
      have hjz : j < zs.length := by omega
      rw [List.getElem?_take, if_pos hjl, List.getElem?_eq_getElem hjz] at hj
      injection hj with hj
      have h4 := hcell j hjz
      rw [add_none] at h4
      rw [h4, ← hj, List.getD, List.getElem?_eq_getElem hjz, Option.getD_some]
set_option maxRecDepth 100000 in
theorem msgs_trod (h : DataW.trod enc Tryd.prog w base spare held fuel 46 [v] = some y) :
    ∃ (A : Option Addr) (l : List WMsg) (c : Nat), v = .slice A l.length c ∧ l.length ≤ c ∧ c ≤ maxLen ∧ MsgsIn w A l ∧ (∀ m ∈ l, MsgIn m) ∧ msgsW l ≤ Rows.uptoBulk y.1 := by
  rcases open_slice_fields Tryd.underlying46 Tryd.underlying27 (by kernel_rfl) (by kernel_rfl) h with ⟨h1, h2⟩ | ⟨a, len, cap, m, D, Q, h1, hlc, hcm, hlm, h2, hD⟩
  · injection h1 with h1 _
    exact ⟨none, [], 0, h1, Nat.zero_le _, Nat.zero_le _, .inl rfl, fun m hm => (by cases hm), Nat.zero_le _⟩
  · injection h1 with h1 _
    obtain ⟨l, hll, hl⟩ := build (fun i (m : WMsg) => MsgIn m ∧ (∀ j (hj : j < 5), w.cell? (a.add (i * 5 + j)) = (msgV m)[j]?) ∧ m.body.size + 6 ≤ Rows.uptoBulk (D i)) len (fun i hi => by
      obtain ⟨ys, n, hDi, hyl, hf⟩ := hD i (by omega)
      obtain ⟨v0, y0, hc0, hy0, t0⟩ := hf 0 _ rfl
      obtain ⟨v1, y1, hc1, hy1, t1⟩ := hf 1 _ rfl
      obtain ⟨v2, y2, hc2, hy2, t2⟩ := hf 2 _ rfl
      obtain ⟨v3, y3, hc3, hy3, t3⟩ := hf 3 _ rfl
      obtain ⟨v4, y4, hc4, hy4, t4⟩ := hf 4 _ rfl
      obtain ⟨na, e0, x0, w0⟩ := DataW.trod_int Tryd.underlying25 t0
      obtain ⟨nb, e1, x1, w1⟩ := DataW.trod_int Tryd.underlying25 t1
      obtain ⟨nc, e2, x2, w2⟩ := DataW.trod_int Tryd.underlying3 t2
      obtain ⟨s, e3, x3, hs⟩ := DataW.trod_string Tryd.underlying9 t3
      obtain ⟨q, e4, x4⟩ := DataW.trod_bool Tryd.underlying4 t4
      injection e0 with e0 _
      injection e1 with e1 _
      injection e2 with e2 _
      injection e3 with e3 _
      injection e4 with e4 _
      subst e0; subst e1; subst e2; subst e3; subst e4
      have g0 := wf_u32 w0
      have g1 := wf_u32 w1
      have g2 := wf_i64 w2
      have ea : ((na.toNat : Nat) : Int) = na := by omega
      have eb : ((nb.toNat : Nat) : Int) = nb := by omega
      refine ⟨⟨na.toNat, nb.toNat, nc, s, q⟩, ⟨by show na.toNat < _; omega, by show nb.toNat < _; omega, g2.1, g2.2, by unfold maxLen at hs; exact hs⟩, fun j hj => ?_, ?_⟩
      · have hv : msgV ⟨na.toNat, nb.toNat, nc, s, q⟩ = [.int .u32 na, .int .u32 nb, .int .i64 nc, .string s, .bool q] := by
          show [Value.int .u32 ((na.toNat : Nat) : Int), .int .u32 ((nb.toNat : Nat) : Int), .int .i64 nc, .string s, .bool q] = _
          rw [ea, eb]
        rw [hv]
        have : j = 0 ∨ j = 1 ∨ j = 2 ∨ j = 3 ∨ j = 4 := by omega
        rcases this with rfl | rfl | rfl | rfl | rfl
        · exact hc0
        · exact hc1
        · exact hc2
        · exact hc3
        · exact hc4
      · have hys : ys = [y0, y1, y2, y3, y4] := by
          match ys, hyl with
          | [z0, z1, z2, z3, z4], _ =>
            simp at hy0 hy1 hy2 hy3 hy4
            rw [hy0, hy1, hy2, hy3, hy4]
        rw [hDi, hys, x0, x1, x2, x3, x4]
        simp only [List.map_cons, List.map_nil]
        rw [Rows.uptoBulk]
        simp only [Rows.uptoBulkAll, bulk_int, bulk_bool, bulk_str]
        show s.size + 6 ≤ _
        omega)
    subst hll
    refine ⟨some a, l, cap, h1, hlc, hcm, ?_, fun m hm => ?_, ?_⟩
    · by_cases h0 : l = []
      · exact .inl h0
      · right
        have hpos : 0 < l.length := by
          rcases Nat.eq_zero_or_pos l.length with h | h
          · exact absurd (List.eq_nil_of_length_eq_zero h) h0
          · exact h
        have hsp : a.spot = none := spot_none (w := w) (a := a) (v := .int .u32 ((l[0]).id : Int)) (by have h := (hl 0 hpos).2.1 0 (by omega); rw [show (msgV l[0])[0]? = some (.int .u32 ((l[0]).id : Int)) from rfl] at h; simpa [Addr.add] using h)
        obtain ⟨B, o, sp⟩ := a
        obtain rfl : sp = none := hsp
        refine ⟨B, o, rfl, fun j u hj => ?_⟩
        have hjl : j < l.length * 5 := by
          rw [← msgsV_len l]; exact (List.getElem?_eq_some_iff.1 hj).1
        have hk : j / 5 < l.length := by omega
        have hg := msgsV_get l (j / 5) hk (j % 5) (Nat.mod_lt _ (by omega))
        rw [show j / 5 * 5 + j % 5 = j by omega] at hg
        have hc := (hl (j / 5) hk).2.1 (j % 5) (Nat.mod_lt _ (by omega))
        rw [add_none, show j / 5 * 5 + j % 5 = j by omega] at hc
        rw [hc, ← hg, hj]
    · obtain ⟨i, hi, rfl⟩ := List.getElem_of_mem hm
      exact (hl i hi).1
    · rw [h2]
      rw [Rows.uptoBulk]
      have e := sum_get (fun m : WMsg => m.body.size + 6) l (fun i => if h : i < l.length then (l[i]).body.size + 6 else 0) (fun i h => by simp [h])
      have hb := bulk_map D (fun i => if h : i < l.length then (l[i]).body.size + 6 else 0) (List.range l.length) (fun i hi => by
        have hi' := List.mem_range.1 hi
        show (if h : i < l.length then (l[i]).body.size + 6 else 0) ≤ _
        rw [dif_pos hi']
        exact (hl i hi').2.2)
      unfold msgsW
      rw [e]
      omega
set_option maxRecDepth 100000 in
theorem acts_trod (h : DataW.trod enc Tryd.prog w base spare held fuel 42 [v] = some y) :
    ∃ (A : Option Addr) (l : List ActP) (c : Nat), v = .slice A l.length c ∧ l.length ≤ c ∧ c ≤ maxLen ∧ ActsIn w A l ∧ actsW l ≤ Rows.uptoBulk y.1 := by
  rcases open_slice_fields Tryd.underlying42 Tryd.underlying48 (by kernel_rfl) (by kernel_rfl) h with ⟨h1, h2⟩ | ⟨a, len, cap, m, D, Q, h1, hlc, hcm, hlm, h2, hD⟩
  · injection h1 with h1 _
    exact ⟨none, [], 0, h1, Nat.zero_le _, Nat.zero_le _, .inl rfl, Nat.zero_le _⟩
  · injection h1 with h1 _
    obtain ⟨l, hll, hl⟩ := build (fun i (x : ActP) => (∃ Ar cr Am cm, ActV w x Ar cr Am cm ∧ ∀ j (hj : j < 4), w.cell? (a.add (i * 4 + j)) = (actV x Ar cr Am cm)[j]?) ∧ x.wt + 1 ≤ Rows.uptoBulk (D i)) len (fun i hi => by
      obtain ⟨ys, n, hDi, hyl, hf⟩ := hD i (by omega)
      obtain ⟨v0, y0, hc0, hy0, t0⟩ := hf 0 _ rfl
      obtain ⟨v1, y1, hc1, hy1, t1⟩ := hf 1 _ rfl
      obtain ⟨v2, y2, hc2, hy2, t2⟩ := hf 2 _ rfl
      obtain ⟨v3, y3, hc3, hy3, t3⟩ := hf 3 _ rfl
      obtain ⟨k, e0, x0, w0⟩ := DataW.trod_int Tryd.underlying3 t0
      obtain ⟨Ar, raw, cr, rfl, hr1, hr2, hr3, hr4⟩ := bytes_trod t1
      obtain ⟨Am, ms, cm, rfl, hm1, hm2, hm3, hm4, hm5⟩ := msgs_trod t2
      obtain ⟨s, e3, x3, hs⟩ := DataW.trod_string Tryd.underlying9 t3
      injection e0 with e0 _
      injection e3 with e3 _
      subst e0; subst e3
      refine ⟨⟨k, raw, ms, s⟩, ⟨Ar, cr, Am, cm, ⟨hr3, hr1, hr2, hm3, hm1, hm2, hm4⟩, fun j hj => ?_⟩, ?_⟩
      · have : j = 0 ∨ j = 1 ∨ j = 2 ∨ j = 3 := by omega
        rcases this with rfl | rfl | rfl | rfl
        · exact hc0
        · exact hc1
        · exact hc2
        · exact hc3
      · have hys : ys = [y0, y1, y2, y3] := by
          match ys, hyl with
          | [z0, z1, z2, z3], _ =>
            simp at hy0 hy1 hy2 hy3
            rw [hy0, hy1, hy2, hy3]
        rw [hDi, hys, x0, x3]
        simp only [List.map_cons, List.map_nil]
        rw [Rows.uptoBulk]
        simp only [Rows.uptoBulkAll, bulk_int, bulk_str]
        show raw.length + s.size + msgsW ms + 1 ≤ _
        omega)
    subst hll
    refine ⟨some a, l, cap, h1, hlc, hcm, ?_, ?_⟩
    · by_cases h0 : l = []
      · exact .inl h0
      · right
        have hpos : 0 < l.length := by
          rcases Nat.eq_zero_or_pos l.length with h | h
          · exact absurd (List.eq_nil_of_length_eq_zero h) h0
          · exact h
        have hsp : a.spot = none := by
          obtain ⟨⟨Ar, cr, Am, cm, _, hc⟩, _⟩ := hl 0 hpos
          exact spot_none (w := w) (a := a) (v := .int .i64 (l[0]).kind) (by have h := hc 0 (by omega); rw [show (actV l[0] Ar cr Am cm)[0]? = some (.int .i64 (l[0]).kind) from rfl] at h; simpa [Addr.add] using h)
        obtain ⟨B, o, sp⟩ := a
        obtain rfl : sp = none := hsp
        refine ⟨B, o, rfl, fun i hi => ?_⟩
        obtain ⟨⟨Ar, cr, Am, cm, hv, hc⟩, _⟩ := hl i hi
        refine ⟨Ar, cr, Am, cm, hv, fun j u hj => ?_⟩
        have hjl : j < 4 := (List.getElem?_eq_some_iff.1 hj).1
        have h := hc j hjl
        rw [add_none] at h
        rw [Nat.add_assoc, h, hj]
    · rw [h2]
      rw [Rows.uptoBulk]
      have e := sum_get (fun x : ActP => x.wt + 1) l (fun i => if h : i < l.length then (l[i]).wt + 1 else 0) (fun i h => by simp [h])
      have hb := bulk_map D (fun i => if h : i < l.length then (l[i]).wt + 1 else 0) (List.range l.length) (fun i hi => by
        have hi' := List.mem_range.1 hi
        show (if h : i < l.length then (l[i]).wt + 1 else 0) ≤ _
        rw [dif_pos hi']
        exact (hl i hi').2)
      unfold actsW
      rw [e]
      omega
theorem acts_open {d : DataW H} {p : List MemPlace} (h : DataW.Trod enc Tryd.prog w base spare held 42 v d p) (hv : ∃ A n c, v = .slice A n c) :
    ∃ (A : Option Addr) (l : List ActP) (c : Nat), v = .slice A l.length c ∧ l.length ≤ c ∧ c ≤ maxLen ∧ ActsIn w A l ∧ actsW l ≤ Rows.uptoBulk d := by
  obtain ⟨fuel, hf⟩ := h
  obtain ⟨A0, n, c0, rfl⟩ := hv
  have hf' : DataW.trod enc Tryd.prog w base spare held fuel 42 [.slice A0 n c0] = some (d, p) := hf
  exact acts_trod hf'
theorem ints_open {d : DataW H} {p : List MemPlace} (h : DataW.Trod enc Tryd.prog w base spare held 43 v d p) (hv : ∃ A n c, v = .slice A n c) :
    ∃ (A : Option Addr) (l : List Int) (c : Nat), v = .slice A l.length c ∧ l.length ≤ c ∧ c ≤ maxLen ∧ IntsIn w A l := by
  obtain ⟨fuel, hf⟩ := h
  obtain ⟨A0, n, c0, rfl⟩ := hv
  have hf' : DataW.trod enc Tryd.prog w base spare held fuel 43 [.slice A0 n c0] = some (d, p) := hf
  exact ints_trod hf'
end
end Go.Proofs.YtkpickojeghppaaDoor
