/- The region of SchemaRest in which the wider object is made: four appends, in whatever order. Conditions: what the law names. -/
import Derived.Test.YtnmojmmgkipjcaaGreatDoorSqp
import Derived.Test.YtnmojmmgkipjcaaGreatDoorRset
namespace Go.Proofs.YtnmojmmgkipjcaaGreatDoor
open Go.RowKit
/-- a pointer to a value's cells, as a slice of one -/
def ptrSl : Value → Value
  | .pointer p => .slice p 1 1
  | v => v
def slR (u0 u1 u2 u3 u4 u5 u6 u7 u8 u9 u10 u11 u12 u13 u14 u15 : Value) (s : Nat) : Option Value :=
  if s = 90 then some u0 else if s = 91 then some u1 else if s = 92 then some u2 else if s = 93 then some u3 else if s = 94 then some u4 else if s = 95 then some u5 else if s = 96 then some u6 else if s = 97 then some u7 else if s = 98 then some u8 else if s = 99 then some u9 else if s = 100 then some u10 else if s = 101 then some u11 else if s = 102 then some u12 else if s = 103 then some u13 else if s = 104 then some u14 else if s = 12 then some u15 else none
theorem wp_val {P : Program} {o : Oper} {a : Act} {w w' : World} {K : Act → World → Prop} {Q : Exit → Act → World → Prop} (v : Value) (h : (execOp a.eval o).run P w = .ok (.value v) w') (hk : K (a.put o.dst v) w') : o.wp P a w K Q := by
  unfold Oper.wp
  rw [h]
  exact hk
theorem wp_skip {P : Program} {o : Oper} {a : Act} {w w' : World} {K : Act → World → Prop} {Q : Exit → Act → World → Prop} (h : (execOp a.eval o).run P w = .ok .skip w') (hk : K (a.put o.dst undef) w') : o.wp P a w K Q := by
  unfold Oper.wp
  rw [h]
  exact hk
theorem slR_new {a0 : Act} (hsz : 104 < a0.tmps.size) : a0 = frm a0 (slR (a0.eval (.tmp 90)) (a0.eval (.tmp 91)) (a0.eval (.tmp 92)) (a0.eval (.tmp 93)) (a0.eval (.tmp 94)) (a0.eval (.tmp 95)) (a0.eval (.tmp 96)) (a0.eval (.tmp 97)) (a0.eval (.tmp 98)) (a0.eval (.tmp 99)) (a0.eval (.tmp 100)) (a0.eval (.tmp 101)) (a0.eval (.tmp 102)) (a0.eval (.tmp 103)) (a0.eval (.tmp 104)) (a0.eval (.tmp 12))) := by
  have key : ∀ k, k ≤ 104 → a0.tmps[k]? = some (a0.eval (.tmp k)) := fun k hk => by
    show _ = some (a0.tmps.getD k undef)
    have hlt : k < a0.tmps.size := Nat.lt_of_le_of_lt hk hsz
    simp [hlt]
  refine (frm_self (fun s v hs => ?_)).symm
  rw [← hs]
  unfold slR
  by_cases h90 : s = 90
  · subst h90
    exact key 90 (by decide)
  by_cases h91 : s = 91
  · subst h91
    exact key 91 (by decide)
  by_cases h92 : s = 92
  · subst h92
    exact key 92 (by decide)
  by_cases h93 : s = 93
  · subst h93
    exact key 93 (by decide)
  by_cases h94 : s = 94
  · subst h94
    exact key 94 (by decide)
  by_cases h95 : s = 95
  · subst h95
    exact key 95 (by decide)
  by_cases h96 : s = 96
  · subst h96
    exact key 96 (by decide)
  by_cases h97 : s = 97
  · subst h97
    exact key 97 (by decide)
  by_cases h98 : s = 98
  · subst h98
    exact key 98 (by decide)
  by_cases h99 : s = 99
  · subst h99
    exact key 99 (by decide)
  by_cases h100 : s = 100
  · subst h100
    exact key 100 (by decide)
  by_cases h101 : s = 101
  · subst h101
    exact key 101 (by decide)
  by_cases h102 : s = 102
  · subst h102
    exact key 102 (by decide)
  by_cases h103 : s = 103
  · subst h103
    exact key 103 (by decide)
  by_cases h104 : s = 104
  · subst h104
    exact key 104 (by decide)
  by_cases h12 : s = 12
  · subst h12
    exact key 12 (by decide)
  · unfold slR at hs
    simp [*] at hs
theorem frm_none (a0 : Act) : frm a0 (fun _ => none) = a0 := frm_self (fun s v h => by cases h)
theorem frm_puts (a0 : Act) (u0 u1 u2 u3 u4 u5 u6 u7 u8 u9 u10 u11 u12 u13 u14 u15 : Value) : frm a0 (slR u0 u1 u2 u3 u4 u5 u6 u7 u8 u9 u10 u11 u12 u13 u14 u15) = ((((((((((((((((a0.put (some 90) u0).put (some 91) u1).put (some 92) u2).put (some 93) u3).put (some 94) u4).put (some 95) u5).put (some 96) u6).put (some 97) u7).put (some 98) u8).put (some 99) u9).put (some 100) u10).put (some 101) u11).put (some 102) u12).put (some 103) u13).put (some 104) u14).put (some 12) u15) := by
  have h : ((((((((((((((((a0.put (some 90) u0).put (some 91) u1).put (some 92) u2).put (some 93) u3).put (some 94) u4).put (some 95) u5).put (some 96) u6).put (some 97) u7).put (some 98) u8).put (some 99) u9).put (some 100) u10).put (some 101) u11).put (some 102) u12).put (some 103) u13).put (some 104) u14).put (some 12) u15) = (((((((((((((((((frm a0 (fun _ => none)).put (some 90) u0).put (some 91) u1).put (some 92) u2).put (some 93) u3).put (some 94) u4).put (some 95) u5).put (some 96) u6).put (some 97) u7).put (some 98) u8).put (some 99) u9).put (some 100) u10).put (some 101) u11).put (some 102) u12).put (some 103) u13).put (some 104) u14).put (some 12) u15) := by rw [frm_none]
  rw [h]
  simp only [frm_put]
  congr 1
  funext s
  unfold slR
  by_cases h90 : s = 90
  · subst h90
    rfl
  by_cases h91 : s = 91
  · subst h91
    rfl
  by_cases h92 : s = 92
  · subst h92
    rfl
  by_cases h93 : s = 93
  · subst h93
    rfl
  by_cases h94 : s = 94
  · subst h94
    rfl
  by_cases h95 : s = 95
  · subst h95
    rfl
  by_cases h96 : s = 96
  · subst h96
    rfl
  by_cases h97 : s = 97
  · subst h97
    rfl
  by_cases h98 : s = 98
  · subst h98
    rfl
  by_cases h99 : s = 99
  · subst h99
    rfl
  by_cases h100 : s = 100
  · subst h100
    rfl
  by_cases h101 : s = 101
  · subst h101
    rfl
  by_cases h102 : s = 102
  · subst h102
    rfl
  by_cases h103 : s = 103
  · subst h103
    rfl
  by_cases h104 : s = 104
  · subst h104
    rfl
  by_cases h12 : s = 12
  · subst h12
    rfl
  · simp [*]
def LiveR (L : Nat → Bool) (k : Nat) : Prop :=
  (k = 0 ∧ L 0 = true ∧ L 3 = false) ∨ (k = 3 ∧ L 3 = true ∧ L 6 = false) ∨ (k = 5 ∧ L 5 = true ∧ L 6 = false) ∨ (k = 6 ∧ L 6 = true) ∨ (k = 7 ∧ L 7 = true ∧ L 10 = false) ∨ (k = 10 ∧ L 10 = true ∧ L 13 = false) ∨ (k = 12 ∧ L 12 = true ∧ L 13 = false) ∨ (k = 13 ∧ L 13 = true) ∨ (k = 15 ∧ L 15 = true)
def rdat (ns xs : List Value) (n m : Nat) (nm : ByteArray) (x5 : List Value) (v0 v3 v5 v6 v7 v10 v12 v13 v15 : Value) (k : Nat) : RowD :=
  if k = 0 then ⟨9, 1, v0, 0, []⟩ else if k = 3 then ⟨9, 1, v3, n, ns⟩ else if k = 5 then ⟨9, 1, v5, 1, [.string nm]⟩ else if k = 6 then ⟨9, 1, v6, n + 1, ns ++ [.string nm]⟩
  else if k = 7 then ⟨25, 5, v7, 0, []⟩ else if k = 10 then ⟨25, 5, v10, m, xs⟩ else if k = 12 then ⟨25, 5, v12, 1, x5⟩ else if k = 13 then ⟨25, 5, v13, m + 1, xs ++ x5⟩ else ⟨25, 5, ptrSl v15, 1, [.int .i64 0, .int .i64 0, .string ⟨#[]⟩, .slice none 0 0, .slice none 0 0]⟩
set_option maxRecDepth 20000 in
set_option maxHeartbeats 4000000 in
theorem rest_region (v x : JV) (nm : ByteArray) (w3 : World) (B C : Nat) (bn bi cn ci : Option Addr) (bm bc cm cc : Nat) (hB : w3.heap[B]? = some (.cells #[.int .i64 v.kind, .int .i64 v.int, .string v.text, .slice bn v.names.length bm, .slice bi v.items.length bc] 25 (0, 0))) (hC : w3.heap[C]? = some (.cells #[.int .i64 x.kind, .int .i64 x.int, .string x.text, .slice cn x.names.length cm, .slice ci x.items.length cc] 25 (0, 0))) (hv : Rep w3 (fun _ => True) v [.int .i64 v.kind, .int .i64 v.int, .string v.text, .slice bn v.names.length bm, .slice bi v.items.length bc]) (hx : Rep w3 (fun _ => True) x [.int .i64 x.kind, .int .i64 x.int, .string x.text, .slice cn x.names.length cm, .slice ci x.items.length cc]) (hnn : v.names.length ≤ 1048576) (hnl : v.items.length = v.names.length)
    (id : Nat) (Q : Exit → Act → World → Prop) (a0 : Act) (hsz : 104 < a0.tmps.size) (h4 : a0.eval (.tmp 4) = .pointer (some ⟨B, 0, none⟩)) (h5 : a0.eval (.tmp 5) = .string nm) (h6 : a0.eval (.tmp 6) = .pointer (some ⟨C, 0, none⟩))
    (hQ : ∀ (u0 u1 u2 u3 u4 u5 u6 u7 u8 u9 u10 u11 u12 u13 u14 u15 : Value) (w : World), (∃ (E : Nat) (na ia : Option Addr) (nc ic : Nat), u15 = .pointer (some ⟨E, 0, none⟩) ∧ w.heap[E]? = some (.cells #[.int .i64 6, .int .i64 0, .string ⟨#[]⟩, .slice na (v.names.length + 1) nc, .slice ia (v.items.length + 1) ic] 25 (0, 0)) ∧ Rep w (fun _ => True) (widerJ v nm x) [.int .i64 6, .int .i64 0, .string ⟨#[]⟩, .slice na (v.names.length + 1) nc, .slice ia (v.items.length + 1) ic] ∧ Below w3.heap.size w3 w) → Q .normal (frm a0 (slR u0 u1 u2 u3 u4 u5 u6 u7 u8 u9 u10 u11 u12 u13 u14 u15)) w) : (Code.region id #[{ dst := some 90, op := Op.buildSlice 22 0 #[], type := 22, pos := "law.go:182", after := #[], guard := none }, { dst := some 91, op := Op.fieldAddr 25 (Operand.tmp 4) 3, type := 0, pos := "law.go:182", after := #[], guard := none }, { dst := some 92, op := Op.load 22 (Operand.tmp 91), type := 22, pos := "law.go:182", after := #[{ on := 1, ground := Ground.data }], guard := none }, { dst := some 93, op := Op.call { callee := Callee.builtin Builtin.append, args := #[Operand.tmp 90, Operand.tmp 92], argTypes := #[22, 22] }, type := 22, pos := "law.go:182", after := #[{ on := 0, ground := Ground.data }, { on := 2, ground := Ground.data }], guard := none }, { dst := some 94, op := Op.move (Operand.tmp 5), type := 9, pos := "law.go:182", after := #[], guard := none }, { dst := some 95, op := Op.buildSlice 22 1 #[(0, Operand.tmp 94)], type := 22, pos := "law.go:182", after := #[{ on := 4, ground := Ground.data }], guard := none }, { dst := some 96, op := Op.call { callee := Callee.builtin Builtin.append, args := #[Operand.tmp 93, Operand.tmp 95], argTypes := #[22, 22] }, type := 22, pos := "law.go:182", after := #[{ on := 3, ground := Ground.data }, { on := 5, ground := Ground.data }, { on := 3, ground := Ground.chain }], guard := none }, { dst := some 97, op := Op.buildSlice 23 0 #[], type := 23, pos := "law.go:182", after := #[], guard := none }, { dst := some 98, op := Op.fieldAddr 25 (Operand.tmp 4) 4, type := 0, pos := "law.go:182", after := #[], guard := none }, { dst := some 99, op := Op.load 23 (Operand.tmp 98), type := 23, pos := "law.go:182", after := #[{ on := 8, ground := Ground.data }], guard := none }, { dst := some 100, op := Op.call { callee := Callee.builtin Builtin.append, args := #[Operand.tmp 97, Operand.tmp 99], argTypes := #[23, 23] }, type := 23, pos := "law.go:182", after := #[{ on := 7, ground := Ground.data }, { on := 9, ground := Ground.data }, { on := 6, ground := Ground.chain }], guard := none }, { dst := some 101, op := Op.load 25 (Operand.tmp 6), type := 25, pos := "law.go:182", after := #[], guard := none }, { dst := some 102, op := Op.buildSlice 23 1 #[(0, Operand.tmp 101)], type := 23, pos := "law.go:182", after := #[{ on := 11, ground := Ground.data }], guard := none }, { dst := some 103, op := Op.call { callee := Callee.builtin Builtin.append, args := #[Operand.tmp 100, Operand.tmp 102], argTypes := #[23, 23] }, type := 23, pos := "law.go:182", after := #[{ on := 10, ground := Ground.data }, { on := 12, ground := Ground.data }, { on := 10, ground := Ground.chain }], guard := none }, { dst := some 104, op := Op.build 25 #[(0, Operand.const (Value.int IntKind.i64 6)), (3, Operand.tmp 96), (4, Operand.tmp 103)], type := 25, pos := "law.go:182", after := #[{ on := 6, ground := Ground.data }, { on := 13, ground := Ground.data }], guard := none }, { dst := some 12, op := Op.alloc 25, type := 0, pos := "law.go:182", after := #[], guard := none }, { dst := none, op := Op.store 25 (Operand.tmp 12) (Operand.tmp 104), type := 0, pos := "law.go:182", after := #[{ on := 15, ground := Ground.data }, { on := 14, ground := Ground.data }, { on := 13, ground := Ground.chain }, { on := 0, ground := Ground.phase }, { on := 1, ground := Ground.phase }, { on := 2, ground := Ground.phase }, { on := 3, ground := Ground.phase }, { on := 4, ground := Ground.phase }, { on := 5, ground := Ground.phase }, { on := 6, ground := Ground.phase }, { on := 7, ground := Ground.phase }, { on := 8, ground := Ground.phase }, { on := 9, ground := Ground.phase }, { on := 10, ground := Ground.phase }, { on := 11, ground := Ground.phase }, { on := 12, ground := Ground.phase }, { on := 13, ground := Ground.phase }, { on := 14, ground := Ground.phase }, { on := 15, ground := Ground.phase }], guard := none }] true).wp Tryz.prog Q a0 w3 := by
  have HSS := Lib.hid (fun (W' : World) (hW : Below w3.heap.size w3 W') => And.intro (cellsOf5 ((hW.block B (Array.getElem?_eq_some_iff.1 hB).1).trans hB)).1 (cellsOf5 ((hW.block C (Array.getElem?_eq_some_iff.1 hC).1).trans hC)).1)
  obtain ⟨hst, hit, hl1, hl2, hl3, hl4⟩ := rep_lists hv
  obtain ⟨xs, hxl, hxn, hxr, hxo, hx0⟩ := hit.flat
  have HFL := Lib.hid (And.intro hxl (And.intro hxn (And.intro hxr (And.intro hxo hx0))))
  have HNS := Lib.hid hst.news
  have HN0 := Lib.hid (show bn = none → v.names.length = 0 from fun h => by
    rcases hst with e | ⟨b, off, e, _⟩
    · rw [e]; rfl
    · rw [h] at e; cases e)
  have HX5 := Lib.hid hx
  clear hst hit hxl hxn hxr hxo hx0 hl1 hl2 hl3 hl4 hv hx hB hC
  refine wp_region_told (fun a0 L a w => ∃ u0 u1 u2 u3 u4 u5 u6 u7 u8 u9 u10 u11 u12 u13 u14 u15 : Value, a = frm a0 (slR u0 u1 u2 u3 u4 u5 u6 u7 u8 u9 u10 u11 u12 u13 u14 u15) ∧ (L 16 = true → (∃ (E : Nat) (na ia : Option Addr) (nc ic : Nat), u15 = .pointer (some ⟨E, 0, none⟩) ∧ w.heap[E]? = some (.cells #[.int .i64 6, .int .i64 0, .string ⟨#[]⟩, .slice na (v.names.length + 1) nc, .slice ia (v.items.length + 1) ic] 25 (0, 0)) ∧ Rep w (fun _ => True) (widerJ v nm x) [.int .i64 6, .int .i64 0, .string ⟨#[]⟩, .slice na (v.names.length + 1) nc, .slice ia (v.items.length + 1) ic] ∧ Below w3.heap.size w3 w) ∧ ∀ j, j < 16 → L j = true) ∧ (L 16 = false → RSet w3 (LiveR L) (rdat (v.names.map Value.string) xs v.names.length v.items.length nm [.int .i64 x.kind, .int .i64 x.int, .string x.text, .slice cn x.names.length cm, .slice ci x.items.length cc] u0 u3 u5 u6 u7 u10 u12 u13 u15) w ∧ (L 1 = true → u1 = .pointer (some ⟨B, 3, none⟩)) ∧ (L 2 = true → u2 = .slice bn v.names.length bm) ∧ (L 4 = true → u4 = .string nm) ∧ (L 8 = true → u8 = .pointer (some ⟨B, 4, none⟩)) ∧ (L 9 = true → u9 = .slice bi v.items.length bc) ∧ (L 11 = true → u11 = .agg #[.int .i64 x.kind, .int .i64 x.int, .string x.text, .slice cn x.names.length cm, .slice ci x.items.length cc]) ∧ (L 14 = true → u14 = .agg #[.int .i64 6, .int .i64 0, .string ⟨#[]⟩, u6, u13] ∧ L 6 = true ∧ L 13 = true) ∧ (L 15 = true → ∃ E, u15 = .pointer (some ⟨E, 0, none⟩)))) (by kernel_rfl) (by kernel_rfl) ?_ ?_ ?_
  · refine ⟨_, _, _, _, _, _, _, _, _, _, _, _, _, _, _, _, slR_new hsz, fun h => (by cases h), fun _ => ⟨⟨Below.drew (Below.refl _ _), fun k hk => ?_, fun k hk => ?_, fun j k hk => ?_⟩, fun h => (by cases h), fun h => (by cases h), fun h => (by cases h), fun h => (by cases h), fun h => (by cases h), fun h => (by cases h), fun h => (by cases h), fun h => (by cases h)⟩⟩ <;> exact absurd hk (by unfold LiveR; simp)
  · intro L a' w' i o ho hL hpre hI
    obtain ⟨u0, u1, u2, u3, u4, u5, u6, u7, u8, u9, u10, u11, u12, u13, u14, u15, rfl, h16, hF⟩ := hI
    have hi : i < 17 := (Array.getElem?_eq_some_iff.1 ho).1
    obtain rfl | rfl | rfl | rfl | rfl | rfl | rfl | rfl | rfl | rfl | rfl | rfl | rfl | rfl | rfl | rfl | rfl : i = 0 ∨ i = 1 ∨ i = 2 ∨ i = 3 ∨ i = 4 ∨ i = 5 ∨ i = 6 ∨ i = 7 ∨ i = 8 ∨ i = 9 ∨ i = 10 ∨ i = 11 ∨ i = 12 ∨ i = 13 ∨ i = 14 ∨ i = 15 ∨ i = 16 := by omega
    all_goals (
      replace hpre := pre_of hpre
      refine wpOp_of ho ?_ ?_
      all_goals simp only [List.getElem?_toArray, List.getElem?_cons_succ, List.getElem?_cons_zero, Option.some.injEq] at ho
      all_goals subst ho
      · rfl)
    · have h16f : L 16 = false := by
        cases e : L 16 with
        | false => rfl
        | true => exact absurd ((h16 e).2 0 (by omega)) (by rw [hL]; decide)
      obtain ⟨hR, f1, f2, f4, f8, f9, f11, f14, f15⟩ := hF h16f
      refine wp_val (.slice (some ⟨w'.heap.size, 0, none⟩) 0 0) (w' := w'.alloc (.cells #[] 9)) (by simp [execOp, go_sem]) ?_
      rw [frm_put]
      refine ⟨(.slice (some ⟨w'.heap.size, 0, none⟩) 0 0), u1, u2, u3, u4, u5, u6, u7, u8, u9, u10, u11, u12, u13, u14, u15, congrArg (frm _) (by funext s; unfold slR; by_cases hs : s = 90 <;> simp [hs]), fun h => absurd (by simpa using h) (by rw [h16f]; decide), fun _ => ⟨?_, fun h => f1 (by simpa using h), fun h => f2 (by simpa using h), fun h => f4 (by simpa using h), fun h => f8 (by simpa using h), fun h => f9 (by simpa using h), fun h => f11 (by simpa using h), fun h => have q := f14 (by simpa using h); ⟨q.1, by simp [q.2.1], by simp [q.2.2]⟩, fun h => f15 (by simpa using h)⟩⟩
      exact hR.made ((Below.refl _ _).alloc (Nat.le_refl _) _) 0 ⟨9, 1, .slice (some ⟨w'.heap.size, 0, none⟩) 0 0, 0, []⟩ (World.ownsRow_made w' #[] 0 (Nat.zero_le _) (Nat.zero_le _) (by simp)) (fun g hg => by cases hg; exact Nat.le_refl _) (by
        intro k hk
        unfold LiveR at hk
        rcases hk with ⟨rfl, h⟩ | ⟨rfl, h⟩ | ⟨rfl, h⟩ | ⟨rfl, h⟩ | ⟨rfl, h⟩ | ⟨rfl, h⟩ | ⟨rfl, h⟩ | ⟨rfl, h⟩ | ⟨rfl, h⟩ <;> first | (exfalso; simp at h; done) | exact .inr ⟨rfl, rfl⟩ | exact .inl ⟨by decide, by unfold LiveR; simpa using h, rfl⟩)
    · have h16f : L 16 = false := by
        cases e : L 16 with
        | false => rfl
        | true => exact absurd ((h16 e).2 1 (by omega)) (by rw [hL]; decide)
      obtain ⟨hR, f1, f2, f4, f8, f9, f11, f14, f15⟩ := hF h16f
      obtain ⟨⟨b0, b1, b2, b3, b4⟩, v0, v1, v2, v3, v4⟩ := HSS.out _ hR.below
      have E4 : (frm a0 (slR u0 u1 u2 u3 u4 u5 u6 u7 u8 u9 u10 u11 u12 u13 u14 u15)).eval (.tmp 4) = .pointer (some ⟨B, 0, none⟩) := (frm_old rfl).trans h4
      refine wp_val (.pointer (some ⟨B, 3, none⟩)) (w' := w') (by generalize (frm a0 (slR u0 u1 u2 u3 u4 u5 u6 u7 u8 u9 u10 u11 u12 u13 u14 u15)).eval = ρ at E4 ⊢; simp [execOp, go_sem, E4]) ?_
      rw [frm_put]
      refine ⟨u0, (.pointer (some ⟨B, 3, none⟩)), u2, u3, u4, u5, u6, u7, u8, u9, u10, u11, u12, u13, u14, u15, congrArg (frm _) (by funext s; unfold slR; by_cases hs : s = 91 <;> simp [hs]), fun h => absurd (by simpa using h) (by rw [h16f]; decide), fun _ => ⟨?_, fun _ => rfl, fun h => f2 (by simpa using h), fun h => f4 (by simpa using h), fun h => f8 (by simpa using h), fun h => f9 (by simpa using h), fun h => f11 (by simpa using h), fun h => have q := f14 (by simpa using h); ⟨q.1, by simp [q.2.1], by simp [q.2.2]⟩, fun h => f15 (by simpa using h)⟩⟩
      exact hR.weak (by
        intro k hk
        refine ⟨?_, rfl⟩
        unfold LiveR at hk ⊢
        simpa using hk)
    · have h16f : L 16 = false := by
        cases e : L 16 with
        | false => rfl
        | true => exact absurd ((h16 e).2 2 (by omega)) (by rw [hL]; decide)
      obtain ⟨hR, f1, f2, f4, f8, f9, f11, f14, f15⟩ := hF h16f
      obtain ⟨⟨b0, b1, b2, b3, b4⟩, v0, v1, v2, v3, v4⟩ := HSS.out _ hR.below
      have E91 : (frm a0 (slR u0 u1 u2 u3 u4 u5 u6 u7 u8 u9 u10 u11 u12 u13 u14 u15)).eval (.tmp 91) = .pointer (some ⟨B, 3, none⟩) := (show (frm a0 (slR u0 u1 u2 u3 u4 u5 u6 u7 u8 u9 u10 u11 u12 u13 u14 u15)).eval (.tmp 91) = u1 from frm_eval rfl (by omega)).trans (f1 (hpre 1 rfl))
      refine wp_val (.slice bn v.names.length bm) (w' := w') (by generalize (frm a0 (slR u0 u1 u2 u3 u4 u5 u6 u7 u8 u9 u10 u11 u12 u13 u14 u15)).eval = ρ at E91 ⊢; simp [execOp, go_sem, E91, b3]) ?_
      rw [frm_put]
      refine ⟨u0, u1, (.slice bn v.names.length bm), u3, u4, u5, u6, u7, u8, u9, u10, u11, u12, u13, u14, u15, congrArg (frm _) (by funext s; unfold slR; by_cases hs : s = 92 <;> simp [hs]), fun h => absurd (by simpa using h) (by rw [h16f]; decide), fun _ => ⟨?_, fun h => f1 (by simpa using h), fun _ => rfl, fun h => f4 (by simpa using h), fun h => f8 (by simpa using h), fun h => f9 (by simpa using h), fun h => f11 (by simpa using h), fun h => have q := f14 (by simpa using h); ⟨q.1, by simp [q.2.1], by simp [q.2.2]⟩, fun h => f15 (by simpa using h)⟩⟩
      exact hR.weak (by
        intro k hk
        refine ⟨?_, rfl⟩
        unfold LiveR at hk ⊢
        simpa using hk)
    · have h16f : L 16 = false := by
        cases e : L 16 with
        | false => rfl
        | true => exact absurd ((h16 e).2 3 (by omega)) (by rw [hL]; decide)
      obtain ⟨hR, f1, f2, f4, f8, f9, f11, f14, f15⟩ := hF h16f
      have hrow := hR.row 0 (by unfold LiveR; simp [hpre 0 rfl, hL])

      refine wp_app strTy (.tmp 90) (.tmp 92) rfl u0 0 [] (frm_eval rfl (by omega)) hrow bn v.names.length bm (v.names.map Value.string) ((show (frm a0 (slR u0 u1 u2 u3 u4 u5 u6 u7 u8 u9 u10 u11 u12 u13 u14 u15)).eval (.tmp 92) = u2 from frm_eval rfl (by omega)).trans (f2 (hpre 2 rfl))) (by simp) HN0.out (fun q hq j u hj => cell_below hR.below (HNS.out q hq j u hj)) (one_strs _) (by unfold maxLen; omega) (by omega) ?_
      intro v' w'' hrow2 hu
      rw [Nat.zero_add, List.nil_append] at hrow2
      rw [frm_put]
      refine ⟨u0, u1, u2, v', u4, u5, u6, u7, u8, u9, u10, u11, u12, u13, u14, u15, congrArg (frm _) (by funext s; unfold slR; by_cases hs : s = 93 <;> simp [hs]), fun h => absurd (by simpa using h) (by rw [h16f]; decide), fun _ => ⟨?_, fun h => f1 (by simpa using h), fun h => f2 (by simpa using h), fun h => f4 (by simpa using h), fun h => f8 (by simpa using h), fun h => f9 (by simpa using h), fun h => f11 (by simpa using h), fun h => have q := f14 (by simpa using h); ⟨q.1, by simp [q.2.1], by simp [q.2.2]⟩, fun h => f15 (by simpa using h)⟩⟩
      exact hR.app 0 (by unfold LiveR; simp [hpre 0 rfl, hL]) 3 ⟨9, 1, v', v.names.length, (v.names.map Value.string)⟩ hu hrow2 (by
        intro k hk
        unfold LiveR at hk
        rcases hk with ⟨rfl, h⟩ | ⟨rfl, h⟩ | ⟨rfl, h⟩ | ⟨rfl, h⟩ | ⟨rfl, h⟩ | ⟨rfl, h⟩ | ⟨rfl, h⟩ | ⟨rfl, h⟩ | ⟨rfl, h⟩ <;> first | (exfalso; simp at h; done) | exact .inr ⟨rfl, rfl⟩ | exact .inl ⟨by decide, by decide, by unfold LiveR; simpa using h, rfl⟩)
    · have h16f : L 16 = false := by
        cases e : L 16 with
        | false => rfl
        | true => exact absurd ((h16 e).2 4 (by omega)) (by rw [hL]; decide)
      obtain ⟨hR, f1, f2, f4, f8, f9, f11, f14, f15⟩ := hF h16f
      have E5 : (frm a0 (slR u0 u1 u2 u3 u4 u5 u6 u7 u8 u9 u10 u11 u12 u13 u14 u15)).eval (.tmp 5) = .string nm := (frm_old rfl).trans h5
      refine wp_val (.string nm) (w' := w') (by generalize (frm a0 (slR u0 u1 u2 u3 u4 u5 u6 u7 u8 u9 u10 u11 u12 u13 u14 u15)).eval = ρ at E5 ⊢; simp [execOp, go_sem, E5]) ?_
      rw [frm_put]
      refine ⟨u0, u1, u2, u3, (.string nm), u5, u6, u7, u8, u9, u10, u11, u12, u13, u14, u15, congrArg (frm _) (by funext s; unfold slR; by_cases hs : s = 94 <;> simp [hs]), fun h => absurd (by simpa using h) (by rw [h16f]; decide), fun _ => ⟨?_, fun h => f1 (by simpa using h), fun h => f2 (by simpa using h), fun _ => rfl, fun h => f8 (by simpa using h), fun h => f9 (by simpa using h), fun h => f11 (by simpa using h), fun h => have q := f14 (by simpa using h); ⟨q.1, by simp [q.2.1], by simp [q.2.2]⟩, fun h => f15 (by simpa using h)⟩⟩
      exact hR.weak (by
        intro k hk
        refine ⟨?_, rfl⟩
        unfold LiveR at hk ⊢
        simpa using hk)
    · have h16f : L 16 = false := by
        cases e : L 16 with
        | false => rfl
        | true => exact absurd ((h16 e).2 5 (by omega)) (by rw [hL]; decide)
      obtain ⟨hR, f1, f2, f4, f8, f9, f11, f14, f15⟩ := hF h16f
      have E94 : (frm a0 (slR u0 u1 u2 u3 u4 u5 u6 u7 u8 u9 u10 u11 u12 u13 u14 u15)).eval (.tmp 94) = .string nm := (show (frm a0 (slR u0 u1 u2 u3 u4 u5 u6 u7 u8 u9 u10 u11 u12 u13 u14 u15)).eval (.tmp 94) = u4 from frm_eval rfl (by omega)).trans (f4 (hpre 4 rfl))
      refine wp_val (.slice (some ⟨w'.heap.size, 0, none⟩) 1 1) (w' := w'.alloc (.cells #[.string nm] 9)) (by generalize (frm a0 (slR u0 u1 u2 u3 u4 u5 u6 u7 u8 u9 u10 u11 u12 u13 u14 u15)).eval = ρ at E94 ⊢; simp [execOp, go_sem, E94]) ?_
      rw [frm_put]
      refine ⟨u0, u1, u2, u3, u4, (.slice (some ⟨w'.heap.size, 0, none⟩) 1 1), u6, u7, u8, u9, u10, u11, u12, u13, u14, u15, congrArg (frm _) (by funext s; unfold slR; by_cases hs : s = 95 <;> simp [hs]), fun h => absurd (by simpa using h) (by rw [h16f]; decide), fun _ => ⟨?_, fun h => f1 (by simpa using h), fun h => f2 (by simpa using h), fun h => f4 (by simpa using h), fun h => f8 (by simpa using h), fun h => f9 (by simpa using h), fun h => f11 (by simpa using h), fun h => have q := f14 (by simpa using h); ⟨q.1, by simp [q.2.1], by simp [q.2.2]⟩, fun h => f15 (by simpa using h)⟩⟩
      exact hR.made ((Below.refl _ _).alloc (Nat.le_refl _) _) 5 ⟨9, 1, .slice (some ⟨w'.heap.size, 0, none⟩) 1 1, 1, [.string nm]⟩ (row_new w' _ 1 1 [.string nm] rfl (by unfold maxLen; omega)) (fun g hg => by cases hg; exact Nat.le_refl _) (by
        intro k hk
        unfold LiveR at hk
        rcases hk with ⟨rfl, h⟩ | ⟨rfl, h⟩ | ⟨rfl, h⟩ | ⟨rfl, h⟩ | ⟨rfl, h⟩ | ⟨rfl, h⟩ | ⟨rfl, h⟩ | ⟨rfl, h⟩ | ⟨rfl, h⟩ <;> first | (exfalso; simp at h; done) | exact .inr ⟨rfl, rfl⟩ | exact .inl ⟨by decide, by unfold LiveR; simpa using h, rfl⟩)
    · have h16f : L 16 = false := by
        cases e : L 16 with
        | false => rfl
        | true => exact absurd ((h16 e).2 6 (by omega)) (by rw [hL]; decide)
      obtain ⟨hR, f1, f2, f4, f8, f9, f11, f14, f15⟩ := hF h16f
      have hrow := hR.row 3 (by unfold LiveR; simp [hpre 3 rfl, hL])
      obtain ⟨ra, rc, hrv, _, _, hrr⟩ := (hR.row 5 (by unfold LiveR; simp [hpre 5 rfl, hL])).form
      have hrw : u5 = .slice ra 1 rc := hrv
      clear hrv
      rcases hrr with ⟨_, h0, _⟩ | ⟨rg, rfl, _, _, hrl⟩
      · exact absurd h0 (by show ¬ (1 : Nat) = 0; decide)
      refine wp_app strTy (.tmp 93) (.tmp 95) rfl u3 v.names.length (v.names.map Value.string) (frm_eval rfl (by omega)) hrow (some ⟨rg, 0, none⟩) 1 rc [.string nm] ((show (frm a0 (slR u0 u1 u2 u3 u4 u5 u6 u7 u8 u9 u10 u11 u12 u13 u14 u15)).eval (.tmp 95) = u5 from frm_eval rfl (by omega)).trans hrw) rfl (fun h => by cases h) (fun q hq j u hj => by cases hq; rw [add_none]; exact hrl j u hj) (by simp [Value.oneCell']) (by unfold maxLen; omega) (by omega) ?_
      intro v' w'' hrow2 hu

      rw [frm_put]
      refine ⟨u0, u1, u2, u3, u4, u5, v', u7, u8, u9, u10, u11, u12, u13, u14, u15, congrArg (frm _) (by funext s; unfold slR; by_cases hs : s = 96 <;> simp [hs]), fun h => absurd (by simpa using h) (by rw [h16f]; decide), fun _ => ⟨?_, fun h => f1 (by simpa using h), fun h => f2 (by simpa using h), fun h => f4 (by simpa using h), fun h => f8 (by simpa using h), fun h => f9 (by simpa using h), fun h => f11 (by simpa using h), fun h => absurd (f14 (by simpa using h)).2.1 (by rw [hL]; decide), fun h => f15 (by simpa using h)⟩⟩
      exact hR.app 3 (by unfold LiveR; simp [hpre 3 rfl, hL]) 6 ⟨9, 1, v', v.names.length + 1, (v.names.map Value.string) ++ [.string nm]⟩ hu hrow2 (by
        intro k hk
        unfold LiveR at hk
        rcases hk with ⟨rfl, h⟩ | ⟨rfl, h⟩ | ⟨rfl, h⟩ | ⟨rfl, h⟩ | ⟨rfl, h⟩ | ⟨rfl, h⟩ | ⟨rfl, h⟩ | ⟨rfl, h⟩ | ⟨rfl, h⟩ <;> first | (exfalso; simp at h; done) | exact .inr ⟨rfl, rfl⟩ | exact .inl ⟨by decide, by decide, by unfold LiveR; simpa using h, rfl⟩)
    · have h16f : L 16 = false := by
        cases e : L 16 with
        | false => rfl
        | true => exact absurd ((h16 e).2 7 (by omega)) (by rw [hL]; decide)
      obtain ⟨hR, f1, f2, f4, f8, f9, f11, f14, f15⟩ := hF h16f
      refine wp_val (.slice (some ⟨w'.heap.size, 0, none⟩) 0 0) (w' := w'.alloc (.cells #[] 25)) (by simp [execOp, go_sem]) ?_
      rw [frm_put]
      refine ⟨u0, u1, u2, u3, u4, u5, u6, (.slice (some ⟨w'.heap.size, 0, none⟩) 0 0), u8, u9, u10, u11, u12, u13, u14, u15, congrArg (frm _) (by funext s; unfold slR; by_cases hs : s = 97 <;> simp [hs]), fun h => absurd (by simpa using h) (by rw [h16f]; decide), fun _ => ⟨?_, fun h => f1 (by simpa using h), fun h => f2 (by simpa using h), fun h => f4 (by simpa using h), fun h => f8 (by simpa using h), fun h => f9 (by simpa using h), fun h => f11 (by simpa using h), fun h => have q := f14 (by simpa using h); ⟨q.1, by simp [q.2.1], by simp [q.2.2]⟩, fun h => f15 (by simpa using h)⟩⟩
      exact hR.made ((Below.refl _ _).alloc (Nat.le_refl _) _) 7 ⟨25, 5, .slice (some ⟨w'.heap.size, 0, none⟩) 0 0, 0, []⟩ (World.ownsRow_made w' #[] 0 (Nat.zero_le _) (Nat.zero_le _) (by simp)) (fun g hg => by cases hg; exact Nat.le_refl _) (by
        intro k hk
        unfold LiveR at hk
        rcases hk with ⟨rfl, h⟩ | ⟨rfl, h⟩ | ⟨rfl, h⟩ | ⟨rfl, h⟩ | ⟨rfl, h⟩ | ⟨rfl, h⟩ | ⟨rfl, h⟩ | ⟨rfl, h⟩ | ⟨rfl, h⟩ <;> first | (exfalso; simp at h; done) | exact .inr ⟨rfl, rfl⟩ | exact .inl ⟨by decide, by unfold LiveR; simpa using h, rfl⟩)
    · have h16f : L 16 = false := by
        cases e : L 16 with
        | false => rfl
        | true => exact absurd ((h16 e).2 8 (by omega)) (by rw [hL]; decide)
      obtain ⟨hR, f1, f2, f4, f8, f9, f11, f14, f15⟩ := hF h16f
      obtain ⟨⟨b0, b1, b2, b3, b4⟩, v0, v1, v2, v3, v4⟩ := HSS.out _ hR.below
      have E4 : (frm a0 (slR u0 u1 u2 u3 u4 u5 u6 u7 u8 u9 u10 u11 u12 u13 u14 u15)).eval (.tmp 4) = .pointer (some ⟨B, 0, none⟩) := (frm_old rfl).trans h4
      refine wp_val (.pointer (some ⟨B, 4, none⟩)) (w' := w') (by generalize (frm a0 (slR u0 u1 u2 u3 u4 u5 u6 u7 u8 u9 u10 u11 u12 u13 u14 u15)).eval = ρ at E4 ⊢; simp [execOp, go_sem, E4]) ?_
      rw [frm_put]
      refine ⟨u0, u1, u2, u3, u4, u5, u6, u7, (.pointer (some ⟨B, 4, none⟩)), u9, u10, u11, u12, u13, u14, u15, congrArg (frm _) (by funext s; unfold slR; by_cases hs : s = 98 <;> simp [hs]), fun h => absurd (by simpa using h) (by rw [h16f]; decide), fun _ => ⟨?_, fun h => f1 (by simpa using h), fun h => f2 (by simpa using h), fun h => f4 (by simpa using h), fun _ => rfl, fun h => f9 (by simpa using h), fun h => f11 (by simpa using h), fun h => have q := f14 (by simpa using h); ⟨q.1, by simp [q.2.1], by simp [q.2.2]⟩, fun h => f15 (by simpa using h)⟩⟩
      exact hR.weak (by
        intro k hk
        refine ⟨?_, rfl⟩
        unfold LiveR at hk ⊢
        simpa using hk)
    · have h16f : L 16 = false := by
        cases e : L 16 with
        | false => rfl
        | true => exact absurd ((h16 e).2 9 (by omega)) (by rw [hL]; decide)
      obtain ⟨hR, f1, f2, f4, f8, f9, f11, f14, f15⟩ := hF h16f
      obtain ⟨⟨b0, b1, b2, b3, b4⟩, v0, v1, v2, v3, v4⟩ := HSS.out _ hR.below
      have E98 : (frm a0 (slR u0 u1 u2 u3 u4 u5 u6 u7 u8 u9 u10 u11 u12 u13 u14 u15)).eval (.tmp 98) = .pointer (some ⟨B, 4, none⟩) := (show (frm a0 (slR u0 u1 u2 u3 u4 u5 u6 u7 u8 u9 u10 u11 u12 u13 u14 u15)).eval (.tmp 98) = u8 from frm_eval rfl (by omega)).trans (f8 (hpre 8 rfl))
      refine wp_val (.slice bi v.items.length bc) (w' := w') (by generalize (frm a0 (slR u0 u1 u2 u3 u4 u5 u6 u7 u8 u9 u10 u11 u12 u13 u14 u15)).eval = ρ at E98 ⊢; simp [execOp, go_sem, E98, b4]) ?_
      rw [frm_put]
      refine ⟨u0, u1, u2, u3, u4, u5, u6, u7, u8, (.slice bi v.items.length bc), u10, u11, u12, u13, u14, u15, congrArg (frm _) (by funext s; unfold slR; by_cases hs : s = 99 <;> simp [hs]), fun h => absurd (by simpa using h) (by rw [h16f]; decide), fun _ => ⟨?_, fun h => f1 (by simpa using h), fun h => f2 (by simpa using h), fun h => f4 (by simpa using h), fun h => f8 (by simpa using h), fun _ => rfl, fun h => f11 (by simpa using h), fun h => have q := f14 (by simpa using h); ⟨q.1, by simp [q.2.1], by simp [q.2.2]⟩, fun h => f15 (by simpa using h)⟩⟩
      exact hR.weak (by
        intro k hk
        refine ⟨?_, rfl⟩
        unfold LiveR at hk ⊢
        simpa using hk)
    · have h16f : L 16 = false := by
        cases e : L 16 with
        | false => rfl
        | true => exact absurd ((h16 e).2 10 (by omega)) (by rw [hL]; decide)
      obtain ⟨hR, f1, f2, f4, f8, f9, f11, f14, f15⟩ := hF h16f
      have hrow := hR.row 7 (by unfold LiveR; simp [hpre 7 rfl, hL])

      refine wp_app valTy (.tmp 97) (.tmp 99) rfl u7 0 [] (frm_eval rfl (by omega)) hrow bi v.items.length bc xs ((show (frm a0 (slR u0 u1 u2 u3 u4 u5 u6 u7 u8 u9 u10 u11 u12 u13 u14 u15)).eval (.tmp 99) = u9 from frm_eval rfl (by omega)).trans (f9 (hpre 9 rfl))) HFL.out.1 HFL.out.2.2.2.2 (fun q hq j u hj => cell_below hR.below (HFL.out.2.1 q hq j u hj)) HFL.out.2.2.2.1 (by unfold maxLen; omega) (by omega) ?_
      intro v' w'' hrow2 hu
      rw [Nat.zero_add, List.nil_append] at hrow2
      rw [frm_put]
      refine ⟨u0, u1, u2, u3, u4, u5, u6, u7, u8, u9, v', u11, u12, u13, u14, u15, congrArg (frm _) (by funext s; unfold slR; by_cases hs : s = 100 <;> simp [hs]), fun h => absurd (by simpa using h) (by rw [h16f]; decide), fun _ => ⟨?_, fun h => f1 (by simpa using h), fun h => f2 (by simpa using h), fun h => f4 (by simpa using h), fun h => f8 (by simpa using h), fun h => f9 (by simpa using h), fun h => f11 (by simpa using h), fun h => have q := f14 (by simpa using h); ⟨q.1, by simp [q.2.1], by simp [q.2.2]⟩, fun h => f15 (by simpa using h)⟩⟩
      exact hR.app 7 (by unfold LiveR; simp [hpre 7 rfl, hL]) 10 ⟨25, 5, v', v.items.length, xs⟩ hu hrow2 (by
        intro k hk
        unfold LiveR at hk
        rcases hk with ⟨rfl, h⟩ | ⟨rfl, h⟩ | ⟨rfl, h⟩ | ⟨rfl, h⟩ | ⟨rfl, h⟩ | ⟨rfl, h⟩ | ⟨rfl, h⟩ | ⟨rfl, h⟩ | ⟨rfl, h⟩ <;> first | (exfalso; simp at h; done) | exact .inr ⟨rfl, rfl⟩ | exact .inl ⟨by decide, by decide, by unfold LiveR; simpa using h, rfl⟩)
    · have h16f : L 16 = false := by
        cases e : L 16 with
        | false => rfl
        | true => exact absurd ((h16 e).2 11 (by omega)) (by rw [hL]; decide)
      obtain ⟨hR, f1, f2, f4, f8, f9, f11, f14, f15⟩ := hF h16f
      obtain ⟨⟨b0, b1, b2, b3, b4⟩, v0, v1, v2, v3, v4⟩ := HSS.out _ hR.below
      have E6 : (frm a0 (slR u0 u1 u2 u3 u4 u5 u6 u7 u8 u9 u10 u11 u12 u13 u14 u15)).eval (.tmp 6) = .pointer (some ⟨C, 0, none⟩) := (frm_old rfl).trans h6
      refine wp_val (.agg #[.int .i64 x.kind, .int .i64 x.int, .string x.text, .slice cn x.names.length cm, .slice ci x.items.length cc]) (w' := w') (by generalize (frm a0 (slR u0 u1 u2 u3 u4 u5 u6 u7 u8 u9 u10 u11 u12 u13 u14 u15)).eval = ρ at E6 ⊢; simp [execOp, go_sem, E6, v0, v1, v2, v3, v4]) ?_
      rw [frm_put]
      refine ⟨u0, u1, u2, u3, u4, u5, u6, u7, u8, u9, u10, (.agg #[.int .i64 x.kind, .int .i64 x.int, .string x.text, .slice cn x.names.length cm, .slice ci x.items.length cc]), u12, u13, u14, u15, congrArg (frm _) (by funext s; unfold slR; by_cases hs : s = 101 <;> simp [hs]), fun h => absurd (by simpa using h) (by rw [h16f]; decide), fun _ => ⟨?_, fun h => f1 (by simpa using h), fun h => f2 (by simpa using h), fun h => f4 (by simpa using h), fun h => f8 (by simpa using h), fun h => f9 (by simpa using h), fun _ => rfl, fun h => have q := f14 (by simpa using h); ⟨q.1, by simp [q.2.1], by simp [q.2.2]⟩, fun h => f15 (by simpa using h)⟩⟩
      exact hR.weak (by
        intro k hk
        refine ⟨?_, rfl⟩
        unfold LiveR at hk ⊢
        simpa using hk)
    · have h16f : L 16 = false := by
        cases e : L 16 with
        | false => rfl
        | true => exact absurd ((h16 e).2 12 (by omega)) (by rw [hL]; decide)
      obtain ⟨hR, f1, f2, f4, f8, f9, f11, f14, f15⟩ := hF h16f
      have E101 : (frm a0 (slR u0 u1 u2 u3 u4 u5 u6 u7 u8 u9 u10 u11 u12 u13 u14 u15)).eval (.tmp 101) = .agg #[.int .i64 x.kind, .int .i64 x.int, .string x.text, .slice cn x.names.length cm, .slice ci x.items.length cc] := (show (frm a0 (slR u0 u1 u2 u3 u4 u5 u6 u7 u8 u9 u10 u11 u12 u13 u14 u15)).eval (.tmp 101) = u11 from frm_eval rfl (by omega)).trans (f11 (hpre 11 rfl))
      refine wp_val (.slice (some ⟨w'.heap.size, 0, none⟩) 1 1) (w' := w'.alloc (.cells #[.int .i64 x.kind, .int .i64 x.int, .string x.text, .slice cn x.names.length cm, .slice ci x.items.length cc] 25)) (by generalize (frm a0 (slR u0 u1 u2 u3 u4 u5 u6 u7 u8 u9 u10 u11 u12 u13 u14 u15)).eval = ρ at E101 ⊢; simp [execOp, go_sem, E101]) ?_
      rw [frm_put]
      refine ⟨u0, u1, u2, u3, u4, u5, u6, u7, u8, u9, u10, u11, (.slice (some ⟨w'.heap.size, 0, none⟩) 1 1), u13, u14, u15, congrArg (frm _) (by funext s; unfold slR; by_cases hs : s = 102 <;> simp [hs]), fun h => absurd (by simpa using h) (by rw [h16f]; decide), fun _ => ⟨?_, fun h => f1 (by simpa using h), fun h => f2 (by simpa using h), fun h => f4 (by simpa using h), fun h => f8 (by simpa using h), fun h => f9 (by simpa using h), fun h => f11 (by simpa using h), fun h => have q := f14 (by simpa using h); ⟨q.1, by simp [q.2.1], by simp [q.2.2]⟩, fun h => f15 (by simpa using h)⟩⟩
      exact hR.made ((Below.refl _ _).alloc (Nat.le_refl _) _) 12 ⟨25, 5, .slice (some ⟨w'.heap.size, 0, none⟩) 1 1, 1, [.int .i64 x.kind, .int .i64 x.int, .string x.text, .slice cn x.names.length cm, .slice ci x.items.length cc]⟩ (row_new w' _ 5 1 [.int .i64 x.kind, .int .i64 x.int, .string x.text, .slice cn x.names.length cm, .slice ci x.items.length cc] rfl (by unfold maxLen; omega)) (fun g hg => by cases hg; exact Nat.le_refl _) (by
        intro k hk
        unfold LiveR at hk
        rcases hk with ⟨rfl, h⟩ | ⟨rfl, h⟩ | ⟨rfl, h⟩ | ⟨rfl, h⟩ | ⟨rfl, h⟩ | ⟨rfl, h⟩ | ⟨rfl, h⟩ | ⟨rfl, h⟩ | ⟨rfl, h⟩ <;> first | (exfalso; simp at h; done) | exact .inr ⟨rfl, rfl⟩ | exact .inl ⟨by decide, by unfold LiveR; simpa using h, rfl⟩)
    · have h16f : L 16 = false := by
        cases e : L 16 with
        | false => rfl
        | true => exact absurd ((h16 e).2 13 (by omega)) (by rw [hL]; decide)
      obtain ⟨hR, f1, f2, f4, f8, f9, f11, f14, f15⟩ := hF h16f
      have hrow := hR.row 10 (by unfold LiveR; simp [hpre 10 rfl, hL])
      obtain ⟨ra, rc, hrv, _, _, hrr⟩ := (hR.row 12 (by unfold LiveR; simp [hpre 12 rfl, hL])).form
      have hrw : u12 = .slice ra 1 rc := hrv
      clear hrv
      rcases hrr with ⟨_, h0, _⟩ | ⟨rg, rfl, _, _, hrl⟩
      · exact absurd h0 (by show ¬ (1 : Nat) = 0; decide)
      refine wp_app valTy (.tmp 100) (.tmp 102) rfl u10 v.items.length xs (frm_eval rfl (by omega)) hrow (some ⟨rg, 0, none⟩) 1 rc [.int .i64 x.kind, .int .i64 x.int, .string x.text, .slice cn x.names.length cm, .slice ci x.items.length cc] ((show (frm a0 (slR u0 u1 u2 u3 u4 u5 u6 u7 u8 u9 u10 u11 u12 u13 u14 u15)).eval (.tmp 102) = u12 from frm_eval rfl (by omega)).trans hrw) rfl (fun h => by cases h) (fun q hq j u hj => by cases hq; rw [add_none]; exact hrl j u hj) (by simp [Value.oneCell']) (by unfold maxLen; omega) (by omega) ?_
      intro v' w'' hrow2 hu

      rw [frm_put]
      refine ⟨u0, u1, u2, u3, u4, u5, u6, u7, u8, u9, u10, u11, u12, v', u14, u15, congrArg (frm _) (by funext s; unfold slR; by_cases hs : s = 103 <;> simp [hs]), fun h => absurd (by simpa using h) (by rw [h16f]; decide), fun _ => ⟨?_, fun h => f1 (by simpa using h), fun h => f2 (by simpa using h), fun h => f4 (by simpa using h), fun h => f8 (by simpa using h), fun h => f9 (by simpa using h), fun h => f11 (by simpa using h), fun h => absurd (f14 (by simpa using h)).2.2 (by rw [hL]; decide), fun h => f15 (by simpa using h)⟩⟩
      exact hR.app 10 (by unfold LiveR; simp [hpre 10 rfl, hL]) 13 ⟨25, 5, v', v.items.length + 1, xs ++ [.int .i64 x.kind, .int .i64 x.int, .string x.text, .slice cn x.names.length cm, .slice ci x.items.length cc]⟩ hu hrow2 (by
        intro k hk
        unfold LiveR at hk
        rcases hk with ⟨rfl, h⟩ | ⟨rfl, h⟩ | ⟨rfl, h⟩ | ⟨rfl, h⟩ | ⟨rfl, h⟩ | ⟨rfl, h⟩ | ⟨rfl, h⟩ | ⟨rfl, h⟩ | ⟨rfl, h⟩ <;> first | (exfalso; simp at h; done) | exact .inr ⟨rfl, rfl⟩ | exact .inl ⟨by decide, by decide, by unfold LiveR; simpa using h, rfl⟩)
    · have h16f : L 16 = false := by
        cases e : L 16 with
        | false => rfl
        | true => exact absurd ((h16 e).2 14 (by omega)) (by rw [hL]; decide)
      obtain ⟨hR, f1, f2, f4, f8, f9, f11, f14, f15⟩ := hF h16f
      obtain ⟨ra, rc, hr6, _⟩ := (hR.row 6 (by unfold LiveR; simp [hpre 6 rfl])).form
      obtain ⟨sa, sd, hr13, _⟩ := (hR.row 13 (by unfold LiveR; simp [hpre 13 rfl])).form
      obtain rfl : u6 = .slice ra (v.names.length + 1) rc := hr6
      obtain rfl : u13 = .slice sa (v.items.length + 1) sd := hr13
      have E96 : (frm a0 (slR u0 u1 u2 u3 u4 u5 (.slice ra (v.names.length + 1) rc) u7 u8 u9 u10 u11 u12 (.slice sa (v.items.length + 1) sd) u14 u15)).eval (.tmp 96) = .slice ra (v.names.length + 1) rc := (frm_eval rfl (by omega))
      have E103 : (frm a0 (slR u0 u1 u2 u3 u4 u5 (.slice ra (v.names.length + 1) rc) u7 u8 u9 u10 u11 u12 (.slice sa (v.items.length + 1) sd) u14 u15)).eval (.tmp 103) = .slice sa (v.items.length + 1) sd := (frm_eval rfl (by omega))
      have EC : (frm a0 (slR u0 u1 u2 u3 u4 u5 (.slice ra (v.names.length + 1) rc) u7 u8 u9 u10 u11 u12 (.slice sa (v.items.length + 1) sd) u14 u15)).eval (.const (.int .i64 6)) = .int .i64 6 := rfl
      refine wp_val (.agg #[.int .i64 6, .int .i64 0, .string ⟨#[]⟩, .slice ra (v.names.length + 1) rc, .slice sa (v.items.length + 1) sd]) (w' := w') (by generalize (frm a0 (slR u0 u1 u2 u3 u4 u5 (.slice ra (v.names.length + 1) rc) u7 u8 u9 u10 u11 u12 (.slice sa (v.items.length + 1) sd) u14 u15)).eval = ρ at E96 E103 EC ⊢; simp [execOp, go_sem, E96, E103, EC]) ?_
      rw [frm_put]
      refine ⟨u0, u1, u2, u3, u4, u5, (.slice ra (v.names.length + 1) rc), u7, u8, u9, u10, u11, u12, (.slice sa (v.items.length + 1) sd), (.agg #[.int .i64 6, .int .i64 0, .string ⟨#[]⟩, .slice ra (v.names.length + 1) rc, .slice sa (v.items.length + 1) sd]), u15, congrArg (frm _) (by funext s; unfold slR; by_cases hs : s = 104 <;> simp [hs]), fun h => absurd (by simpa using h) (by rw [h16f]; decide), fun _ => ⟨?_, fun h => f1 (by simpa using h), fun h => f2 (by simpa using h), fun h => f4 (by simpa using h), fun h => f8 (by simpa using h), fun h => f9 (by simpa using h), fun h => f11 (by simpa using h), fun _ => ⟨rfl, by simp [hpre 6 rfl], by simp [hpre 13 rfl]⟩, fun h => f15 (by simpa using h)⟩⟩
      exact hR.weak (by
        intro k hk
        refine ⟨?_, rfl⟩
        unfold LiveR at hk ⊢
        simpa using hk)
    · have h16f : L 16 = false := by
        cases e : L 16 with
        | false => rfl
        | true => exact absurd ((h16 e).2 15 (by omega)) (by rw [hL]; decide)
      obtain ⟨hR, f1, f2, f4, f8, f9, f11, f14, f15⟩ := hF h16f
      refine wp_val (.pointer (some ⟨w'.heap.size, 0, none⟩)) (w' := w'.alloc (.cells #[.int .i64 0, .int .i64 0, .string ⟨#[]⟩, .slice none 0 0, .slice none 0 0] 25)) (by simp [execOp, go_sem]) ?_
      rw [frm_put]
      refine ⟨u0, u1, u2, u3, u4, u5, u6, u7, u8, u9, u10, u11, u12, u13, u14, (.pointer (some ⟨w'.heap.size, 0, none⟩)), congrArg (frm _) (by funext s; unfold slR; by_cases hs : s = 12 <;> simp [hs]), fun h => absurd (by simpa using h) (by rw [h16f]; decide), fun _ => ⟨?_, fun h => f1 (by simpa using h), fun h => f2 (by simpa using h), fun h => f4 (by simpa using h), fun h => f8 (by simpa using h), fun h => f9 (by simpa using h), fun h => f11 (by simpa using h), fun h => have q := f14 (by simpa using h); ⟨q.1, by simp [q.2.1], by simp [q.2.2]⟩, fun _ => ⟨_, rfl⟩⟩⟩
      exact hR.made ((Below.refl _ _).alloc (Nat.le_refl _) _) 15 ⟨25, 5, .slice (some ⟨w'.heap.size, 0, none⟩) 1 1, 1, [.int .i64 0, .int .i64 0, .string ⟨#[]⟩, .slice none 0 0, .slice none 0 0]⟩ (row_new w' _ 5 1 [.int .i64 0, .int .i64 0, .string ⟨#[]⟩, .slice none 0 0, .slice none 0 0] rfl (by unfold maxLen; omega)) (fun g hg => by cases hg; exact Nat.le_refl _) (by
        intro k hk
        unfold LiveR at hk
        rcases hk with ⟨rfl, h⟩ | ⟨rfl, h⟩ | ⟨rfl, h⟩ | ⟨rfl, h⟩ | ⟨rfl, h⟩ | ⟨rfl, h⟩ | ⟨rfl, h⟩ | ⟨rfl, h⟩ | ⟨rfl, h⟩ <;> first | (exfalso; simp at h; done) | exact .inr ⟨rfl, rfl⟩ | exact .inl ⟨by decide, by unfold LiveR; simpa using h, rfl⟩)
    · have hall : ∀ j, j < 16 → L j = true := fun j hj => by
        have hj2 : j = 0 ∨ j = 1 ∨ j = 2 ∨ j = 3 ∨ j = 4 ∨ j = 5 ∨ j = 6 ∨ j = 7 ∨ j = 8 ∨ j = 9 ∨ j = 10 ∨ j = 11 ∨ j = 12 ∨ j = 13 ∨ j = 14 ∨ j = 15 := by omega
        rcases hj2 with rfl | rfl | rfl | rfl | rfl | rfl | rfl | rfl | rfl | rfl | rfl | rfl | rfl | rfl | rfl | rfl <;> exact hpre _ rfl
      obtain ⟨hR, f1, f2, f4, f8, f9, f11, f14, f15⟩ := hF hL
      obtain ⟨E, he⟩ := f15 (hall 15 (by decide))
      have row6 := hR.row 6 (by unfold LiveR; simp [hall 6 (by decide)])
      have row13 := hR.row 13 (by unfold LiveR; simp [hall 13 (by decide)])
      have hap6 := hR.apart 6 15 (by unfold LiveR; simp [hall 6 (by decide)]) (by unfold LiveR; simp [hall 15 (by decide)]) (by decide)
      have hap13 := hR.apart 13 15 (by unfold LiveR; simp [hall 13 (by decide)]) (by unfold LiveR; simp [hall 15 (by decide)]) (by decide)
      have hown := hR.own 15 (by unfold LiveR; simp [hall 15 (by decide)])
      have row15 := hR.row 15 (by unfold LiveR; simp [hall 15 (by decide)])
      subst he
      have hEb : w3.heap.size ≤ E := hown E rfl
      have hrow6 : Row w' 9 1 u6 (v.names ++ [nm]).length ((v.names ++ [nm]).map Value.string) := by rw [List.length_append, List.map_append]; exact row6
      have hrow13 : Row w' 25 5 u13 (v.items ++ [x]).length (xs ++ [.int .i64 x.kind, .int .i64 x.int, .string x.text, .slice cn x.names.length cm, .slice ci x.items.length cc]) := by rw [List.length_append]; exact row13
      obtain ⟨ra, rc, hr6, hst6⟩ := hrow6.strs (ok := fun b => b ≠ E) (fun g hg e => by
        subst e
        rcases hap6 with h | h
        · exact absurd (h.symm.trans hg) (by simp)
        · exact h hg)
      have hreps : Reps w' (fun b => b ≠ E) (v.items ++ [x]) (xs ++ [.int .i64 x.kind, .int .i64 x.int, .string x.text, .slice cn x.names.length cm, .slice ci x.items.length cc]) := Reps.snoc (Rep.kept (fun b hlt ho => ⟨by omega, hR.below.block b hlt⟩) _ _ HX5.out) (Reps.kept (fun b hlt ho => ⟨by omega, hR.below.block b hlt⟩) HFL.out.2.2.1)
      obtain ⟨sa, sd, hr13, hst13⟩ := hrow13.items (ok := fun b => b ≠ E) hreps (fun g hg e => by
        subst e
        rcases hap13 with h | h
        · exact absurd (h.symm.trans hg) (by simp)
        · exact h hg)
      rw [List.length_append] at hr6 hr13
      have hc6 := hst6.1
      have hc13 := hst13.1
      rw [List.length_append] at hc6 hc13
      have hblk : w'.heap[E]? = some (.cells #[.int .i64 0, .int .i64 0, .string ⟨#[]⟩, .slice none 0 0, .slice none 0 0] 25 (0, 0)) := by
        have row15' : Row w' 25 5 (.slice (some ⟨E, 0, none⟩) 1 1) 1 [.int .i64 0, .int .i64 0, .string ⟨#[]⟩, .slice none 0 0, .slice none 0 0] := row15
        rcases row15'.2 with ⟨h, _⟩ | ⟨g, cap, cur, hv, _, hg, h1, h2, h3, h4⟩
        · cases h
        · cases hv
          rw [hg]
          have h5 : cur.toList = [.int .i64 0, .int .i64 0, .string ⟨#[]⟩, .slice none 0 0, .slice none 0 0] := by
            rw [← List.take_of_length_le (l := cur.toList) (i := 1 * 5) (by rw [Array.length_toList, h3]; exact Nat.le_refl _)]
            exact h4
          rw [show cur = #[.int .i64 0, .int .i64 0, .string ⟨#[]⟩, .slice none 0 0, .slice none 0 0] from by
            rw [← Array.toArray_toList (xs := cur), h5]]
      obtain ⟨⟨k0, k1, k2, k3, k4⟩, _⟩ := cellsOf5 hblk
      have z0 := frozen_of_row w' E 0 _ _ hblk
      have z1 := frozen_of_row w' E 1 _ _ hblk
      have z2 := frozen_of_row w' E 2 _ _ hblk
      have z3 := frozen_of_row w' E 3 _ _ hblk
      have z4 := frozen_of_row w' E 4 _ _ hblk
      have e14 := (f14 (hall 14 (by decide))).1
      clear row6 row13 row15 hown
      replace hr6 : u6 = .slice ra (v.names.length + 1) rc := hr6
      replace hr13 : u13 = .slice sa (v.items.length + 1) sd := hr13
      subst hr6 hr13
      have E12 : (frm a0 (slR u0 u1 u2 u3 u4 u5 (.slice ra (v.names.length + 1) rc) u7 u8 u9 u10 u11 u12 (.slice sa (v.items.length + 1) sd) u14 (.pointer (some ⟨E, 0, none⟩)))).eval (.tmp 12) = .pointer (some ⟨E, 0, none⟩) := frm_eval rfl (by omega)
      have E104 : (frm a0 (slR u0 u1 u2 u3 u4 u5 (.slice ra (v.names.length + 1) rc) u7 u8 u9 u10 u11 u12 (.slice sa (v.items.length + 1) sd) u14 (.pointer (some ⟨E, 0, none⟩)))).eval (.tmp 104) = .agg #[.int .i64 6, .int .i64 0, .string ⟨#[]⟩, .slice ra (v.names.length + 1) rc, .slice sa (v.items.length + 1) sd] := (show (frm a0 (slR u0 u1 u2 u3 u4 u5 (.slice ra (v.names.length + 1) rc) u7 u8 u9 u10 u11 u12 (.slice sa (v.items.length + 1) sd) u14 (.pointer (some ⟨E, 0, none⟩)))).eval (.tmp 104) = u14 from frm_eval rfl (by omega)).trans e14
      refine wp_skip (w' := ((((w'.setCell ⟨E, 0, none⟩ (.int .i64 6)).setCell ⟨E, 1, none⟩ (.int .i64 0)).setCell ⟨E, 2, none⟩ (.string ⟨#[]⟩)).setCell ⟨E, 3, none⟩ (.slice ra (v.names.length + 1) rc)).setCell ⟨E, 4, none⟩ (.slice sa (v.items.length + 1) sd)) (by generalize (frm a0 (slR u0 u1 u2 u3 u4 u5 (.slice ra (v.names.length + 1) rc) u7 u8 u9 u10 u11 u12 (.slice sa (v.items.length + 1) sd) u14 (.pointer (some ⟨E, 0, none⟩)))).eval = ρ at E12 E104 ⊢; simp [execOp, go_sem, E12, E104, k0, k1, k2, k3, k4, z0, z1, z2, z3, z4]) ?_
      refine ⟨u0, u1, u2, u3, u4, u5, _, u7, u8, u9, u10, u11, u12, _, u14, _, rfl, fun _ => ⟨⟨E, ra, sa, rc, sd, rfl, set5 hblk, ?_, below_set5 hR.below hEb⟩, fun j hj => by simp [hall j hj]⟩, fun h => absurd h (by simp)⟩
      exact rep_mk.2 ⟨by omega, by omega, Nat.zero_le _, ra, rc, sa, sd, by simp [List.length_append], by simpa [List.length_append] using hc6, by simpa [List.length_append] using hc13, hst6.2.kept (fun b _ hb => ⟨trivial, other_set5 hb⟩), hst13.2.kept (fun b _ hb => ⟨trivial, other_set5 hb⟩)⟩
  · intro L a' w' hall hI
    obtain ⟨u0, u1, u2, u3, u4, u5, u6, u7, u8, u9, u10, u11, u12, u13, u14, u15, rfl, h16, hF⟩ := hI
    exact hQ _ _ _ _ _ _ _ _ _ _ _ _ _ _ _ _ _ (h16 (hall 16 (by decide))).1
end Go.Proofs.YtnmojmmgkipjcaaGreatDoor
