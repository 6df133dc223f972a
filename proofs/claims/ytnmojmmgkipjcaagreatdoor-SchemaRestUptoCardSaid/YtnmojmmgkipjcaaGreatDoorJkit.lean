/- Small things that the walks over values share. Conditions: none. -/
import Derived.Test.YtnmojmmgkipjcaaGreatDoorEqualw
import Derived.Test.YtnmojmmgkipjcaaGreatDoorCopyl
import Derived.Test.YtnmojmmgkipjcaaGreatDoorLaidl
import Derived.Test.YtnmojmmgkipjcaaGreatDoorUtfl
namespace Go.Proofs.YtnmojmmgkipjcaaGreatDoor
open Go.RowKit
theorem strs_mem {x : ByteArray} {l : List ByteArray} (h : x ∈ l) : x.size ≤ strsBulk l := by
  induction l with
  | nil => cases h
  | cons y r ih =>
    rcases List.mem_cons.1 h with rfl | h
    · simp only [strsBulk]; omega
    · have := ih h; simp only [strsBulk]; omega
theorem drewn1 {w : World} {a : Nat} : ∃ n, w.drewN a = w.drewN n := ⟨_, rfl⟩
theorem drewn2 {w : World} {a b : Nat} : ∃ n, (w.drewN a).drewN b = w.drewN n := ⟨_, World.drewN_drewN _ _ _⟩
theorem drewn3 {w : World} {a b c : Nat} : ∃ n, ((w.drewN a).drewN b).drewN c = w.drewN n := by rw [World.drewN_drewN, World.drewN_drewN]; exact ⟨_, rfl⟩
theorem results_cell2 {P : Program} {fn : Func} {p t u : Tmp} {ty : TypeId} (h : fn.results = #[.cell p ty, .tmp t, .tmp u]) (tmps : Array Value) (w : World) (g : Nat) (T : TypeId) (cs : Array Value) (fr : Nat × Nat) (d : TypeDesc)
    (hp : tmps.getD p undef = .pointer (some ⟨g, 0, none⟩)) (hg : w.heap[g]? = some (.cells cs T fr))
    (hu : P.underlying ty = some d) (hd : (match d with | .struct _ | .array _ _ => true | _ => false) = true) (hi : (P.info? ty).map (·.size) = some cs.size) :
    (results fn tmps).run P w = .ok (.tuple #[.agg cs, tmps.getD t undef, tmps.getD u undef]) w := by
  have hp' : tmps[p]?.getD undef = .pointer (some ⟨g, 0, none⟩) := by simpa using hp
  simp [results, h, hp', asAddr, run_loadVar_row w g T ty cs fr d hg hu hd hi]
theorem cellsOf5 {w : World} {B : Nat} {c0 c1 c2 c3 c4 : Value} {T : TypeId} (h : w.heap[B]? = some (.cells #[c0, c1, c2, c3, c4] T (0, 0))) :
    (w.cell? ⟨B, 0, none⟩ = some c0 ∧ w.cell? ⟨B, 1, none⟩ = some c1 ∧ w.cell? ⟨B, 2, none⟩ = some c2 ∧ w.cell? ⟨B, 3, none⟩ = some c3 ∧ w.cell? ⟨B, 4, none⟩ = some c4) ∧
    (w.frozen? ⟨B, 0, none⟩ = false ∧ w.frozen? ⟨B, 1, none⟩ = false ∧ w.frozen? ⟨B, 2, none⟩ = false ∧ w.frozen? ⟨B, 3, none⟩ = false ∧ w.frozen? ⟨B, 4, none⟩ = false) :=
  ⟨⟨cell_of_row _ _ _ _ _ _ h, cell_of_row _ _ _ _ _ _ h, cell_of_row _ _ _ _ _ _ h, cell_of_row _ _ _ _ _ _ h, cell_of_row _ _ _ _ _ _ h⟩, ⟨frozen_of_row _ _ _ _ _ h, frozen_of_row _ _ _ _ _ h, frozen_of_row _ _ _ _ _ h, frozen_of_row _ _ _ _ _ h, frozen_of_row _ _ _ _ _ h⟩⟩
structure St where
  pos : Nat
  err : Nat
  place : Nat
def St.fail (s : St) (e p : Nat) : St := if s.err = 0 then ⟨s.pos, e, p⟩ else s
theorem Upd.trans_below {a b c : World} {R : Nat} (h : Upd a b (some R) (some R)) (k : Below a.heap.size b c) : Upd a c (some R) (some R) :=
  ⟨⟨k.os.trans h.grown.os, k.tape.trans h.grown.tape, k.output.trans h.grown.output, Nat.le_trans h.grown.size k.size, fun i hi hne => (k.block i hi).trans (h.grown.block i hi hne)⟩, .inl rfl⟩
theorem Upd.heap {w w' : World} {r r' : Option Nat} (h : Upd w w' r r') {w2 : World} (hw : w2.heap = w'.heap) (ho : w2.os = w'.os) (ht : w2.tape = w'.tape) (hu : w2.output = w'.output) : Upd w w2 r r' :=
  ⟨⟨ho.trans h.grown.os, ht.trans h.grown.tape, hu.trans h.grown.output, by rw [hw]; exact h.grown.size, fun k hk hne => by rw [hw]; exact h.grown.block k hk hne⟩, h.own⟩
theorem byte_ne {c d : UInt8} (h : c ≠ d) : ((c.toNat : Int) == (d.toNat : Int)) = false := by
  rw [beq_eq_false_iff_ne]; intro e; exact h (UInt8.toNat_inj.1 (by omega))
theorem drop_cons2 {l : List UInt8} {j : Nat} (h : j < l.length) : l.drop j = l[j] :: l.drop (j + 1) := List.drop_eq_getElem_cons h
theorem drop_at {bs : List UInt8} {p : Nat} (h : p ≤ bs.length) : bs.length - (bs.drop p).length = p := by rw [List.length_drop]; omega
theorem rep_flat (k n : Int) (s : ByteArray) (hk : -9223372036854775808 ≤ k ∧ k ≤ 9223372036854775807) (hn : -9223372036854775808 ≤ n ∧ n ≤ 9223372036854775807) (hs : s.size ≤ maxLen) (w : World) (ok : Nat → Prop) :
    Rep w ok (.mk k n s [] []) [.int .i64 k, .int .i64 n, .string s, .slice none 0 0, .slice none 0 0] :=
  rep_mk.2 ⟨hk, hn, hs, none, 0, none, 0, rfl, ⟨Nat.le_refl _, Nat.zero_le _⟩, ⟨Nat.le_refl _, Nat.zero_le _⟩, .inl rfl, .inl rfl⟩
theorem set5d {w : World} {B : Nat} {T : TypeId} {u0 u1 u2 u3 u4 c0 c1 c2 c3 c4 : Value} (h : w.heap[B]? = some (.cells #[u0, u1, u2, u3, u4] T (0, 0))) :
    (((((w.setCell ⟨B, 0, none⟩ c0).setCell ⟨B, 1, none⟩ c1).setCell ⟨B, 2, none⟩ c2).setCell ⟨B, 3, none⟩ c3).setCell ⟨B, 4, none⟩ c4).drew.heap[B]? = some (.cells #[c0, c1, c2, c3, c4] T (0, 0)) := by
  rw [show ∀ W : World, W.drew.heap = W.heap from fun _ => rfl]
  exact set5 h
theorem take_snoc (s : ByteArray) (k : Nat) (h : k < s.size) : s.data.toList.take (k + 1) = s.data.toList.take k ++ [s[k]] := by
  rw [List.take_succ_eq_append_getElem (by simpa using h)]
  rfl
theorem bulks_take : ∀ (l : List JV) (j : Nat) (h : j < l.length), JV.bulks (l.take j) + l[j].bulk ≤ JV.bulks l
  | t :: r, 0, _ => by simp [JV.bulks]
  | t :: r, j + 1, h => by
    have := bulks_take r j (by simpa using h)
    simp only [List.take_succ_cons, JV.bulks, List.getElem_cons_succ]
    omega
theorem strs_take : ∀ (l : List ByteArray) (j : Nat) (h : j < l.length), strsBulk (l.take j) + l[j].size + 1 ≤ strsBulk l
  | t :: r, 0, _ => by simp [strsBulk]
  | t :: r, j + 1, h => by
    have := strs_take r j (by simpa using h)
    simp only [List.take_succ_cons, strsBulk, List.getElem_cons_succ]
    omega
theorem own_upd {w w' : World} {r r' : Option Nat} (hu : Upd w w' r r') : ∀ b, b < w.heap.size → r ≠ some b → r' ≠ some b ∧ w'.heap[b]? = w.heap[b]? := fun b hlt hb => by
  refine ⟨fun e => ?_, hu.block hlt hb⟩
  rcases hu.own with e2 | ⟨g, e2, hg⟩
  · exact hb (by rw [← e2]; exact e)
  · rw [e2] at e; have := Option.some.inj e; omega
end Go.Proofs.YtnmojmmgkipjcaaGreatDoor
