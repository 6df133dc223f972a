/- A map of names that a call makes: which names it has seen. Conditions: a name's length is within what a string may have. -/
import Derived.Test.YtnmojmmgkipjcaaGreatDoorBasea
import Derived.Test.YtnmojmmgkipjcaaGreatDoorUtfl
import Derived.Test.YtnmojmmgkipjcaaGreatDoorJkit
import Derived.StringKeys
import Derived.Maps.Own
import Derived.Maps.OwnSet
import Derived.WalkSpells
namespace Go.Proofs.YtnmojmmgkipjcaaGreatDoor
open Go.RowKit Go.WideMaps Go.Maps
theorem mapLaw : Keyed Tryz.prog 9 := string_keyed Tryz.underlying9
theorem zeroInt (w : World) : (zeroValue 3).run Tryz.prog w = .ok (.int .i64 0) w := by kernel_rfl
theorem hasB_snoc (l : List ByteArray) (x s : ByteArray) : hasB (l ++ [x]) s = (hasB l s || (x.data.toList == s.data.toList)) := by
  simp [hasB, List.any_append]
/-- block B is a map that counts the names of l -/
def SeenAt (w : World) (B : Nat) (l : List ByteArray) : Prop :=
  ∃ n D, w.ownsMap Tryz.prog 9 (plainElem (H := Unit) Tryz.prog 3) B n D ∧ n ≤ l.length ∧
    ∀ s : ByteArray, ∃ c : Int, D.atKey (.string s.data.toList) (.lit (.int .i64 0)) = .lit (.int .i64 c) ∧ 0 ≤ c ∧ c ≤ l.length ∧ decide (0 < c) = hasB l s
theorem seen_new (w : World) : SeenAt (w.alloc (.map #[] 0)) w.heap.size [] :=
  ⟨0, .map [], World.ownsMap_made _ _ _ _, Nat.le_refl _, fun _ => ⟨0, rfl, by omega, by simp, rfl⟩⟩
theorem SeenAt.lt {w : World} {B : Nat} {l : List ByteArray} (h : SeenAt w B l) : B < w.heap.size := by
  obtain ⟨n, D, h, _⟩ := h; exact h.lt
theorem SeenAt.kept {w w' : World} {B : Nat} {l : List ByteArray} {r r' : Option Nat} (h : SeenAt w B l) (hu : Upd w w' r r') (hne : r ≠ some B) : SeenAt w' B l := by
  obtain ⟨n, D, h, h1⟩ := h
  exact ⟨n, D, h.kept hu.grown (fun e => hne e.symm), h1⟩
theorem SeenAt.below {w w' : World} {B : Nat} {l : List ByteArray} (h : SeenAt w B l) (hb : Below w.heap.size w w') : SeenAt w' B l :=
  h.kept (Upd.of_below hb none) (by simp)
theorem SeenAt.look {w : World} {B : Nat} {l : List ByteArray} (h : SeenAt w B l) (s : ByteArray) (hs : s.size ≤ maxLen) :
    ∃ c : Int, (Instr.lookup 89 (.map (some B)) (.string s) false).run Tryz.prog w = .ok (.int .i64 c) w ∧ 0 ≤ c ∧ c ≤ l.length ∧ decide (0 < c) = hasB l s := by
  obtain ⟨n, D, h, _, h2⟩ := h
  obtain ⟨c, hrun, hat, _⟩ := h.lookup_int mapLaw Tryz.underlying89 Tryz.underlying3 (zeroInt w) (keyOf_string_mk Tryz.underlying9 hs)
  obtain ⟨c', h3, h4⟩ := h2 s
  rw [h3] at hat
  injection hat with e1
  injection e1 with _ e2
  subst e2
  exact ⟨_, hrun, h4⟩
/-- one name more, in the walk -/
theorem wpList_seen {w : World} {ops : Array Oper} {rest : List Oper} {o : Oper} {a : Act} {Q : Exit → Act → World → Prop} {B : Nat} {l : List ByteArray}
    (hg : o.guard = none) (m x v : Operand) (hop : o.op = Op.mapUpdate 89 m x v) (hm : a.eval m = .map (some B)) (h : SeenAt w B l) (s : ByteArray) (c : Int) (hx : a.eval x = .string s) (hs : s.size ≤ maxLen)
    (u : Int) (hv : a.eval v = .int .i64 u) (hu : u = c + 1) (hlook : (Instr.lookup 89 (.map (some B)) (.string s) false).run Tryz.prog w = .ok (.int .i64 c) w) (hl : l.length < 9223372036854775807)
    (hK : ∀ w', SeenAt w' B (l ++ [s]) → Upd w w' (some B) (some B) → wpList Tryz.prog ops Q rest (a.put o.dst undef) w') :
    wpList Tryz.prog ops Q (o :: rest) a w := by
  obtain ⟨c2, hrun, hc0, hc1, hc2⟩ := h.look s hs
  rw [hlook] at hrun
  injection hrun with e1 _
  injection e1 with _ e2
  subst e2
  subst hu
  obtain ⟨n, D, hown, h1, h2⟩ := h
  refine wpList_mapUpdate_own w hg m x v 89 hop 9 3 mapLaw Tryz.underlying89 _ B n D hm hown (by unfold maxLen; omega) (.string s) _ (.string s.data.toList) hx hv (keyOf_string_mk Tryz.underlying9 hs) (.lit (.int .i64 (c + 1))) [] (by exact plainElem_int Tryz.underlying3 (by simp [Lit.wf, IntKind.min, IntKind.max, IntKind.signed, IntKind.bits]; omega)) ?_
  intro w' hown' hgrow
  refine hK w' ⟨n + 1, _, hown', by simp; omega, fun u => ?_⟩ ⟨hgrow, .inl rfl⟩
  rw [hasB_snoc]
  by_cases hsu : s = u
  · subst hsu
    exact ⟨c + 1, atKey_put_same hown.isMap (by simp [WideAt.IsKeyLit]) _ _, by omega, by simp; omega, by simp; omega⟩
  · obtain ⟨c', h3, h4, h5, h6⟩ := h2 u
    have hne : (s.data.toList == u.data.toList) = false := by
      rw [beq_eq_false_iff_ne]; intro e; exact hsu (ByteArray.ext (Array.ext' e))
    refine ⟨c', by rw [atKey_put_other (fun e => by injection e with e; exact hsu (ByteArray.ext (Array.ext' e.symm)))]; exact h3, h4, by simp; omega, by rw [hne, Bool.or_false]; exact h6⟩
end Go.Proofs.YtnmojmmgkipjcaaGreatDoor
