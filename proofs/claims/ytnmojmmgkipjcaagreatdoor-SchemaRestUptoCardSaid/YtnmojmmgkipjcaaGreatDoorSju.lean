/- Small laws for SchemaJoins: a value not too large; lists of two and of three values; a value's bulk. Conditions: none. -/
import Derived.Test.YtnmojmmgkipjcaaGreatDoorSjt
import Derived.Test.YtnmojmmgkipjcaaGreatDoorDocb
namespace Go.Proofs.YtnmojmmgkipjcaaGreatDoor
open Go.RowKit
mutual
theorem parts_size : ∀ (t : JV) (most : Int), parts t most ≤ most → (t.size : Int) ≤ parts t most
  | .mk k n s ns is, most, h => by
    rw [parts] at h ⊢
    have h2 := partsL_size is (1 + (ns.length : Int)) most (by omega) h
    rw [JV.size]
    omega
theorem partsL_size : ∀ (l : List JV) (n most : Int), 0 ≤ n → partsL l n most ≤ most → n + (JV.sizes l : Int) ≤ partsL l n most
  | [], n, most, _, h => by rw [partsL, JV.sizes]; simp
  | t :: r, n, most, h0, h => by
    rw [partsL] at h ⊢
    split at h
    · rename_i h1
      rw [if_pos h1, JV.sizes]
      have b1 := parts_bd t (most - n)
      have b2 := partsL_bd r (n + parts t (most - n)) most (by omega)
      have h3 := parts_size t (most - n) (by omega)
      have h4 := partsL_size r (n + parts t (most - n)) most (by omega) h
      push_cast
      omega
    · omega
end
theorem small_size {l : List JV} {v : JV} (h : largeS l = false) (hv : v ∈ l) : v.size ≤ 3000 := by
  have h1 : sumP l ≤ 3000 := by
    have := of_decide_eq_false h
    omega
  have hp : ∀ m : List JV, v ∈ m → 0 ≤ sumP m ∧ parts v 3000 ≤ sumP m := by
    intro m
    induction m with
    | nil => intro hm; cases hm
    | cons x r ih =>
      intro hm
      have b := parts_bd x 3000
      have b0 : ∀ q : List JV, 0 ≤ sumP q := by
        intro q
        induction q with
        | nil => simp [sumP]
        | cons y q ihq => have := parts_bd y 3000; rw [sumP]; omega
      have b1 := b0 r
      rw [sumP]
      rcases List.mem_cons.1 hm with rfl | hm
      · omega
      · have := ih hm; omega
  have h2 := hp l hv
  have h3 := parts_size v 3000 (by omega)
  omega
theorem items_lie {w : World} {ok : Nat → Prop} : ∀ (ps : List (JV × List Value)) (B off : Nat), (∀ p ∈ ps, Rep w ok p.1 p.2) → Lie w B off (ps.flatMap (·.2)) → RepAll w ok (ps.map (·.1)) B off
  | [], B, off, _, _ => by rw [List.map_nil, RepAll]; trivial
  | p :: r, B, off, h, hl => by
    have hr := h p (by simp)
    have h5 : p.2.length = 5 := by
      obtain ⟨a, c, b, d, e⟩ := hr.form
      rw [e]; rfl
    rw [List.map_cons, RepAll]
    rw [List.flatMap_cons] at hl
    refine ⟨⟨p.2, hr, fun j v hj => hl j v ?_⟩, items_lie r B (off + 5) (fun q hq => h q (by simp [hq])) fun j v hj => ?_⟩
    · rw [List.getElem?_append_left (List.getElem?_eq_some_iff.1 hj).1]
      exact hj
    · have := hl (5 + j) v (by rw [List.getElem?_append_right (by omega), h5]; simpa using hj)
      rw [show off + 5 + j = off + (5 + j) by omega]
      exact this
theorem items_block {w : World} {ok : Nat → Prop} (ps : List (JV × List Value)) {B : Nat} {T : TypeId} (h : ∀ p ∈ ps, Rep w ok p.1 p.2) (hb : w.heap[B]? = some (.cells (ps.flatMap (·.2)).toArray T (0, 0))) : ItemsAt w (fun b => ok b ∨ b = B) (some ⟨B, 0, none⟩) (ps.map (·.1)) := by
  refine .inr ⟨B, 0, rfl, .inr rfl, items_lie ps B 0 (fun p hp => Rep.kept (fun b _ ho => ⟨.inl ho, rfl⟩) _ _ (h p hp)) fun j v hj => ?_⟩
  rw [Nat.zero_add, cell_of_row _ _ _ _ _ _ hb]
  rw [← hj]
  simp
theorem bulks_rev : ∀ l : List JV, JV.bulks l.reverse = JV.bulks l := by
  intro l
  have app : ∀ a b : List JV, JV.bulks (a ++ b) = JV.bulks a + JV.bulks b := by
    intro a b
    induction a with
    | nil => simp [JV.bulks]
    | cons x a ih => rw [List.cons_append, JV.bulks, JV.bulks, ih]; omega
  induction l with
  | nil => rfl
  | cons x l ih => rw [List.reverse_cons, app, ih, JV.bulks, JV.bulks, JV.bulks]; omega
theorem strs_rev : ∀ l : List ByteArray, strsBulk l.reverse = strsBulk l := by
  intro l
  have app : ∀ a b : List ByteArray, strsBulk (a ++ b) = strsBulk a + strsBulk b := by
    intro a b
    induction a with
    | nil => simp [strsBulk]
    | cons x a ih => rw [List.cons_append, strsBulk, strsBulk, ih]; omega
  induction l with
  | nil => rfl
  | cons x l ih => rw [List.reverse_cons, app, ih, strsBulk, strsBulk, strsBulk]; omega
theorem turned_bulk (a : JV) : (turnedJ a).bulk ≤ a.bulk := by
  obtain ⟨k, i, s, ns, is⟩ := a
  show (JV.mk 6 0 ⟨#[]⟩ ns.reverse is.reverse).bulk ≤ _
  rw [JV.bulk, JV.bulk, strs_rev, bulks_rev]
  have : (⟨#[]⟩ : ByteArray).size = 0 := rfl
  omega
theorem obj_bulk (nm : ByteArray) (x : JV) : (jobj nm x).bulk = 1 + (nm.size + 1) + x.bulk := by
  unfold jobj
  rw [JV.bulk, strsBulk, strsBulk, JV.bulks, JV.bulks]
  have : (⟨#[]⟩ : ByteArray).size = 0 := rfl
  omega
theorem two_bulk (a b : JV) : (twoJ a b).bulk = 1 + a.bulk + b.bulk := by
  unfold twoJ
  rw [JV.bulk, strsBulk, JV.bulks, JV.bulks, JV.bulks]
  have : (⟨#[]⟩ : ByteArray).size = 0 := rfl
  omega
theorem readE_good {t : JV} : readE t = 0 ↔ goodB t = true := by
  unfold readE goodB
  by_cases h0 : chk t 0 = 0
  · rw [if_pos h0, decide_eq_true h0, Bool.true_and]
    cases hr : readS t 0 0 with
    | ok m => exact ⟨fun _ => rfl, fun _ => rfl⟩
    | bad e =>
      refine ⟨fun h => ?_, fun h => by cases h⟩
      rcases readS_bad t 0 0 e hr with rfl | rfl <;> exact absurd h (by decide)
  · rw [if_neg h0, decide_eq_false h0, Bool.false_and]
    exact ⟨fun h => absurd h h0, fun h => by cases h⟩
theorem goodB_shape {t : JV} (h : goodB t = true) : t.kind = 6 ∧ t.items.length = t.names.length := by
  obtain ⟨h0, m, hr⟩ := goodB_ok h
  obtain ⟨k, i, s, ns, is⟩ := t
  have h6 : k = 6 := by
    rw [readS] at hr
    split at hr
    · assumption
    · cases hr
  exact ⟨h6, (chk_obj h0 h6).2.1⟩
theorem rep_lists {w : World} {ok : Nat → Prop} {t : JV} {c0 c1 c2 : Value} {an ai : Option Addr} {n m cn ci : Nat} (h : Rep w ok t [c0, c1, c2, .slice an n cn, .slice ai m ci]) : StrsAt w ok an t.names ∧ ItemsAt w ok ai t.items ∧ cn ≤ maxLen ∧ ci ≤ maxLen ∧ t.names.length ≤ cn ∧ t.items.length ≤ ci := by
  obtain ⟨k, i, s, ns, is⟩ := t
  rw [rep_mk] at h
  obtain ⟨_, _, _, an', cn', ai', ci', he, h4, h5, h6, h7⟩ := h
  injection he with _ he
  injection he with _ he
  injection he with _ he
  injection he with e1 he
  injection he with e2 _
  injection e1 with e1 e1a e1b
  injection e2 with e2 e2a e2b
  subst e1 e1b e2 e2b
  exact ⟨h6, h7, h4.2, h5.2, h4.1, h5.1⟩
theorem names_len (a : JV) : a.names.length ≤ a.bulk := by
  obtain ⟨k, i, s, ns, is⟩ := a
  have h := strs_len ns
  rw [JV.bulk]
  show ns.length ≤ _
  omega
theorem lie_below {w w' : World} {b off : Nat} {c : Value} {r : List Value} (h : Lie w b off (c :: r)) (hb : Below w.heap.size w w') : Lie w' b off (c :: r) := h.kept (hb.block b (cell_lt (h 0 c rfl)))
theorem TnAt.nblk {w0 wr w' : World} {B : Nat} {ns : List ByteArray} {nv nv' iv : Value} {is : List JV} {xs : List Value} (h : TnAt w0 B ns nv is iv xs wr) (hu : Upd wr w' nv.ownBlock nv'.ownBlock) : w'.heap[B]? = some (.cells #[.int .i64 6, .int .i64 0, .string ⟨#[]⟩, nv, iv] 25 (0, 0)) :=
  (hu.block h.lt (fun e => (h.nown B e).2.1 rfl)).trans h.blk
theorem TnAt.iblk {w0 wr w' : World} {B : Nat} {ns : List ByteArray} {nv iv iv' : Value} {is : List JV} {xs : List Value} (h : TnAt w0 B ns nv is iv xs wr) (hu : Upd wr w' iv.ownBlock iv'.ownBlock) : w'.heap[B]? = some (.cells #[.int .i64 6, .int .i64 0, .string ⟨#[]⟩, nv, iv] 25 (0, 0)) :=
  (hu.block h.lt (fun e => (h.iown B e).2 rfl)).trans h.blk
end Go.Proofs.YtnmojmmgkipjcaaGreatDoor
