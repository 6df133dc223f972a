/- Values that share their items' lists: what stays where the own lists of one are written. Conditions: none. -/
import Derived.Test.YtbkbokfegjodnaaDoorShalw
import Derived.Test.YtbkbokfegjodnaaDoorMakew
import Derived.Test.YtbkbokfegjodnaaDoorFcopyw
import Derived.Test.YtbkbokfegjodnaaDoorJbackl
import Derived.Lib.QuietBelow
import Derived.Deep.RegionHeld3
namespace Go.Proofs.YtbkbokfegjodnaaDoor
open Go.RowKit
theorem RepF.one {w : World} {t : JV} {cs : List Value} {F : List Nat} (h : RepF w t cs F) : ∀ u ∈ cs, u.oneCell' = true := by
  obtain ⟨an, cn, ai, ci, rfl⟩ := h.form
  simp [Value.oneCell']
theorem RepsF.one {w : World} : ∀ {l : List JV} {xs : List Value} {F : List Nat}, RepsF w l xs F → ∀ u ∈ xs, u.oneCell' = true
  | [], xs, F, h => by rw [RepsF] at h; rw [h.1]; intro u hu; cases hu
  | t :: r, xs, F, h => by
    rw [RepsF] at h
    obtain ⟨cs, ys, Ft, Fr, rfl, rfl, h1, h2⟩ := h
    intro u hu
    rcases List.mem_append.1 hu with hu | hu
    · exact h1.one u hu
    · exact RepsF.one h2 u hu
theorem RepsF.below {w w' : World} {l : List JV} {xs : List Value} {F : List Nat} (h : RepsF w l xs F) (hb : Below w.heap.size w w') : RepsF w' l xs F :=
  RepsF.kept l xs F h (fun b hm => hb.block b (RepsF.lt l xs F h b hm))
theorem RepF.turn {w w' : World} {S : Nat → Prop} {t : JV} {cs : List Value} {F : List Nat} (h : RepF w t cs F) (ht : Turn S w w') (hn : ∀ b ∈ F, ¬ S b) : RepF w' t cs F :=
  RepF.kept t cs F h (fun b hm => ht.block b (RepF.lt t cs F h b hm) (hn b hm))
theorem cell_turn {w w' : World} {S : Nat → Prop} {p : Addr} {v : Value} (ht : Turn S w w') (h : w.cell? p = some v) (hn : ¬ S p.block) : w'.cell? p = some v := by
  rw [World.cell?_of_block (w := w) (ht.block p.block (cell_lt h) hn)]; exact h
/-- cells that hold a value, with their lists named -/
theorem RepF.parts {w : World} {k n : Int} {s : ByteArray} {ns : List ByteArray} {is : List JV} {an ai : Option Addr} {cn ci : Nat} {F : List Nat}
    (h : RepF w (.mk k n s ns is) [.int .i64 k, .int .i64 n, .string s, .slice an ns.length cn, .slice ai is.length ci] F) :
    ∃ xs Fs, Row w 9 1 (.slice an ns.length cn) ns.length (ns.map Value.string) ∧ Row w 28 5 (.slice ai is.length ci) is.length xs ∧ RepsF w is xs Fs ∧ F = ownA an ++ (ownA ai ++ Fs) := by
  rw [repF_mk] at h
  obtain ⟨_, _, _, an', cn', ai', ci', xs, Fs, e, h1, h2, h3, h4⟩ := h
  injection e with _ e
  injection e with _ e
  injection e with _ e
  injection e with e1 e
  injection e with e2 _
  injection e1 with e3 _ e4
  injection e2 with e5 _ e6
  subst e3; subst e4; subst e5; subst e6
  exact ⟨xs, Fs, h1, h2, h3, h4⟩
theorem repF_of {w : World} {k n : Int} {s : ByteArray} {ns : List ByteArray} {is : List JV} {an ai : Option Addr} {cn ci : Nat} {xs : List Value} {Fs : List Nat}
    (hk : -9223372036854775808 ≤ k ∧ k ≤ 9223372036854775807) (hn : -9223372036854775808 ≤ n ∧ n ≤ 9223372036854775807) (hs : s.size ≤ maxLen)
    (h1 : Row w 9 1 (.slice an ns.length cn) ns.length (ns.map Value.string)) (h2 : Row w 28 5 (.slice ai is.length ci) is.length xs) (h3 : RepsF w is xs Fs) :
    RepF w (.mk k n s ns is) [.int .i64 k, .int .i64 n, .string s, .slice an ns.length cn, .slice ai is.length ci] (ownA an ++ (ownA ai ++ Fs)) :=
  repF_mk.2 ⟨hk, hn, hs, an, cn, ai, ci, xs, Fs, rfl, h1, h2, h3, rfl⟩
theorem leaf_rep (W : World) (k n : Int) (s : ByteArray) (hk : -9223372036854775808 ≤ k ∧ k ≤ 9223372036854775807) (hn : -9223372036854775808 ≤ n ∧ n ≤ 9223372036854775807) (hs : s.size ≤ maxLen) :
    Rep W (fun _ => True) (.mk k n s [] []) [.int .i64 k, .int .i64 n, .string s, .slice none 0 0, .slice none 0 0] :=
  RepF.rep _ _ _ (repF_of (ns := []) (is := []) (xs := []) (Fs := []) hk hn hs (row_nil _ _ _) (row_nil _ _ _) (by rw [RepsF]; exact ⟨rfl, rfl⟩)) (fun _ _ => trivial)
theorem leaf_eq (W : World) (k n : Int) (s : ByteArray) (hk : -9223372036854775808 ≤ k ∧ k ≤ 9223372036854775807) (hn : -9223372036854775808 ≤ n ∧ n ≤ 9223372036854775807) (hs : s.size ≤ maxLen) :
    Calls Tryd.prog 18 #[.agg #[.int .i64 k, .int .i64 n, .string s, .slice none 0 0, .slice none 0 0], .agg #[.int .i64 k, .int .i64 n, .string s, .slice none 0 0, .slice none 0 0]] W fun e w' => e = .returned (.bool true) ∧ Below W.heap.size W w' := by
  have h := equal_c _ _ _ _ W _ _ (leaf_rep W k n s hk hn hs) (leaf_rep W k n s hk hn hs)
  rw [same_self] at h
  exact h
/-- Equal of a value with itself, the cells apart -/
theorem self_eq {W : World} {t : JV} {cs ds : List Value} {F G : List Nat} (h1 : RepF W t cs F) (h2 : RepF W t ds G) :
    Calls Tryd.prog 18 #[.agg cs.toArray, .agg ds.toArray] W fun e w' => e = .returned (.bool true) ∧ Below W.heap.size W w' := by
  have h := equal_c _ _ _ _ W (fun _ => True) (fun _ => True) (h1.rep _ _ _ (fun _ _ => trivial)) (h2.rep _ _ _ (fun _ _ => trivial))
  rw [same_self] at h
  exact h
theorem fcopy_m (k n : Int) (s : ByteArray) (ns : List ByteArray) (is : List JV) (an ai : Option Addr) (cn ci : Nat) (w : World) (ok : Nat → Prop) (hr : Rep w ok (.mk k n s ns is) [.int .i64 k, .int .i64 n, .string s, .slice an ns.length cn, .slice ai is.length ci]) (hb : (JV.mk k n s ns is).bulk ≤ 1099511627776) :
    Calls Tryd.prog 21 #[.agg #[.int .i64 k, .int .i64 n, .string s, .slice an ns.length cn, .slice ai is.length ci]] w fun e w' => ∃ gn gc gi gd xs Fs, e = .returned (.agg #[.int .i64 k, .int .i64 n, .string s, .slice gn ns.length gc, .slice gi is.length gd]) ∧
      (RepF w' (.mk k n s ns is) [.int .i64 k, .int .i64 n, .string s, .slice gn ns.length gc, .slice gi is.length gd] (ownA gn ++ (ownA gi ++ Fs)) ∧
      Row w' 9 1 (.slice gn ns.length gc) ns.length (ns.map Value.string) ∧ Row w' 28 5 (.slice gi is.length gd) is.length xs ∧ RepsF w' is xs Fs) ∧
      ((ownA gn ++ (ownA gi ++ Fs)).Nodup ∧ (∀ b ∈ ownA gn ++ (ownA gi ++ Fs), w.heap.size ≤ b)) ∧ Below w.heap.size w w' := by
  refine (fcopy_c (.mk k n s ns is) _ w ok hr hb).mono ?_
  rintro e w' ⟨gn, gc, gi, gd, F, rfl, hG, hnd, hfr, hba⟩
  obtain ⟨xs, Fs, h1, h2, h3, rfl⟩ := RepF.parts hG
  exact ⟨gn, gc, gi, gd, xs, Fs, rfl, ⟨hG, h1, h2, h3⟩, ⟨hnd, hfr⟩, hba⟩
theorem row_strs {w : World} {ns : List ByteArray} {a : Option Addr} {c : Nat} (h : Row w 9 1 (.slice a ns.length c) ns.length (ns.map Value.string)) : StrsAt w (fun _ => True) a ns ∧ (a = none → ns.length = 0) := by
  obtain ⟨a', c', e, _, hst⟩ := h.strs (ok := fun _ => True) (fun _ _ => trivial)
  injection e with e1 _ _
  subst e1
  refine ⟨hst, fun hn => ?_⟩
  subst hn
  rcases hst with rfl | ⟨b, off, he, _⟩
  · rfl
  · cases he
theorem block_below {w w' : World} {b : Nat} {o : Obj} (hb : Below w.heap.size w w') (h : w.heap[b]? = some o) : w'.heap[b]? = some o :=
  (hb.block b (Array.getElem?_eq_some_iff.1 h).1).trans h
/-- given, o, l and what is wanted of them -/
structure Five (ns : List ByteArray) (is : List JV) (gn gi on oi li pn pi qn qi : Option Addr) (gc gd oc od ld pc pd qc qd : Nat) (Fs F1 F2 : List Nat) (w : World) : Prop where
  G : RepF w (.mk 0 0 ⟨#[]⟩ ns is) [.int .i64 0, .int .i64 0, .string ⟨#[]⟩, .slice gn ns.length gc, .slice gi is.length gd] (ownA gn ++ (ownA gi ++ Fs))
  O : RepF w (.mk 6 0 ⟨#[]⟩ ns is) [.int .i64 6, .int .i64 0, .string ⟨#[]⟩, .slice on ns.length oc, .slice oi is.length od] (ownA on ++ (ownA oi ++ Fs))
  L : RepF w (.mk 5 0 ⟨#[]⟩ [] is) [.int .i64 5, .int .i64 0, .string ⟨#[]⟩, .slice none 0 0, .slice li is.length ld] (ownA li ++ Fs)
  P : RepF w (.mk 6 0 ⟨#[]⟩ ns is) [.int .i64 6, .int .i64 0, .string ⟨#[]⟩, .slice pn ns.length pc, .slice pi is.length pd] F1
  Q : RepF w (.mk 5 0 ⟨#[]⟩ [] is) [.int .i64 5, .int .i64 0, .string ⟨#[]⟩, .slice qn 0 qc, .slice qi is.length qd] F2
end Go.Proofs.YtbkbokfegjodnaaDoor
