/- A schema in plain Lean, and in memory. Conditions: none. -/
import Derived.Test.YtnmojmmgkipjcaaGreatDoorHasp
import Derived.Lib.RuneCount
import Derived.Lib.SlicesS
import Derived.Test.YtnmojmmgkipjcaaGreatDoorPartsw
import Derived.Test.YtnmojmmgkipjcaaGreatDoorOkt
namespace Go.Proofs.YtnmojmmgkipjcaaGreatDoor
/-- what a reader comes to: an error, or how many rules there are -/
inductive RS where
  | bad (e : Nat)
  | ok (n : Nat)
/-- the kinds of a type's name -/
def typeKinds (s : ByteArray) : List Int :=
  if s = ⟨#[110, 117, 108, 108]⟩ then [0] else if s = ⟨#[98, 111, 111, 108]⟩ then [1, 2] else if s = ⟨#[105, 110, 116]⟩ then [3] else if s = ⟨#[115, 116, 114, 105, 110, 103]⟩ then [4] else if s = ⟨#[97, 114, 114, 97, 121]⟩ then [5] else if s = ⟨#[111, 98, 106, 101, 99, 116]⟩ then [6] else []
def kindsJ (x : JV) : List Int := if x.kind = 4 then typeKinds x.text else []
def typesOk (l : List JV) : Bool := !l.isEmpty && l.all (fun y => !(kindsJ y).isEmpty)
def given (b : Bool) (n : Nat) : RS := if b = true then .ok n else .bad 210
/-- what a type's rule is given: one, or a list -/
def typeL (x : JV) : List JV := if x.kind = 5 then x.items else [x]
/-- the rules that lead to no schema -/
def leafOk (w : ByteArray) (x : JV) : Bool :=
  if w = ⟨#[116, 121, 112, 101]⟩ then typesOk (typeL x)
  else if w = ⟨#[101, 110, 117, 109]⟩ then decide (x.kind = 5) && !x.items.isEmpty
  else if w = ⟨#[114, 101, 113, 117, 105, 114, 101, 100]⟩ then decide (x.kind = 5) && x.items.all (fun y => decide (y.kind = 4))
  else if w = ⟨#[97, 100, 100, 105, 116, 105, 111, 110, 97, 108]⟩ then decide (x.kind = 2) || decide (x.kind = 1)
  else if w = ⟨#[109, 105, 110, 73, 116, 101, 109, 115]⟩ ∨ w = ⟨#[109, 97, 120, 73, 116, 101, 109, 115]⟩ ∨ w = ⟨#[109, 105, 110, 76, 101, 110, 103, 116, 104]⟩ ∨ w = ⟨#[109, 97, 120, 76, 101, 110, 103, 116, 104]⟩ then decide (x.kind = 3) && decide (0 ≤ x.int)
  else if w = ⟨#[109, 105, 110, 105, 109, 117, 109]⟩ ∨ w = ⟨#[109, 97, 120, 105, 109, 117, 109]⟩ then decide (x.kind = 3)
  else if w = ⟨#[100, 105, 118, 105, 115, 105, 98, 108, 101]⟩ then decide (x.kind = 3) && decide (1 ≤ x.int)
  else false
mutual
def readS : JV → Nat → Nat → RS
  | .mk k _ _ ns is, d, n => if k = 6 then (if 8 < d then .bad 211 else readRules is ns d n) else .bad 210
def readRules : List JV → List ByteArray → Nat → Nat → RS
  | x :: is, w :: ns, d, n => if n = 128 then .bad 211 else match readRule x w d (n + 1) with
    | .bad e => .bad e
    | .ok m => readRules is ns d m
  | [], _, _, n => .ok n
  | _ :: _, [], _, n => .ok n
def readRule : JV → ByteArray → Nat → Nat → RS
  | .mk k i s ns is, w, d, n =>
    if w = ⟨#[112, 114, 111, 112, 101, 114, 116, 105, 101, 115]⟩ then (if k = 6 then readList is (d + 1) n else .bad 210)
    else if w = ⟨#[97, 110, 121, 79, 102]⟩ ∨ w = ⟨#[97, 108, 108, 79, 102]⟩ then (if k = 5 ∧ is ≠ [] then readList is (d + 1) n else .bad 210)
    else if w = ⟨#[105, 116, 101, 109, 115]⟩ ∨ w = ⟨#[110, 111, 116]⟩ then (if k = 6 then (if 8 < d + 1 then .bad 211 else readRules is ns (d + 1) n) else .bad 210)
    else given (leafOk w (.mk k i s ns is)) n
def readList : List JV → Nat → Nat → RS
  | x :: is, d, n => match readS x d n with
    | .bad e => .bad e
    | .ok m => readList is d m
  | [], _, n => .ok n
end
/-- where, and by which word, a value breaks a rule; of a place in a list the path tells no number here -/
abbrev FR := Option (List (Option ByteArray) × ByteArray)
/-- the member that stands under 'properties' -/
def knownJ (ns : List ByteArray) (is : List JV) : JV := (hasG ⟨#[112, 114, 111, 112, 101, 114, 116, 105, 101, 115]⟩ ns is).getD (jnil 0)
/-- of an object, as far as names and items go -/
def membersJ (v : JV) : Nat := if v.kind = 6 then min v.names.length v.items.length else 0
def sizeFits (most : Bool) (x n : Int) : Bool := n == x || (decide (n < x) == most)
/-- is a rule kept that leads to no schema? -/
def leafKept (w : ByteArray) (x : JV) (kn : JV) (v : JV) : Bool :=
  if w = ⟨#[116, 121, 112, 101]⟩ then ((typeL x).flatMap kindsJ).contains v.kind
  else if w = ⟨#[101, 110, 117, 109]⟩ then x.items.any (fun y => same y v)
  else if w = ⟨#[114, 101, 113, 117, 105, 114, 101, 100]⟩ then x.items.all (fun y => !decide (v.kind = 6) || Lib.containsS (v.names.take (membersJ v)) y.text)
  else if w = ⟨#[97, 100, 100, 105, 116, 105, 111, 110, 97, 108]⟩ then (v.names.take (membersJ v)).all (fun m => !decide (x.kind = 1) || Lib.containsS kn.names m)
  else if w = ⟨#[109, 105, 110, 73, 116, 101, 109, 115]⟩ then !decide (v.kind = 5) || sizeFits false x.int v.items.length
  else if w = ⟨#[109, 97, 120, 73, 116, 101, 109, 115]⟩ then !decide (v.kind = 5) || sizeFits true x.int v.items.length
  else if w = ⟨#[109, 105, 110, 76, 101, 110, 103, 116, 104]⟩ then !decide (v.kind = 4) || sizeFits false x.int (Lib.runeCount v.text)
  else if w = ⟨#[109, 97, 120, 76, 101, 110, 103, 116, 104]⟩ then !decide (v.kind = 4) || sizeFits true x.int (Lib.runeCount v.text)
  else if w = ⟨#[109, 105, 110, 105, 109, 117, 109]⟩ then !decide (v.kind = 3) || decide (x.int ≤ v.int)
  else if w = ⟨#[109, 97, 120, 105, 109, 117, 109]⟩ then !decide (v.kind = 3) || decide (v.int ≤ x.int)
  else if w = ⟨#[100, 105, 118, 105, 115, 105, 98, 108, 101]⟩ then !decide (v.kind = 3) || decide (v.int.tmod x.int = 0)
  else true
/-- the first item that is broken -/
def firstItem (f : JV → FR) : List JV → FR
  | [] => none
  | u :: r => match f u with
    | some (p, wd) => some (none :: p, wd)
    | none => firstItem f r
mutual
def faultS : JV → JV → FR
  | .mk _ _ _ ns is, v => faultL is ns (knownJ ns is) v
def faultL : List JV → List ByteArray → JV → JV → FR
  | x :: is, w :: ns, kn, v => match faultR x w kn v with
    | some (p, wd) => some (p, if wd = ⟨#[]⟩ then w else wd)
    | none => faultL is ns kn v
  | [], _, _, _ => none
  | _ :: _, [], _, _ => none
def faultR : JV → ByteArray → JV → JV → FR
  | .mk k i s ns is, w, kn, v =>
    if w = ⟨#[112, 114, 111, 112, 101, 114, 116, 105, 101, 115]⟩ then faultP is ns v
    else if w = ⟨#[97, 110, 121, 79, 102]⟩ then (if 0 < keptL is v then none else some ([], ⟨#[]⟩))
    else if w = ⟨#[97, 108, 108, 79, 102]⟩ then (if keptL is v = is.length then none else some ([], ⟨#[]⟩))
    else if w = ⟨#[105, 116, 101, 109, 115]⟩ then (if v.kind = 5 then firstItem (fun u => faultL is ns (knownJ ns is) u) v.items else none)
    else if w = ⟨#[110, 111, 116]⟩ then (if (faultL is ns (knownJ ns is) v).isSome then none else some ([], ⟨#[]⟩))
    else if leafKept w (.mk k i s ns is) kn v = true then none else some ([], ⟨#[]⟩)
def faultP : List JV → List ByteArray → JV → FR
  | x :: is, n :: ns, v => match hasJ v n with
    | some u => (match faultS x u with
      | some (p, wd) => some (some n :: p, wd)
      | none => faultP is ns v)
    | none => faultP is ns v
  | [], _, _ => none
  | _ :: _, [], _ => none
def keptL : List JV → JV → Nat
  | x :: is, v => (if (faultS x v).isSome then 0 else 1) + keptL is v
  | [], _ => 0
end
/-- does a value keep a schema? -/
def keepsJ (s v : JV) : Bool := (faultS s v).isNone
end Go.Proofs.YtnmojmmgkipjcaaGreatDoor
namespace Go.Proofs.YtnmojmmgkipjcaaGreatDoor
open Go.RowKit
theorem eq_t {a b : ByteArray} (h : a = b) : (a.toList == b.toList) = true := bytes_eq.2 h
theorem eq_f {a b : ByteArray} (h : a ≠ b) : (a.toList == b.toList) = false := bytes_ne h
theorem lit_t {a : ByteArray} {l : List UInt8} (h : a = ⟨l.toArray⟩) : (a.toList == l) = true := by
  rw [beq_iff_eq, ByteArray.toList_eq, h]
theorem lit_f {a : ByteArray} {l : List UInt8} (h : a ≠ ⟨l.toArray⟩) : (a.toList == l) = false := by
  rw [Bool.eq_false_iff]
  intro e
  rw [beq_iff_eq, ByteArray.toList_eq] at e
  exact h (ByteArray.ext (by rw [← e]))
/-- the document's class of a type's name -/
def typeIx : List (ByteArray × Int) → ByteArray → Int
  | [], _ => -1
  | (a, n) :: r, s => if a = s then n else typeIx r s
def typeTab : List (ByteArray × Int) := [(⟨#[110, 117, 108, 108]⟩, 0), (⟨#[98, 111, 111, 108]⟩, 2), (⟨#[105, 110, 116]⟩, 3), (⟨#[115, 116, 114, 105, 110, 103]⟩, 4), (⟨#[97, 114, 114, 97, 121]⟩, 5), (⟨#[111, 98, 106, 101, 99, 116]⟩, 6)]
theorem typeNo_kinds (s : ByteArray) : (typeKinds s).isEmpty = decide (typeIx typeTab s < 0) := by
  unfold typeKinds typeTab typeIx
  simp only [typeIx, eq_comm (b := s)]
  repeat' split
  all_goals rfl
theorem typeIx_bd (s : ByteArray) : -1 ≤ typeIx typeTab s ∧ typeIx typeTab s ≤ 6 := by
  unfold typeTab
  simp only [typeIx]
  repeat' split
  all_goals omega
set_option maxRecDepth 20000 in
set_option maxHeartbeats 2000000 in
theorem typeNo_c (s : ByteArray) (w : World) : Calls Tryz.prog 60 #[.string s] w fun e w' => e = .returned (.int .i64 (typeIx typeTab s)) ∧ Below w.heap.size w w' := by
  have HB := Lib.hid (show Below w.heap.size w ((w.alloc (.cells #[.string ⟨#[110, 117, 108, 108]⟩, .string ⟨#[98, 111, 111, 108]⟩, .string ⟨#[105, 110, 116]⟩, .string ⟨#[115, 116, 114, 105, 110, 103]⟩, .string ⟨#[97, 114, 114, 97, 121]⟩, .string ⟨#[111, 98, 106, 101, 99, 116]⟩] 9)).alloc (.cells #[.int .i64 0, .int .i64 2, .int .i64 3, .int .i64 4, .int .i64 5, .int .i64 6] 3)) from (by repeat (first | with_reducible exact Below.refl _ _ | with_reducible refine below_drewN ?_ _ | with_reducible refine Below.drew ?_ | with_reducible refine Below.alloc ?_ (by first | (simp; done) | (simp; omega)) _ | with_reducible refine Below.setCell ?_ (by first | (simp; done) | (simp; omega)) _)))
  have HC := Lib.hid (show ∀ k (h : k < typeTab.length), ((w.alloc (.cells #[.string ⟨#[110, 117, 108, 108]⟩, .string ⟨#[98, 111, 111, 108]⟩, .string ⟨#[105, 110, 116]⟩, .string ⟨#[115, 116, 114, 105, 110, 103]⟩, .string ⟨#[97, 114, 114, 97, 121]⟩, .string ⟨#[111, 98, 106, 101, 99, 116]⟩] 9)).alloc (.cells #[.int .i64 0, .int .i64 2, .int .i64 3, .int .i64 4, .int .i64 5, .int .i64 6] 3)).cell? ⟨w.heap.size, k, none⟩ = some (.string (typeTab[k]).1) ∧ ((w.alloc (.cells #[.string ⟨#[110, 117, 108, 108]⟩, .string ⟨#[98, 111, 111, 108]⟩, .string ⟨#[105, 110, 116]⟩, .string ⟨#[115, 116, 114, 105, 110, 103]⟩, .string ⟨#[97, 114, 114, 97, 121]⟩, .string ⟨#[111, 98, 106, 101, 99, 116]⟩] 9)).alloc (.cells #[.int .i64 0, .int .i64 2, .int .i64 3, .int .i64 4, .int .i64 5, .int .i64 6] 3)).cell? ⟨w.heap.size + 1, k, none⟩ = some (.int .i64 (typeTab[k]).2) from fun k h => by
    have h1 := (heap_alloc_old (w.alloc (.cells #[.string ⟨#[110, 117, 108, 108]⟩, .string ⟨#[98, 111, 111, 108]⟩, .string ⟨#[105, 110, 116]⟩, .string ⟨#[115, 116, 114, 105, 110, 103]⟩, .string ⟨#[97, 114, 114, 97, 121]⟩, .string ⟨#[111, 98, 106, 101, 99, 116]⟩] 9)) (.cells #[.int .i64 0, .int .i64 2, .int .i64 3, .int .i64 4, .int .i64 5, .int .i64 6] 3) (show w.heap.size < _ by simp)).trans (heap_alloc_new w _)
    have h2 := heap_alloc_new (w.alloc (.cells #[.string ⟨#[110, 117, 108, 108]⟩, .string ⟨#[98, 111, 111, 108]⟩, .string ⟨#[105, 110, 116]⟩, .string ⟨#[115, 116, 114, 105, 110, 103]⟩, .string ⟨#[97, 114, 114, 97, 121]⟩, .string ⟨#[111, 98, 106, 101, 99, 116]⟩] 9)) (.cells #[.int .i64 0, .int .i64 2, .int .i64 3, .int .i64 4, .int .i64 5, .int .i64 6] 3)
    rw [World.size_alloc] at h2
    have : k = 0 ∨ k = 1 ∨ k = 2 ∨ k = 3 ∨ k = 4 ∨ k = 5 := by simp [typeTab] at h; omega
    rcases this with rfl | rfl | rfl | rfl | rfl | rfl <;> exact ⟨cell_of_row _ _ _ _ _ _ h1, cell_of_row _ _ _ _ _ _ h2⟩)
  go_enter Tryz.func60, Tryz.ntmps60
  go_wp2
  go_loopw [5] (fun i wr => ∃ (k : Nat), k ≤ 6 ∧ i = .int .i64 k ∧ Hid (typeIx typeTab s = typeIx (typeTab.drop k) s) ∧ wr = ((w.alloc (.cells #[.string ⟨#[110, 117, 108, 108]⟩, .string ⟨#[98, 111, 111, 108]⟩, .string ⟨#[105, 110, 116]⟩, .string ⟨#[115, 116, 114, 105, 110, 103]⟩, .string ⟨#[97, 114, 114, 97, 121]⟩, .string ⟨#[111, 98, 106, 101, 99, 116]⟩] 9)).alloc (.cells #[.int .i64 0, .int .i64 2, .int .i64 3, .int .i64 4, .int .i64 5, .int .i64 6] 3))) (fun i _ => 6 - (intOf i).toNat)
  case atStart => exact ⟨0, by omega, rfl, Lib.hid rfl, rfl⟩
  case round =>
    obtain ⟨k, hk, rfl, HQ, hw⟩ := hrel
    obtain rfl := hw.symm
    by_cases hlt : k < 6
    · obtain ⟨c1, c2⟩ := HC.out k hlt
      have hd : typeTab.drop k = typeTab[k]'hlt :: typeTab.drop (k + 1) := List.drop_eq_getElem_cons hlt
      generalize typeTab[k]'hlt = p at *
      obtain ⟨a, n⟩ := p
      simp only at c1 c2
      by_cases ha : a = s
      · have hb := eq_t ha
        have HT := Lib.hid (show typeIx typeTab s = n by rw [HQ.out, hd, typeIx, if_pos ha])
        clear hd HQ ha HC
        go_wp2
        go_ret
        rw [HT.out]
        exact ⟨rfl, HB.out⟩
      · have hb := eq_f ha
        have HT := Lib.hid (show typeIx typeTab s = typeIx (typeTab.drop (k + 1)) s by rw [HQ.out, hd, typeIx, if_neg ha])
        clear hd HQ ha HC
        go_wp2
        go_roundw
        case rel => exact ⟨k + 1, by omega, by go_num, HT, by first | rfl | trivial⟩
        case measure => simp [intOf]; omega
    · obtain rfl : k = 6 := by omega
      have HT := Lib.hid (show typeIx typeTab s = -1 by rw [HQ.out]; rfl)
      clear HQ HC
      go_wp2
      go_ret
      rw [HT.out]
      exact ⟨rfl, HB.out⟩
theorem ItemsAt.at {w : World} {ok : Nat → Prop} {a : Option Addr} {l : List JV} (h : ItemsAt w ok a l) (j : Nat) (hj : j < l.length) : ∃ b off an cn ai ci, a = some ⟨b, off, none⟩ ∧
    Rep w ok l[j] [.int .i64 (l[j]).kind, .int .i64 (l[j]).int, .string (l[j]).text, .slice an (l[j]).names.length cn, .slice ai (l[j]).items.length ci] ∧
    Lie w b (off + j * 5) [.int .i64 (l[j]).kind, .int .i64 (l[j]).int, .string (l[j]).text, .slice an (l[j]).names.length cn, .slice ai (l[j]).items.length ci] := by
  rcases h with rfl | ⟨b, off, rfl, _, hall⟩
  · simp at hj
  · obtain ⟨cs, hr, hl⟩ := hall.at j hj
    obtain ⟨an, cn, ai, ci, rfl⟩ := hr.form
    exact ⟨b, off, an, cn, ai, ci, rfl, hr, hl⟩
theorem all_step {α : Type} (f : α → Bool) {l : List α} {j : Nat} (h : j < l.length) : (l.drop j).all f = (f l[j] && (l.drop (j + 1)).all f) := by
  rw [List.drop_eq_getElem_cons h, List.all_cons]
set_option maxRecDepth 20000 in
set_option maxHeartbeats 4000000 in
theorem types_c (l : List JV) (a : Option Addr) (c : Nat) (hl : l.length ≤ 1099511627776) (w : World) (ok : Nat → Prop) (h : ItemsAt w ok a l) : Calls Tryz.prog 36 #[.slice a l.length c] w fun e w' => e = .returned (.bool (typesOk l)) ∧ Below w.heap.size w w' := by
  have HI := Lib.hid h
  clear h
  go_enter Tryz.func36, Tryz.ntmps36
  go_wp2
  go_loopw [3] (fun i wr => ∃ (j : Nat), j ≤ l.length ∧ i = .int .i64 j ∧ Hid (l.all (fun y => !(kindsJ y).isEmpty) = (l.drop j).all (fun y => !(kindsJ y).isEmpty)) ∧ Below w.heap.size w wr) (fun i _ => l.length - (intOf i).toNat)
  case atStart => exact ⟨0, by omega, rfl, Lib.hid rfl, Below.refl _ _⟩
  case round =>
    obtain ⟨j, hj, rfl, HQ, hbl⟩ := hrel
    by_cases hlt : j < l.length
    · obtain ⟨b, off, an, cn, ai, ci, rfl, hr, hlie⟩ := (HI.out.below hbl).at j hlt
      have hs := all_step (fun y => !(kindsJ y).isEmpty) hlt
      have hne : l.isEmpty = false := by cases l with | nil => simp at hlt | cons x r => rfl
      generalize l[j] = y at *
      obtain ⟨l0, l1, l2, l3, l4⟩ := lie5 hlie
      have HBL := Lib.hid hbl
      by_cases hk : y.kind = 4
      · have hc := typeNo_c y.text wr
        have hkk := typeNo_kinds y.text
        have hbd := typeIx_bd y.text
        have hkj : kindsJ y = typeKinds y.text := if_pos hk
        rw [hkj, hkk] at hs
        rw [hk] at l0
        generalize typeIx typeTab y.text = z at *
        by_cases hz : z < 0
        · have HT := Lib.hid (show typesOk l = false by unfold typesOk; rw [HQ.out, hs]; simp [hz])
          have HC := Lib.hid hc
          clear hs HQ hkj hkk hc hr hlie hbl hk hne
          go_wp2_with (go_at_call 60; refine HC.out.mono ?_; rintro e w1 ⟨rfl, hb1⟩)
          go_ret
          rw [HT.out]
          exact ⟨rfl, HBL.out.trans (hb1.mono HBL.out.size)⟩
        · have HT := Lib.hid (show l.all (fun y => !(kindsJ y).isEmpty) = (l.drop (j + 1)).all (fun y => !(kindsJ y).isEmpty) by rw [HQ.out, hs]; simp [hz])
          have HC := Lib.hid hc
          clear hs HQ hkj hkk hc hr hlie hbl hk hne
          go_wp2_with (go_at_call 60; refine HC.out.mono ?_; rintro e w1 ⟨rfl, hb1⟩)
          have HB1 := Lib.hid (HBL.out.trans (hb1.mono HBL.out.size))
          go_roundw
          case rel => exact ⟨j + 1, by omega, by go_num, HT, HB1.out⟩
          case measure => simp [intOf]; omega
      · have hkj : kindsJ y = [] := if_neg hk
        have HT := Lib.hid (show typesOk l = false by unfold typesOk; rw [HQ.out, hs, hkj]; simp)
        have hk2 : (y.kind != 4) = true := by simp [hk]
        clear hs HQ hkj hr hlie hbl hk hne
        go_wp2
        go_ret
        rw [HT.out]
        exact ⟨rfl, HBL.out⟩
    · obtain rfl : j = l.length := by omega
      have HBL := Lib.hid hbl
      have HT := Lib.hid (show typesOk l = decide (0 < l.length) by
        unfold typesOk
        rw [HQ.out, List.drop_length]
        cases l <;> simp)
      clear HQ hbl HI
      generalize l.length = m at *
      go_wp2
      go_ret
      rw [HT.out]
      exact ⟨ret_bool (by simp), HBL.out⟩
def listOk (x : JV) (least : Int) (texts : Bool) : Bool := (!texts || x.items.all (fun y => decide (y.kind = 4))) && (decide (x.kind = 5) && decide (least ≤ (x.items.length : Int)))
set_option maxRecDepth 20000 in
set_option maxHeartbeats 4000000 in
theorem list_c (x : JV) (cs : List Value) (least : Int) (texts : Bool) (hb : x.bulk ≤ 1099511627776) (w : World) (ok : Nat → Prop) (hr : Rep w ok x cs) : Calls Tryz.prog 37 #[.agg cs.toArray, .int .i64 least, .bool texts] w fun e w' => e = .returned (.bool (listOk x least texts)) ∧ Below w.heap.size w w' := by
  obtain ⟨k, n, s, ns, is⟩ := x
  rw [rep_mk] at hr
  obtain ⟨_, _, _, an, cn, ai, ci, rfl, hcn, hci, _, hit⟩ := hr
  unfold maxLen at hcn hci
  have hisl := JV.len_le is
  have hbb : is.length ≤ 1099511627776 := by
    have h1 : is.length ≤ JV.bulks is := by
      clear hit hisl hci hcn hb
      induction is with
      | nil => simp
      | cons y r ih => cases y; simp only [JV.bulks, JV.bulk, List.length_cons]; omega
    rw [JV.bulk] at hb; omega
  have hb0 : Below w.heap.size w (w.alloc (.cells #[.int .i64 k, .int .i64 n, .string s, .slice an ns.length cn, .slice ai is.length ci] 25)) := (Below.refl _ _).alloc (Nat.le_refl _) _
  obtain ⟨a0, _, _, _, a4⟩ := cells5 w (.int .i64 k) (.int .i64 n) (.string s) (.slice an ns.length cn) (.slice ai is.length ci) 25
  have HI := Lib.hid (hit.below hb0)
  have HB0 := Lib.hid hb0
  have HL := Lib.hid (show listOk (.mk k n s ns is) least texts = ((!texts || is.all (fun y => decide (y.kind = 4))) && (decide (k = 5) && decide (least ≤ (is.length : Int)))) from rfl)
  clear hit hb0 hb hcn hci hisl
  go_enter Tryz.func37, Tryz.ntmps37
  go_wp2
  generalize w.alloc (.cells #[.int .i64 k, .int .i64 n, .string s, .slice an ns.length cn, .slice ai is.length ci] 25) = W1 at *
  go_loopw [7] (fun i wr => ∃ (j : Nat), j ≤ is.length ∧ i = .int .i64 j ∧ Hid (texts = true → is.all (fun y => decide (y.kind = 4)) = (is.drop j).all (fun y => decide (y.kind = 4))) ∧ W1 = wr) (fun i _ => is.length - (intOf i).toNat)
  case atStart => exact ⟨0, by omega, rfl, Lib.hid (fun _ => rfl), rfl⟩
  case round =>
    obtain ⟨j, hj, rfl, HQ, rfl⟩ := hrel
    by_cases hlt : j < is.length
    · cases texts with
      | false =>
        go_wp2
        go_roundw
        case rel => exact ⟨j + 1, by omega, by go_num, Lib.hid (fun h => by cases h), by first | rfl | trivial⟩
        case measure => simp [intOf]; omega
      | true =>
        obtain ⟨b, off, an2, cn2, ai2, ci2, rfl, hr, hlie⟩ := HI.out.at j hlt
        have hs := all_step (fun y : JV => decide (y.kind = 4)) hlt
        generalize is[j] = y at *
        obtain ⟨l0, l1, l2, l3, l4⟩ := lie5 hlie
        by_cases hk : y.kind = 4
        · have HT := Lib.hid (show true = true → is.all (fun y => decide (y.kind = 4)) = (is.drop (j + 1)).all (fun y => decide (y.kind = 4)) from fun h => by rw [HQ.out h, hs]; simp [hk])
          rw [hk] at l0
          clear hs HQ hr hlie hk
          go_wp2
          go_roundw
          case rel => exact ⟨j + 1, by omega, by go_num, Lib.hid (fun _ => HT.out rfl), by first | rfl | trivial⟩
          case measure => simp [intOf]; omega
        · have HT := Lib.hid (show listOk (.mk k n s ns is) least true = false by rw [HL.out, HQ.out rfl, hs]; simp [hk])
          have hk2 : (y.kind != 4) = true := by simp [hk]
          clear hs HQ hr hlie hk
          go_wp2
          go_ret
          rw [HT.out]
          exact ⟨rfl, HB0.out⟩
    · obtain rfl : j = is.length := by omega
      have HT := Lib.hid (show listOk (.mk k n s ns is) least texts = (decide (k = 5) && decide (least ≤ (is.length : Int))) by
        rw [HL.out]
        cases texts with
        | false => simp
        | true => rw [HQ.out rfl, List.drop_length]; simp)
      clear HQ HI HL
      by_cases hk : k = 5
      · subst hk
        go_wp2
        go_ret
        rw [HT.out]
        exact ⟨ret_bool (by simp), HB0.out⟩
      · have hk2 : (k == 5) = false := by simp [hk]
        have hk3 : decide (k = 5) = false := by simp [hk]
        have HK3 := Lib.hid hk3
        clear hk hk3
        go_wp2
        go_ret
        rw [HT.out, HK3.out]
        exact ⟨rfl, HB0.out⟩
end Go.Proofs.YtnmojmmgkipjcaaGreatDoor
namespace Go.Proofs.YtnmojmmgkipjcaaGreatDoor
open Go.RowKit
def RS.err : RS → Nat
  | .bad e => e
  | .ok _ => 0
theorem given_vals (b : Bool) (n : Nat) : given b n = .ok n ∨ given b n = .bad 210 := by unfold given; split <;> simp
mutual
theorem readS_bad : ∀ (t : JV) (d n e : Nat), readS t d n = .bad e → e = 210 ∨ e = 211
  | .mk k i s ns is, d, n, e, h => by
    rw [readS] at h
    split at h
    · split at h
      · injection h with h; exact .inr h.symm
      · exact readRules_bad is ns d n e h
    · injection h with h; exact .inl h.symm
theorem readRules_bad : ∀ (is : List JV) (ns : List ByteArray) (d n e : Nat), readRules is ns d n = .bad e → e = 210 ∨ e = 211
  | x :: is, w :: ns, d, n, e, h => by
    rw [readRules] at h
    split at h
    · injection h with h; exact .inr h.symm
    · split at h
      · rename_i e2 h2
        injection h with h
        rw [← h]
        exact readRule_bad x w d (n + 1) e2 h2
      · exact readRules_bad is ns d _ e h
  | [], _, _, _, _, h => by simp [readRules] at h
  | _ :: _, [], _, _, _, h => by simp [readRules] at h
theorem readRule_bad : ∀ (x : JV) (w : ByteArray) (d n e : Nat), readRule x w d n = .bad e → e = 210 ∨ e = 211
  | .mk k i s ns is, w, d, n, e, h => by
    rw [readRule] at h
    split at h
    · split at h
      · exact readList_bad is (d + 1) n e h
      · injection h with h; exact .inl h.symm
    · split at h
      · split at h
        · exact readList_bad is (d + 1) n e h
        · injection h with h; exact .inl h.symm
      · split at h
        · split at h
          · split at h
            · injection h with h; exact .inr h.symm
            · exact readRules_bad is ns (d + 1) n e h
          · injection h with h; exact .inl h.symm
        · rcases given_vals (leafOk w (.mk k i s ns is)) n with e1 | e1
          · rw [e1] at h; cases h
          · rw [e1] at h; injection h with h; exact .inl h.symm
theorem readList_bad : ∀ (is : List JV) (d n e : Nat), readList is d n = .bad e → e = 210 ∨ e = 211
  | x :: is, d, n, e, h => by
    rw [readList] at h
    split at h
    · rename_i e2 h2
      injection h with h
      rw [← h]
      exact readS_bad x d n e2 h2
    · exact readList_bad is d _ e h
  | [], _, _, _, h => by simp [readList] at h
end
mutual
theorem readS_le : ∀ (t : JV) (d n m : Nat), n ≤ 128 → readS t d n = .ok m → n ≤ m ∧ m ≤ 128
  | .mk k i s ns is, d, n, m, hn, h => by
    rw [readS] at h
    split at h
    · split at h
      · cases h
      · exact readRules_le is ns d n m hn h
    · cases h
theorem readRules_le : ∀ (is : List JV) (ns : List ByteArray) (d n m : Nat), n ≤ 128 → readRules is ns d n = .ok m → n ≤ m ∧ m ≤ 128
  | x :: is, w :: ns, d, n, m, hn, h => by
    rw [readRules] at h
    split at h
    · cases h
    · split at h
      · cases h
      · rename_i m2 h2
        have h1 := readRule_le x w d (n + 1) m2 (by omega) h2
        have h3 := readRules_le is ns d m2 m h1.2 h
        omega
  | [], _, _, n, m, hn, h => by
    rw [readRules] at h
    injection h with h
    omega
  | _ :: _, [], _, n, m, hn, h => by
    rw [readRules] at h
    injection h with h
    omega
theorem readRule_le : ∀ (x : JV) (w : ByteArray) (d n m : Nat), n ≤ 128 → readRule x w d n = .ok m → n ≤ m ∧ m ≤ 128
  | .mk k i s ns is, w, d, n, m, hn, h => by
    rw [readRule] at h
    split at h
    · split at h
      · exact readList_le is (d + 1) n m hn h
      · cases h
    · split at h
      · split at h
        · exact readList_le is (d + 1) n m hn h
        · cases h
      · split at h
        · split at h
          · split at h
            · cases h
            · exact readRules_le is ns (d + 1) n m hn h
          · cases h
        · rcases given_vals (leafOk w (.mk k i s ns is)) n with e1 | e1
          · rw [e1] at h; injection h with h; omega
          · rw [e1] at h; cases h
theorem readList_le : ∀ (is : List JV) (d n m : Nat), n ≤ 128 → readList is d n = .ok m → n ≤ m ∧ m ≤ 128
  | x :: is, d, n, m, hn, h => by
    rw [readList] at h
    split at h
    · cases h
    · rename_i m2 h2
      have h1 := readS_le x d n m2 hn h2
      have h3 := readList_le is d m2 m h1.2 h
      omega
  | [], _, n, m, hn, h => by
    rw [readList] at h
    injection h with h
    omega
end
/-- what a checker, or a reader, holds behind a reading -/
def CntAt (r : RS) (m E : Nat) : Prop := (∃ e, r = .bad e ∧ E = e ∧ (E = 210 ∨ E = 211)) ∨ (r = .ok m ∧ E = 0 ∧ m ≤ 128)
theorem CntAt.of_bad {r : RS} {e m : Nat} (h : r = .bad e) (he : e = 210 ∨ e = 211) : CntAt r m e := .inl ⟨e, h, rfl, he⟩
theorem CntAt.of_ok {r : RS} {m : Nat} (h : r = .ok m) (hm : m ≤ 128) : CntAt r m 0 := .inr ⟨h, rfl, hm⟩
/-- the checker's struct -/
def ChkAt (w : World) (C m E : Nat) : Prop := w.heap[C]? = some (.cells #[.int .i64 (m : Int), .int .i64 (E : Int)] 55 (0, 0))
theorem ChkAt.cells {w : World} {C m E : Nat} (h : ChkAt w C m E) : (w.cell? ⟨C, 0, none⟩ = some (.int .i64 (m : Int)) ∧ w.cell? ⟨C, 1, none⟩ = some (.int .i64 (E : Int))) ∧ (w.frozen? ⟨C, 0, none⟩ = false ∧ w.frozen? ⟨C, 1, none⟩ = false) ∧ C < w.heap.size :=
  ⟨⟨cell_of_row _ _ _ _ _ _ h, cell_of_row _ _ _ _ _ _ h⟩, ⟨frozen_of_row _ _ _ _ _ h, frozen_of_row _ _ _ _ _ h⟩, (Array.getElem?_eq_some_iff.1 h).1⟩
theorem ChkAt.below {w w' : World} {C m E : Nat} (h : ChkAt w C m E) (hb : Below w.heap.size w w') : ChkAt w' C m E := (hb.block C h.cells.2.2).trans h
theorem ChkAt.setE {w : World} {C m E : Nat} (h : ChkAt w C m E) (e : Nat) : ChkAt (w.setCell ⟨C, 1, none⟩ (.int .i64 (e : Int))) C m e := heap_setCell_same w C 1 _ _ _ h
theorem ChkAt.setN {w : World} {C m E : Nat} (h : ChkAt w C m E) (n : Nat) : ChkAt (w.setCell ⟨C, 0, none⟩ (.int .i64 (n : Int))) C n E := heap_setCell_same w C 0 _ _ _ h
def DPost (w : World) (C : Nat) (r : RS) (e : Ending) (w' : World) : Prop := e = .returned (.tuple #[]) ∧ ∃ m E, Hid (ChkAt w' C m E) ∧ Hid (CntAt r m E) ∧ Hid (Upd w w' (some C) (some C)) ∧ m ≤ 128
end Go.Proofs.YtnmojmmgkipjcaaGreatDoor
namespace Go.Proofs.YtnmojmmgkipjcaaGreatDoor
open Go.RowKit
/-- a struct of a value, in a block of its own -/
def BoxAt (w : World) (ok : Nat → Prop) (X : Nat) (x : JV) : Prop := ok X ∧ ∃ cs : List Value, w.heap[X]? = some (.cells cs.toArray 25 (0, 0)) ∧ Rep w ok x cs
theorem BoxAt.kept {w w' : World} {ok ok' : Nat → Prop} {X : Nat} {x : JV} (h : BoxAt w ok X x) (hk : ∀ b, b < w.heap.size → ok b → ok' b ∧ w'.heap[b]? = w.heap[b]?) : BoxAt w' ok' X x := by
  obtain ⟨h1, cs, h2, h3⟩ := h
  obtain ⟨k1, k2⟩ := hk X (Array.getElem?_eq_some_iff.1 h2).1 h1
  exact ⟨k1, cs, k2.trans h2, Rep.kept hk x cs h3⟩
/-- one cell, in a block of its own -/
def CellAt (w : World) (ok : Nat → Prop) (X : Nat) (v : Value) (T : TypeId) : Prop := ok X ∧ w.heap[X]? = some (.cells #[v] T (0, 0))
theorem CellAt.kept {w w' : World} {ok ok' : Nat → Prop} {X : Nat} {v : Value} {T : TypeId} (h : CellAt w ok X v T) (hk : ∀ b, b < w.heap.size → ok b → ok' b ∧ w'.heap[b]? = w.heap[b]?) : CellAt w' ok' X v T := by
  obtain ⟨h1, h2⟩ := h
  obtain ⟨k1, k2⟩ := hk X (Array.getElem?_eq_some_iff.1 h2).1 h1
  exact ⟨k1, k2.trans h2⟩
/-- a slice of numbers -/
def IntsL (w : World) (ok : Nat → Prop) (a : Option Addr) (l : List Int) : Prop := l = [] ∨ ∃ b off, a = some ⟨b, off, none⟩ ∧ ok b ∧ Lie w b off (l.map (Value.int .i64))
theorem IntsL.kept {w w' : World} {ok ok' : Nat → Prop} {a : Option Addr} {l : List Int} (h : IntsL w ok a l) (hk : ∀ b, b < w.heap.size → ok b → ok' b ∧ w'.heap[b]? = w.heap[b]?) : IntsL w' ok' a l := by
  rcases h with rfl | ⟨b, off, rfl, hb, hl⟩
  · exact .inl rfl
  · cases l with
    | nil => exact .inl rfl
    | cons x r =>
      have hlt : b < w.heap.size := cell_lt (hl 0 (.int .i64 x) rfl)
      exact .inr ⟨b, off, rfl, (hk b hlt hb).1, hl.kept (hk b hlt hb).2⟩
abbrev keepsV (f : Nat) (caps : Array Value) : Value := .iface 103 (.func (.func f) #[] caps)
/-- which function says how large: of its place -/
def sizedFn (n : ByteArray) : Nat := if n = ⟨#[109, 105, 110, 73, 116, 101, 109, 115]⟩ then 47 else if n = ⟨#[109, 97, 120, 73, 116, 101, 109, 115]⟩ then 48 else if n = ⟨#[109, 105, 110, 76, 101, 110, 103, 116, 104]⟩ then 49 else 51
def sizedMost (n : ByteArray) : Bool := decide (n = ⟨#[109, 97, 120, 73, 116, 101, 109, 115]⟩) || decide (n = ⟨#[109, 97, 120, 76, 101, 110, 103, 116, 104]⟩)
def rangedFn (n : ByteArray) : Nat := if n = ⟨#[109, 105, 110, 105, 109, 117, 109]⟩ then 53 else if n = ⟨#[109, 97, 120, 105, 109, 117, 109]⟩ then 54 else 55
/-- a rule that leads to no schema -/
def LeafAt (w : World) (ok : Nat → Prop) (n : ByteArray) (x kn : JV) (rv : Value) : Prop :=
  if n = ⟨#[116, 121, 112, 101]⟩ then ∃ X a c, rv = keepsV 63 #[.pointer (some ⟨X, 0, none⟩)] ∧ CellAt w ok X (.slice a ((typeL x).flatMap kindsJ).length c) 101 ∧ IntsL w ok a ((typeL x).flatMap kindsJ)
  else if n = ⟨#[101, 110, 117, 109]⟩ then ∃ X, rv = keepsV 65 #[.pointer (some ⟨X, 0, none⟩)] ∧ BoxAt w ok X x
  else if n = ⟨#[114, 101, 113, 117, 105, 114, 101, 100]⟩ then ∃ X, rv = keepsV 69 #[.pointer (some ⟨X, 0, none⟩)] ∧ BoxAt w ok X x
  else if n = ⟨#[97, 100, 100, 105, 116, 105, 111, 110, 97, 108]⟩ then ∃ X K, rv = keepsV 73 #[.pointer (some ⟨X, 0, none⟩), .pointer (some ⟨K, 0, none⟩)] ∧ BoxAt w ok X x ∧ BoxAt w ok K kn
  else if n = ⟨#[109, 105, 110, 73, 116, 101, 109, 115]⟩ ∨ n = ⟨#[109, 97, 120, 73, 116, 101, 109, 115]⟩ ∨ n = ⟨#[109, 105, 110, 76, 101, 110, 103, 116, 104]⟩ ∨ n = ⟨#[109, 97, 120, 76, 101, 110, 103, 116, 104]⟩ then ∃ X M, rv = .iface 115 (.agg #[.func (.func (sizedFn n)) #[] #[], .func (.func 75) #[] #[.pointer (some ⟨X, 0, none⟩), .pointer (some ⟨M, 0, none⟩)]]) ∧ BoxAt w ok X x ∧ CellAt w ok M (.bool (sizedMost n)) 4
  else ∃ X O, rv = .iface 119 (.agg #[.func (.func 77) #[] #[], .func (.func 78) #[] #[.pointer (some ⟨O, 0, none⟩), .pointer (some ⟨X, 0, none⟩)]]) ∧ BoxAt w ok X x ∧ CellAt w ok O (.func (.func (rangedFn n)) #[] #[]) 94
theorem LeafAt.kept {w w' : World} {ok ok' : Nat → Prop} {n : ByteArray} {x kn : JV} {rv : Value} (h : LeafAt w ok n x kn rv) (hk : ∀ b, b < w.heap.size → ok b → ok' b ∧ w'.heap[b]? = w.heap[b]?) : LeafAt w' ok' n x kn rv := by
  unfold LeafAt at h ⊢
  split
  · rename_i hn
    rw [if_pos hn] at h
    obtain ⟨X, a, c, h1, h2, h3⟩ := h
    exact ⟨X, a, c, h1, h2.kept hk, h3.kept hk⟩
  · rename_i hn
    rw [if_neg hn] at h
    split
    · rename_i hn2
      rw [if_pos hn2] at h
      obtain ⟨X, h1, h2⟩ := h
      exact ⟨X, h1, h2.kept hk⟩
    · rename_i hn2
      rw [if_neg hn2] at h
      split
      · rename_i hn3
        rw [if_pos hn3] at h
        obtain ⟨X, h1, h2⟩ := h
        exact ⟨X, h1, h2.kept hk⟩
      · rename_i hn3
        rw [if_neg hn3] at h
        split
        · rename_i hn4
          rw [if_pos hn4] at h
          obtain ⟨X, K, h1, h2, h3⟩ := h
          exact ⟨X, K, h1, h2.kept hk, h3.kept hk⟩
        · rename_i hn4
          rw [if_neg hn4] at h
          split
          · rename_i hn5
            rw [if_pos hn5] at h
            obtain ⟨X, M, h1, h2, h3⟩ := h
            exact ⟨X, M, h1, h2.kept hk, h3.kept hk⟩
          · rename_i hn5
            rw [if_neg hn5] at h
            obtain ⟨X, O, h1, h2, h3⟩ := h
            exact ⟨X, O, h1, h2.kept hk, h3.kept hk⟩
/-- the schema's struct: its rules' slice and their number -/
def SchHead (w : World) (ok : Nat → Prop) (v : Value) (len : Nat) (RA : Nat → Prop) : Prop :=
  ∃ (p : Nat) (a : Option Addr) (c n : Nat), v = .pointer (some ⟨p, 0, none⟩) ∧ ok p ∧ w.heap[p]? = some (.cells #[.slice a len c, .int .i64 (n : Int)] 66 (0, 0)) ∧ len ≤ c ∧ c ≤ maxLen ∧ (len = 0 ∨ ∃ b, a = some ⟨b, 0, none⟩ ∧ ok b ∧ b < w.heap.size ∧ RA b)
mutual
/-- the schema of a tree lies where a pointer leads -/
def SchAt (w : World) (ok : Nat → Prop) : JV → Value → Prop
  | .mk _ _ _ ns is, v => SchHead w ok v is.length (fun b => RulesAt w ok is ns (knownJ ns is) b 0)
/-- rules, one behind the other: a word and an interface value each -/
def RulesAt (w : World) (ok : Nat → Prop) : List JV → List ByteArray → JV → Nat → Nat → Prop
  | x :: is, n :: ns, kn, b, off => (∃ rv, Lie w b off [.string n, rv] ∧ RuleAt w ok x n kn rv) ∧ RulesAt w ok is ns kn b (off + 2)
  | [], _, _, _, _ => True
  | _ :: _, [], _, _, _ => False
def RuleAt (w : World) (ok : Nat → Prop) : JV → ByteArray → JV → Value → Prop
  | .mk k i s ns is, n, kn, rv =>
    if n = ⟨#[112, 114, 111, 112, 101, 114, 116, 105, 101, 115]⟩ then ∃ an cn ao co, rv = .iface 108 (.agg #[.slice an ns.length cn, .slice ao is.length co]) ∧ ns.length ≤ cn ∧ cn ≤ maxLen ∧ is.length ≤ co ∧ co ≤ maxLen ∧ StrsAt w ok an ns ∧ (is.length = 0 ∨ ∃ b, ao = some ⟨b, 0, none⟩ ∧ ok b ∧ b < w.heap.size ∧ PtrsAt w ok is b 0)
    else if n = ⟨#[97, 110, 121, 79, 102]⟩ ∨ n = ⟨#[97, 108, 108, 79, 102]⟩ then ∃ X ao co, rv = keepsV (if n = ⟨#[97, 110, 121, 79, 102]⟩ then 80 else 82) #[.pointer (some ⟨X, 0, none⟩)] ∧ CellAt w ok X (.slice ao is.length co) 106 ∧ is.length ≤ co ∧ co ≤ maxLen ∧ (is.length = 0 ∨ ∃ b, ao = some ⟨b, 0, none⟩ ∧ ok b ∧ b < w.heap.size ∧ PtrsAt w ok is b 0)
    else if n = ⟨#[105, 116, 101, 109, 115]⟩ then ∃ q, rv = .iface 112 (.agg #[q]) ∧ SchHead w ok q is.length (fun b => RulesAt w ok is ns (knownJ ns is) b 0)
    else if n = ⟨#[110, 111, 116]⟩ then ∃ X q, rv = keepsV 83 #[.pointer (some ⟨X, 0, none⟩)] ∧ CellAt w ok X q 39 ∧ SchHead w ok q is.length (fun b => RulesAt w ok is ns (knownJ ns is) b 0)
    else LeafAt w ok n (.mk k i s ns is) kn rv
/-- pointers to schemas, one behind the other -/
def PtrsAt (w : World) (ok : Nat → Prop) : List JV → Nat → Nat → Prop
  | x :: is, b, off => (∃ q, w.cell? ⟨b, off, none⟩ = some q ∧ SchAt w ok x q) ∧ PtrsAt w ok is b (off + 1)
  | [], _, _ => True
end
theorem lt_same {w w' : World} {b : Nat} (hb : b < w.heap.size) (h : w'.heap[b]? = w.heap[b]?) : b < w'.heap.size := by
  rw [Array.getElem?_eq_getElem hb] at h
  exact (Array.getElem?_eq_some_iff.1 h).1
theorem SchHead.kept {w w' : World} {ok ok' : Nat → Prop} {v : Value} {len : Nat} {RA RA' : Nat → Prop} (h : SchHead w ok v len RA) (hk : ∀ b, b < w.heap.size → ok b → ok' b ∧ w'.heap[b]? = w.heap[b]?) (hra : ∀ b, w'.heap[b]? = w.heap[b]? → RA b → RA' b) : SchHead w' ok' v len RA' := by
  obtain ⟨p, a, c, n, h1, h2, h3, h4, h5, h6⟩ := h
  obtain ⟨k1, k2⟩ := hk p (Array.getElem?_eq_some_iff.1 h3).1 h2
  refine ⟨p, a, c, n, h1, k1, k2.trans h3, h4, h5, ?_⟩
  rcases h6 with h6 | ⟨b, e, h7, h8, h9⟩
  · exact .inl h6
  · obtain ⟨m1, m2⟩ := hk b h8 h7
    exact .inr ⟨b, e, m1, lt_same h8 m2, hra b m2 h9⟩
mutual
theorem SchAt.kept {w w' : World} {ok ok' : Nat → Prop} (hk : ∀ b, b < w.heap.size → ok b → ok' b ∧ w'.heap[b]? = w.heap[b]?) : ∀ (t : JV) (v : Value), SchAt w ok t v → SchAt w' ok' t v
  | .mk _ _ _ ns is, v, h => by
    rw [SchAt] at h ⊢
    exact h.kept hk (fun b hb hr => RulesAt.kept hk is ns _ b 0 hb hr)
theorem RulesAt.kept {w w' : World} {ok ok' : Nat → Prop} (hk : ∀ b, b < w.heap.size → ok b → ok' b ∧ w'.heap[b]? = w.heap[b]?) : ∀ (is : List JV) (ns : List ByteArray) (kn : JV) (b off : Nat), w'.heap[b]? = w.heap[b]? → RulesAt w ok is ns kn b off → RulesAt w' ok' is ns kn b off
  | x :: is, n :: ns, kn, b, off, hb, h => by
    rw [RulesAt] at h ⊢
    obtain ⟨⟨rv, h1, h2⟩, h3⟩ := h
    exact ⟨⟨rv, h1.kept hb, RuleAt.kept hk x n kn rv h2⟩, RulesAt.kept hk is ns kn b (off + 2) hb h3⟩
  | [], _, _, _, _, _, _ => by rw [RulesAt]; trivial
  | _ :: _, [], _, _, _, _, h => by rw [RulesAt] at h; exact h.elim
theorem RuleAt.kept {w w' : World} {ok ok' : Nat → Prop} (hk : ∀ b, b < w.heap.size → ok b → ok' b ∧ w'.heap[b]? = w.heap[b]?) : ∀ (x : JV) (n : ByteArray) (kn : JV) (rv : Value), RuleAt w ok x n kn rv → RuleAt w' ok' x n kn rv
  | .mk k i s ns is, n, kn, rv, h => by
    rw [RuleAt] at h ⊢
    split
    · rename_i hn
      rw [if_pos hn] at h
      obtain ⟨an, cn, ao, co, h1, h2, h3, h4, h5, h6, h7⟩ := h
      refine ⟨an, cn, ao, co, h1, h2, h3, h4, h5, h6.kept hk, ?_⟩
      rcases h7 with h7 | ⟨b, e, h8, h9, h10⟩
      · exact .inl h7
      · obtain ⟨m1, m2⟩ := hk b h9 h8
        exact .inr ⟨b, e, m1, lt_same h9 m2, PtrsAt.kept hk is b 0 m2 h10⟩
    · rename_i hn
      rw [if_neg hn] at h
      split
      · rename_i hn2
        rw [if_pos hn2] at h
        obtain ⟨X, ao, co, h1, h2, h4, h5, h7⟩ := h
        refine ⟨X, ao, co, h1, h2.kept hk, h4, h5, ?_⟩
        rcases h7 with h7 | ⟨b, e, h8, h9, h10⟩
        · exact .inl h7
        · obtain ⟨m1, m2⟩ := hk b h9 h8
          exact .inr ⟨b, e, m1, lt_same h9 m2, PtrsAt.kept hk is b 0 m2 h10⟩
      · rename_i hn2
        rw [if_neg hn2] at h
        split
        · rename_i hn3
          rw [if_pos hn3] at h
          obtain ⟨q, h1, h2⟩ := h
          exact ⟨q, h1, h2.kept hk (fun b hb hr => RulesAt.kept hk is ns _ b 0 hb hr)⟩
        · rename_i hn3
          rw [if_neg hn3] at h
          split
          · rename_i hn4
            rw [if_pos hn4] at h
            obtain ⟨X, q, h1, h2, h3⟩ := h
            exact ⟨X, q, h1, h2.kept hk, h3.kept hk (fun b hb hr => RulesAt.kept hk is ns _ b 0 hb hr)⟩
          · rename_i hn4
            rw [if_neg hn4] at h
            exact h.kept hk
theorem PtrsAt.kept {w w' : World} {ok ok' : Nat → Prop} (hk : ∀ b, b < w.heap.size → ok b → ok' b ∧ w'.heap[b]? = w.heap[b]?) : ∀ (is : List JV) (b off : Nat), w'.heap[b]? = w.heap[b]? → PtrsAt w ok is b off → PtrsAt w' ok' is b off
  | x :: is, b, off, hb, h => by
    rw [PtrsAt] at h ⊢
    obtain ⟨⟨q, h1, h2⟩, h3⟩ := h
    exact ⟨⟨q, by rw [World.cell?_of_block (w := w) hb]; exact h1, SchAt.kept hk x q h2⟩, PtrsAt.kept hk is b (off + 1) hb h3⟩
  | [], _, _, _, _ => by rw [PtrsAt]; trivial
end
end Go.Proofs.YtnmojmmgkipjcaaGreatDoor
namespace Go.Proofs.YtnmojmmgkipjcaaGreatDoor
open Go.RowKit
/-- what a reader of schemas gives up with -/
def refV (e : Nat) : Ending := .panicked [{ v := .iface 58 (.agg #[.int .i64 (e : Int)]), recovered := false }]
set_option maxHeartbeats 1000000 in
theorem refuse_c (e : Nat) (w : World) : Calls Tryz.prog 31 #[.int .i64 (e : Int)] w fun r w' => r = refV e ∧ w = w' := by
  go_enter Tryz.func31, Tryz.ntmps31
  go_wp2
  exact ⟨rfl, rfl, rfl⟩
set_option maxHeartbeats 1000000 in
theorem need_t (w : World) : Calls Tryz.prog 30 #[.bool true] w fun r w' => r = .returned (.tuple #[]) ∧ w = w' := by
  go_enter Tryz.func30, Tryz.ntmps30
  go_wp2
  go_end0
  exact ⟨rfl, rfl⟩
set_option maxHeartbeats 1000000 in
theorem need_f (w : World) : Calls Tryz.prog 30 #[.bool false] w fun r w' => r = refV 210 ∧ w = w' := by
  go_enter Tryz.func30, Tryz.ntmps30
  go_wp2_with fail
  refine (refuse_c 210 _).mono ?_; rintro r w' ⟨rfl, rfl⟩
  unfold refV
  go_wp2
  exact ⟨rfl, rfl, rfl⟩
end Go.Proofs.YtnmojmmgkipjcaaGreatDoor
