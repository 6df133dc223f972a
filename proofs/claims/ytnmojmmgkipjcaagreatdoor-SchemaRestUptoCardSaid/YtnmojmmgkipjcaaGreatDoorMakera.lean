/- The map of makers. Conditions: none. -/
import Derived.Test.YtnmojmmgkipjcaaGreatDoorPlaina
import Derived.StringKeys
import Derived.Maps.Own
import Derived.Maps.OwnSet
import Derived.WalkSpells
import Derived.Carry
namespace Go.Proofs.YtnmojmmgkipjcaaGreatDoor
open Go.RowKit Go.WideMaps Go.Maps
theorem mapLaw : Keyed Tryz.prog 9 := string_keyed Tryz.underlying9
/-- any value, as it stands -/
def heldV (v : Value) : Option (DataW Value × List MemPlace) := some (.held v, [])
def lookE : List (ByteArray × Value) → ByteArray → Option Value
  | [], _ => none
  | (a, v) :: r, s => if s = a then some v else lookE r s
/-- block B is a map that holds these -/
def MkAt (w : World) (B : Nat) (E : List (ByteArray × Value)) : Prop :=
  ∃ n D, w.ownsMap Tryz.prog 9 heldV B n D ∧ n ≤ E.length ∧ ∀ s : ByteArray, has D (.string s.data.toList) = (lookE E s).isSome ∧ ∀ v, lookE E s = some v → ∀ z, D.atKey (.string s.data.toList) z = .held v
theorem mk_new (w : World) : MkAt (w.alloc (.map #[] 0)) w.heap.size [] :=
  ⟨0, .map [], World.ownsMap_made _ _ _ _, Nat.le_refl _, fun s => ⟨rfl, fun v h => by cases h⟩⟩
theorem MkAt.lt {w : World} {B : Nat} {E : List (ByteArray × Value)} (h : MkAt w B E) : B < w.heap.size := by
  obtain ⟨n, D, h, _⟩ := h; exact h.lt
theorem MkAt.kept {w w' : World} {B : Nat} {E : List (ByteArray × Value)} {r r' : Option Nat} (h : MkAt w B E) (hu : Upd w w' r r') (hne : r ≠ some B) : MkAt w' B E := by
  obtain ⟨n, D, h, h1⟩ := h
  exact ⟨n, D, h.kept hu.grown (fun e => hne e.symm), h1⟩
theorem MkAt.below {w w' : World} {B : Nat} {E : List (ByteArray × Value)} (h : MkAt w B E) (hb : Below w.heap.size w w') : MkAt w' B E :=
  h.kept (Upd.of_below hb none) (by simp)
set_option maxRecDepth 100000 in
theorem MkAt.put {w : World} {B : Nat} {E : List (ByteArray × Value)} (h : MkAt w B E) (s : ByteArray) (hs : s.size ≤ maxLen) (v : Value) (hE : E.length < 1000) :
    ∃ w', (Instr.mapUpdate 80 (.map (some B)) (.string s) v).run Tryz.prog w = .ok () w' ∧ MkAt w' B ((s, v) :: E) ∧ Upd w w' (some B) (some B) := by
  obtain ⟨n, D, hown, h1, h2⟩ := h
  obtain ⟨w', hrun, r1, r2⟩ := hown.update mapLaw Tryz.underlying80 (by unfold maxLen; omega) (val := v) (keyOf_string_mk Tryz.underlying9 hs) rfl
  refine ⟨w', hrun, ⟨n + 1, _, r1, by simp; omega, fun u => ?_⟩, ⟨r2, .inl rfl⟩⟩
  rw [lookE]
  by_cases hsu : u = s
  · subst hsu
    rw [if_pos rfl]
    refine ⟨has_put_same hown.isMap (by simp [WideAt.IsKeyLit]) _, fun x hx z => ?_⟩
    injection hx with hx
    rw [atKey_put_same hown.isMap (by simp [WideAt.IsKeyLit]) _ _, hx]
  · rw [if_neg hsu]
    have hne : (Lit.string u.data.toList) ≠ Lit.string s.data.toList := fun e => by injection e with e; exact hsu (ByteArray.ext (Array.ext' e))
    obtain ⟨h3, h4⟩ := h2 u
    refine ⟨by rw [has_put_other hne]; exact h3, fun x hx z => ?_⟩
    rw [atKey_put_other hne]
    exact h4 x hx z
/-- one word more, in the walk -/
theorem wpList_mk {w : World} {ops : Array Oper} {rest : List Oper} {o : Oper} {a : Act} {Q : Exit → Act → World → Prop} {B : Nat} {E : List (ByteArray × Value)}
    (hg : o.guard = none) (m x v : Operand) (hop : o.op = Op.insert 80 m x v) (hm : a.eval m = .map (some B)) (h : MkAt w B E) (s : ByteArray) (u : Value) (hx : a.eval x = .string s) (hs : s.size ≤ maxLen) (hv : a.eval v = u) (hE : E.length < 1000)
    (hK : ∀ w', MkAt w' B ((s, u) :: E) → Upd w w' (some B) (some B) → wpList Tryz.prog ops Q rest (a.put o.dst undef) w') :
    wpList Tryz.prog ops Q (o :: rest) a w := by
  refine wpList_plain hg fun K' hK' => ?_
  obtain ⟨w', hrun, r1, r2⟩ := h.put s hs u hE
  unfold Oper.wp
  simp [execOp, hop, hm, hx, hv, hrun, Result.andThen]
  exact hK' _ _ (hK w' r1 r2)
/-- asked: 'v, ok := m[k]' -/
theorem MkAt.look {w : World} {B : Nat} {E : List (ByteArray × Value)} (h : MkAt w B E) (s : ByteArray) (hs : s.size ≤ maxLen) :
    ∃ v, (Instr.lookup 80 (.map (some B)) (.string s) true).run Tryz.prog w = .ok (.tuple #[v, .bool (lookE E s).isSome]) w ∧ ∀ u, lookE E s = some u → v = u := by
  obtain ⟨n, D, hown, _, h2⟩ := h
  obtain ⟨v, ps, hrun, hv⟩ := hown.look_ok mapLaw Tryz.underlying80 (z := .nilFunc) (by kernel_rfl) (zd := .held .nilFunc) (zp := []) rfl (keyOf_string_mk Tryz.underlying9 hs)
  obtain ⟨h3, h4⟩ := h2 s
  rw [h3] at hrun
  refine ⟨v, hrun, fun u hu => ?_⟩
  rw [h4 u hu] at hv
  unfold heldV at hv
  simp only [Option.some.injEq, Prod.mk.injEq, DataW.held.injEq] at hv
  exact hv.1
end Go.Proofs.YtnmojmmgkipjcaaGreatDoor
namespace Go.Proofs.YtnmojmmgkipjcaaGreatDoor
open Go.RowKit
def SizedV (w : World) (base : Nat) (f : Nat) (most : Bool) (v : Value) : Prop :=
  ∃ b c, v = .func (.func 74) #[] #[.pointer (some ⟨b, 0, none⟩), .pointer (some ⟨c, 0, none⟩)] ∧ base ≤ b ∧ base ≤ c ∧ w.heap[b]? = some (.cells #[.func (.func f) #[] #[]] 91 (0, 0)) ∧ w.heap[c]? = some (.cells #[.bool most] 4 (0, 0))
def RangedV (w : World) (base : Nat) (f : Nat) (least : Int) (v : Value) : Prop :=
  ∃ b c, v = .func (.func 76) #[] #[.pointer (some ⟨b, 0, none⟩), .pointer (some ⟨c, 0, none⟩)] ∧ base ≤ b ∧ base ≤ c ∧ w.heap[b]? = some (.cells #[.int .i64 least] 2 (0, 0)) ∧ w.heap[c]? = some (.cells #[.func (.func f) #[] #[]] 94 (0, 0))
theorem SizedV.kept {w w' : World} {base f : Nat} {most : Bool} {v : Value} (h : SizedV w base f most v) {r r' : Option Nat} (hu : Upd w w' r r') (hr : ∀ g, r = some g → g < base) : SizedV w' base f most v := by
  obtain ⟨b, c, e, h1, h2, h3, h4⟩ := h
  exact ⟨b, c, e, h1, h2, (hu.block (Array.getElem?_eq_some_iff.1 h3).1 (fun e => by have := hr b e; omega)).trans h3, (hu.block (Array.getElem?_eq_some_iff.1 h4).1 (fun e => by have := hr c e; omega)).trans h4⟩
theorem RangedV.kept {w w' : World} {base f : Nat} {least : Int} {v : Value} (h : RangedV w base f least v) {r r' : Option Nat} (hu : Upd w w' r r') (hr : ∀ g, r = some g → g < base) : RangedV w' base f least v := by
  obtain ⟨b, c, e, h1, h2, h3, h4⟩ := h
  exact ⟨b, c, e, h1, h2, (hu.block (Array.getElem?_eq_some_iff.1 h3).1 (fun e => by have := hr b e; omega)).trans h3, (hu.block (Array.getElem?_eq_some_iff.1 h4).1 (fun e => by have := hr c e; omega)).trans h4⟩
set_option maxHeartbeats 1000000 in
theorem sized_c (f : Nat) (most : Bool) (w : World) : Calls Tryz.prog 46 #[.func (.func f) #[] #[], .bool most] w fun e w' => ∃ v, e = .returned v ∧ SizedV w' w.heap.size f most v ∧ Below w.heap.size w w' := by
  go_enter Tryz.func46, Tryz.ntmps46
  go_wp2
  go_ret
  have h2 := heap_alloc_new (w.alloc (.cells #[.func (.func f) #[] #[]] 91)) (.cells #[.bool most] 4)
  rw [World.size_alloc] at h2
  exact ⟨_, rfl, ⟨_, _, rfl, Nat.le_refl _, by omega, (heap_alloc_old _ _ (by simp)).trans (heap_alloc_new w _), h2⟩, (by repeat (first | with_reducible exact Below.refl _ _ | with_reducible refine below_drewN ?_ _ | with_reducible refine Below.drew ?_ | with_reducible refine Below.alloc ?_ (by first | (simp; done) | (simp; omega)) _ | with_reducible refine Below.setCell ?_ (by first | (simp; done) | (simp; omega)) _))⟩
set_option maxHeartbeats 1000000 in
theorem ranged_c (f : Nat) (least : Int) (w : World) : Calls Tryz.prog 52 #[.func (.func f) #[] #[], .int .i64 least] w fun e w' => ∃ v, e = .returned v ∧ RangedV w' w.heap.size f least v ∧ Below w.heap.size w w' := by
  go_enter Tryz.func52, Tryz.ntmps52
  go_wp2
  go_ret
  have h2 := heap_alloc_new (w.alloc (.cells #[.func (.func f) #[] #[]] 94)) (.cells #[.int .i64 least] 2)
  rw [World.size_alloc] at h2
  exact ⟨_, rfl, ⟨_, _, rfl, by omega, Nat.le_refl _, h2, (heap_alloc_old _ _ (by simp)).trans (heap_alloc_new w _)⟩, (by repeat (first | with_reducible exact Below.refl _ _ | with_reducible refine below_drewN ?_ _ | with_reducible refine Below.drew ?_ | with_reducible refine Below.alloc ?_ (by first | (simp; done) | (simp; omega)) _ | with_reducible refine Below.setCell ?_ (by first | (simp; done) | (simp; omega)) _))⟩
/-- what makes a word's rule -/
inductive MakerV (w : World) (base : Nat) : ByteArray → Value → Prop where
  | w_type : MakerV w base ⟨#[116, 121, 112, 101]⟩ (.func (.func 40) #[] #[])
  | w_enum : MakerV w base ⟨#[101, 110, 117, 109]⟩ (.func (.func 41) #[] #[])
  | w_required : MakerV w base ⟨#[114, 101, 113, 117, 105, 114, 101, 100]⟩ (.func (.func 42) #[] #[])
  | w_properties : MakerV w base ⟨#[112, 114, 111, 112, 101, 114, 116, 105, 101, 115]⟩ (.func (.func 43) #[] #[])
  | w_additional : MakerV w base ⟨#[97, 100, 100, 105, 116, 105, 111, 110, 97, 108]⟩ (.func (.func 44) #[] #[])
  | w_items : MakerV w base ⟨#[105, 116, 101, 109, 115]⟩ (.func (.func 45) #[] #[])
  | w_minItems (v : Value) (h : SizedV w base 47 false v) : MakerV w base ⟨#[109, 105, 110, 73, 116, 101, 109, 115]⟩ v
  | w_maxItems (v : Value) (h : SizedV w base 48 true v) : MakerV w base ⟨#[109, 97, 120, 73, 116, 101, 109, 115]⟩ v
  | w_minLength (v : Value) (h : SizedV w base 49 false v) : MakerV w base ⟨#[109, 105, 110, 76, 101, 110, 103, 116, 104]⟩ v
  | w_maxLength (v : Value) (h : SizedV w base 51 true v) : MakerV w base ⟨#[109, 97, 120, 76, 101, 110, 103, 116, 104]⟩ v
  | w_minimum (v : Value) (h : RangedV w base 53 (-9223372036854775808) v) : MakerV w base ⟨#[109, 105, 110, 105, 109, 117, 109]⟩ v
  | w_maximum (v : Value) (h : RangedV w base 54 (-9223372036854775808) v) : MakerV w base ⟨#[109, 97, 120, 105, 109, 117, 109]⟩ v
  | w_divisible (v : Value) (h : RangedV w base 55 1 v) : MakerV w base ⟨#[100, 105, 118, 105, 115, 105, 98, 108, 101]⟩ v
  | w_anyOf : MakerV w base ⟨#[97, 110, 121, 79, 102]⟩ (.func (.func 56) #[] #[])
  | w_allOf : MakerV w base ⟨#[97, 108, 108, 79, 102]⟩ (.func (.func 57) #[] #[])
  | w_not : MakerV w base ⟨#[110, 111, 116]⟩ (.func (.func 58) #[] #[])
theorem MakerV.kept {w w' : World} {base : Nat} {s : ByteArray} {v : Value} (h : MakerV w base s v) {r r' : Option Nat} (hu : Upd w w' r r') (hr : ∀ g, r = some g → g < base) : MakerV w' base s v := by
  cases h with
  | w_type => exact .w_type
  | w_enum => exact .w_enum
  | w_required => exact .w_required
  | w_properties => exact .w_properties
  | w_additional => exact .w_additional
  | w_items => exact .w_items
  | w_minItems _ h => exact .w_minItems _ (h.kept hu hr)
  | w_maxItems _ h => exact .w_maxItems _ (h.kept hu hr)
  | w_minLength _ h => exact .w_minLength _ (h.kept hu hr)
  | w_maxLength _ h => exact .w_maxLength _ (h.kept hu hr)
  | w_minimum _ h => exact .w_minimum _ (h.kept hu hr)
  | w_maximum _ h => exact .w_maximum _ (h.kept hu hr)
  | w_divisible _ h => exact .w_divisible _ (h.kept hu hr)
  | w_anyOf => exact .w_anyOf
  | w_allOf => exact .w_allOf
  | w_not => exact .w_not
/-- the map of makers, as far as it has come -/
def MakersAt (w : World) (B base : Nat) (E : List (ByteArray × Value)) : Prop := MkAt w B E ∧ B < base ∧ ∀ s v, lookE E s = some v → MakerV w base s v
theorem MakersAt.put {w w' : World} {B base : Nat} {E : List (ByteArray × Value)} (h : MakersAt w B base E) {s : ByteArray} {u : Value} (hm : MkAt w' B ((s, u) :: E)) (hu : Upd w w' (some B) (some B)) (hv : MakerV w base s u) : MakersAt w' B base ((s, u) :: E) := by
  have hr : ∀ g, some B = some g → g < base := fun g e => by injection e with e; have := h.2.1; omega
  refine ⟨hm, h.2.1, fun x v hx => ?_⟩
  rw [lookE] at hx
  by_cases he : x = s
  · rw [if_pos he] at hx
    injection hx with hx
    rw [he, ← hx]
    exact hv.kept hu hr
  · rw [if_neg he] at hx
    exact (h.2.2 x v hx).kept hu hr
theorem MakersAt.below {w w' : World} {B base : Nat} {E : List (ByteArray × Value)} (h : MakersAt w B base E) (hb : Below w.heap.size w w') : MakersAt w' B base E :=
  ⟨h.1.below hb, h.2.1, fun x v hx => (h.2.2 x v hx).kept (Upd.of_below hb none) (fun g e => by cases e)⟩
end Go.Proofs.YtnmojmmgkipjcaaGreatDoor
namespace Go.Proofs.YtnmojmmgkipjcaaGreatDoor
open Go.RowKit
attribute [local go_sem] run_makeMap
theorem SizedV.mono {w : World} {a b f : Nat} {m : Bool} {v : Value} (h : SizedV w a f m v) (hb : b ≤ a) : SizedV w b f m v := by
  obtain ⟨x, y, e, h1, h2, h3⟩ := h
  exact ⟨x, y, e, by omega, by omega, h3⟩
theorem RangedV.mono {w : World} {a b f : Nat} {m : Int} {v : Value} (h : RangedV w a f m v) (hb : b ≤ a) : RangedV w b f m v := by
  obtain ⟨x, y, e, h1, h2, h3⟩ := h
  exact ⟨x, y, e, by omega, by omega, h3⟩
theorem MakersAt.out_ {w : World} {B base : Nat} {E : List (ByteArray × Value)} (h : MakersAt w B base E) : MkAt w B E := h.1
theorem upd_below_ {w a b : World} (h : Below w.heap.size w a) (hu : Upd a b (some w.heap.size) (some w.heap.size)) : Below w.heap.size w b := h.trans (hu.below h.size (fun g e => by injection e with e; omega))
theorem upd_size_ {a b : World} {n : Nat} {r r' : Option Nat} (h : n ≤ a.heap.size) (hu : Upd a b r r') : n ≤ b.heap.size := Nat.le_trans h hu.grown.size
theorem below_below_ {w a b : World} (h : Below w.heap.size w a) (hb : Below a.heap.size a b) : Below w.heap.size w b := h.trans (hb.mono h.size)
theorem below_size_ {a b : World} {n : Nat} (h : n ≤ a.heap.size) (hb : Below a.heap.size a b) : n ≤ b.heap.size := Nat.le_trans h hb.size
def makerWords : List ByteArray := [⟨#[116, 121, 112, 101]⟩, ⟨#[101, 110, 117, 109]⟩, ⟨#[114, 101, 113, 117, 105, 114, 101, 100]⟩, ⟨#[112, 114, 111, 112, 101, 114, 116, 105, 101, 115]⟩, ⟨#[97, 100, 100, 105, 116, 105, 111, 110, 97, 108]⟩, ⟨#[105, 116, 101, 109, 115]⟩, ⟨#[109, 105, 110, 73, 116, 101, 109, 115]⟩, ⟨#[109, 97, 120, 73, 116, 101, 109, 115]⟩, ⟨#[109, 105, 110, 76, 101, 110, 103, 116, 104]⟩, ⟨#[109, 97, 120, 76, 101, 110, 103, 116, 104]⟩, ⟨#[109, 105, 110, 105, 109, 117, 109]⟩, ⟨#[109, 97, 120, 105, 109, 117, 109]⟩, ⟨#[100, 105, 118, 105, 115, 105, 98, 108, 101]⟩, ⟨#[97, 110, 121, 79, 102]⟩, ⟨#[97, 108, 108, 79, 102]⟩, ⟨#[110, 111, 116]⟩]
/-- what makers answers -/
def MakersPost (w : World) (e : Ending) (w' : World) : Prop := ∃ B E, e = .returned (.map (some B)) ∧ MakersAt w' B (B + 1) E ∧ E.map Prod.fst = makerWords.reverse ∧ Below w.heap.size w w' ∧ w.heap.size ≤ B
set_option maxRecDepth 20000 in
set_option maxHeartbeats 8000000 in
theorem makers_c (w : World) : Calls Tryz.prog 32 #[] w (MakersPost w) := by
  have hmm : MakersAt (w.alloc (.map #[] 0)) w.heap.size (w.heap.size + 1) [] := ⟨mk_new w, by omega, fun s v h => by cases h⟩
  have hbl : Below w.heap.size w (w.alloc (.map #[] 0)) := (Below.refl _ _).alloc (Nat.le_refl _) _
  have hsz : w.heap.size + 1 ≤ (w.alloc (.map #[] 0)).heap.size := by simp
  go_enter Tryz.func32, Tryz.ntmps32
  go_wp2_with (first
    | (refine wpList_mk (by rfl) _ _ _ (by rfl) (by rfl) (MakersAt.out_ (by assumption)) _ _ (by rfl) (by decide) (by rfl) (by simp) ?_; intro w1 hm1 hu1; have hmm := MakersAt.put (by assumption) hm1 hu1 (by first | exact MakerV.w_type | exact MakerV.w_enum | exact MakerV.w_required | exact MakerV.w_properties | exact MakerV.w_additional | exact MakerV.w_items | exact MakerV.w_minItems _ (by assumption) | exact MakerV.w_maxItems _ (by assumption) | exact MakerV.w_minLength _ (by assumption) | exact MakerV.w_maxLength _ (by assumption) | exact MakerV.w_minimum _ (by assumption) | exact MakerV.w_maximum _ (by assumption) | exact MakerV.w_divisible _ (by assumption) | exact MakerV.w_anyOf | exact MakerV.w_allOf | exact MakerV.w_not); have hbl := upd_below_ (by assumption) hu1; have hsz := upd_size_ (by assumption) hu1; clear hm1 hu1)
    | (go_at_call 46; refine (sized_c _ _ _).mono ?_; rintro e w1 ⟨v1, rfl, hsv, hb1⟩; have hsv := SizedV.mono (b := w.heap.size + 1) hsv (by assumption); have hmm := MakersAt.below (by assumption) hb1; have hbl := below_below_ (by assumption) hb1; have hsz := below_size_ (by assumption) hb1; clear hb1)
    | (go_at_call 52; refine (ranged_c _ _ _).mono ?_; rintro e w1 ⟨v1, rfl, hsv, hb1⟩; have hsv := RangedV.mono (b := w.heap.size + 1) hsv (by assumption); have hmm := MakersAt.below (by assumption) hb1; have hbl := below_below_ (by assumption) hb1; have hsz := below_size_ (by assumption) hb1; clear hb1))
  go_ret
  exact ⟨_, _, rfl, by assumption, rfl, by assumption, Nat.le_refl _⟩
end Go.Proofs.YtnmojmmgkipjcaaGreatDoor
